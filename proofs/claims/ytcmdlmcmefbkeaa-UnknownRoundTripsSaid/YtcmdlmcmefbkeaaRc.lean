/- The code of functions of the program, as the abstract machine has it. -/
import Derived.Test.YtcmdlmcmefbkeaaAmr
import Derived.Test.YtcmdlmcmefbkeaaProg
namespace Go.Proofs.Ytcmdlmcmefbkeaa.Rc
open Go Am

/- wireschema/varint.Put -/
def g30_0 : List Am.Item := [
    ⟨(some 2), .val (.mov (.c (.str []))), none⟩]
def g30_1 : List Am.Item := [
    ⟨(some 3), .val (.mov (.c (.nils))), none⟩]
def g30_2 : List Am.Item := [
    ⟨(some 4), .val (.mov (.t 0)), none⟩,
    ⟨(some 5), .val (.bin .num .geq (.t 4) (.c (.int .u64 128))), none⟩]
def g30_3 : List Am.Item := [
    ⟨(some 6), .val (.mov (.t 3)), none⟩,
    ⟨(some 7), .val (.mov (.t 0)), none⟩,
    ⟨(some 8), .val (.cvi .u8 (.t 7)), none⟩,
    ⟨(some 9), .val (.bin .num .or (.t 8) (.c (.int .u8 128))), none⟩,
    ⟨(some 10), .bsl 1 1 [.int .u8 0] [(0, 1, (.t 9))], none⟩,
    ⟨(some 11), .app 1 1 5 (.t 6) (.t 10), none⟩,
    ⟨(some 3), .val (.mov (.t 11)), none⟩]
def g30_4 : List Am.Item := [
    ⟨(some 12), .val (.mov (.t 0)), none⟩,
    ⟨(some 13), .val (.bin .num .shr (.t 12) (.c (.int .u64 7))), none⟩,
    ⟨(some 0), .val (.mov (.t 13)), none⟩]
def l30_0 : RC := .seq (.seq (.reg g30_2) (.cond (.t 5) (.skip) (.exit 0))) (.block 1 (.seq (.reg g30_3) (.reg g30_4)))
def g30_5 : List Am.Item := [
    ⟨(some 14), .val (.mov (.t 3)), none⟩,
    ⟨(some 15), .val (.mov (.t 0)), none⟩,
    ⟨(some 16), .val (.cvi .u8 (.t 15)), none⟩,
    ⟨(some 17), .bsl 1 1 [.int .u8 0] [(0, 1, (.t 16))], none⟩,
    ⟨(some 18), .app 1 1 5 (.t 14) (.t 17), none⟩,
    ⟨(some 19), .val (.b2s (.t 18)), none⟩,
    ⟨(some 2), .val (.mov (.t 19)), none⟩]
def r30 : RC := .seq (.reg g30_0) (.seq (.reg g30_1) (.gho (.vec 3 3 1) (.seq (.block 0 (.loop l30_0)) (.seq (.reg g30_5) (.ret)))))
def o30 : List RR := [.tmp 2]
theorem k30 : chkC Try.prog 20 r30 (Try.f30.body.getD .skip) = true := by decide +kernel
theorem q30 : chkR Try.prog Try.f30.results.toList o30 = true := by decide +kernel

/- wireschema/wireschemaref01.Put -/
def g31_0 : List Am.Item := [
    ⟨(some 2), .val (.mov (.c (.str []))), none⟩]
def g31_1 : List Am.Item := [
    ⟨(some 3), .val (.mov (.c (.nils))), none⟩]
def g31_2 : List Am.Item := [
    ⟨(some 4), .val (.mov (.t 0)), none⟩,
    ⟨(some 5), .val (.bin .num .geq (.t 4) (.c (.int .u64 128))), none⟩]
def g31_3 : List Am.Item := [
    ⟨(some 6), .val (.mov (.t 3)), none⟩,
    ⟨(some 7), .val (.mov (.t 0)), none⟩,
    ⟨(some 8), .val (.bin .num .rem (.t 7) (.c (.int .u64 128))), none⟩,
    ⟨(some 9), .val (.bin .num .add (.t 8) (.c (.int .u64 128))), none⟩,
    ⟨(some 10), .val (.cvi .u8 (.t 9)), none⟩,
    ⟨(some 11), .bsl 1 1 [.int .u8 0] [(0, 1, (.t 10))], none⟩,
    ⟨(some 12), .app 1 1 5 (.t 6) (.t 11), none⟩,
    ⟨(some 3), .val (.mov (.t 12)), none⟩]
def g31_4 : List Am.Item := [
    ⟨(some 13), .val (.mov (.t 0)), none⟩,
    ⟨(some 14), .val (.bin .num .quo (.t 13) (.c (.int .u64 128))), none⟩,
    ⟨(some 0), .val (.mov (.t 14)), none⟩]
def l31_0 : RC := .seq (.seq (.reg g31_2) (.cond (.t 5) (.skip) (.exit 0))) (.block 1 (.seq (.reg g31_3) (.reg g31_4)))
def g31_5 : List Am.Item := [
    ⟨(some 15), .val (.mov (.t 3)), none⟩,
    ⟨(some 16), .val (.mov (.t 0)), none⟩,
    ⟨(some 17), .val (.cvi .u8 (.t 16)), none⟩,
    ⟨(some 18), .bsl 1 1 [.int .u8 0] [(0, 1, (.t 17))], none⟩,
    ⟨(some 19), .app 1 1 5 (.t 15) (.t 18), none⟩,
    ⟨(some 20), .val (.b2s (.t 19)), none⟩,
    ⟨(some 2), .val (.mov (.t 20)), none⟩]
def r31 : RC := .seq (.reg g31_0) (.seq (.reg g31_1) (.gho (.vec 3 3 1) (.seq (.block 0 (.loop l31_0)) (.seq (.reg g31_5) (.ret)))))
def o31 : List RR := [.tmp 2]
theorem k31 : chkC Try.prog 21 r31 (Try.f31.body.getD .skip) = true := by decide +kernel
theorem q31 : chkR Try.prog Try.f31.results.toList o31 = true := by decide +kernel

/- wireschema/varint.Take -/
def g52_0 : List Am.Item := [
    ⟨(some 2), .val (.mov (.c (.int .u64 0))), none⟩,
    ⟨(some 3), .val (.mov (.c (.int .i64 0))), none⟩,
    ⟨(some 4), .val (.mov (.c (.int .i64 0))), none⟩]
def g52_1 : List Am.Item := [
    ⟨(some 5), .val (.mov (.c (.int .u64 0))), none⟩]
def g52_2 : List Am.Item := [
    ⟨(some 6), .val (.mov (.c (.int .i64 0))), none⟩]
def g52_3 : List Am.Item := [
    ⟨(some 8), .val (.mov (.t 6)), none⟩,
    ⟨(some 9), .val (.mov (.t 0)), none⟩,
    ⟨(some 10), .val (.len 0 (.t 9)), none⟩,
    ⟨(some 11), .val (.bin .num .eql (.t 8) (.t 10)), none⟩]
def g52_4 : List Am.Item := [
    ⟨(some 2), .val (.mov (.c (.int .u64 0))), none⟩,
    ⟨(some 3), .val (.mov (.c (.int .i64 0))), none⟩,
    ⟨(some 4), .val (.mov (.c (.int .i64 4))), none⟩]
def g52_5 : List Am.Item := [
    ⟨(some 12), .val (.mov (.t 0)), none⟩,
    ⟨(some 13), .val (.mov (.t 6)), none⟩,
    ⟨(some 14), .val (.idx (.t 12) (.t 13)), none⟩,
    ⟨(some 7), .val (.mov (.t 14)), none⟩]
def g52_6 : List Am.Item := [
    ⟨(some 15), .val (.mov (.t 6)), none⟩,
    ⟨(some 16), .val (.bin .num .eql (.t 15) (.c (.int .i64 9))), none⟩,
    ⟨(some 17), .val (.mov (.t 16)), none⟩,
    ⟨(some 18), .val (.mov (.t 7)), (some (17, true))⟩,
    ⟨(some 19), .val (.bin .num .gtr (.t 18) (.c (.int .u8 1))), (some (17, true))⟩,
    ⟨(some 20), .val (.pick (.t 17) (.t 19) (.c (.bool false))), none⟩]
def g52_7 : List Am.Item := [
    ⟨(some 2), .val (.mov (.c (.int .u64 0))), none⟩,
    ⟨(some 3), .val (.mov (.c (.int .i64 0))), none⟩,
    ⟨(some 4), .val (.mov (.c (.int .i64 6))), none⟩]
def g52_8 : List Am.Item := [
    ⟨(some 21), .val (.mov (.t 5)), none⟩,
    ⟨(some 22), .val (.mov (.t 7)), none⟩,
    ⟨(some 23), .val (.bin .num .and (.t 22) (.c (.int .u8 127))), none⟩,
    ⟨(some 24), .val (.cvi .u64 (.t 23)), none⟩,
    ⟨(some 25), .val (.mov (.t 6)), none⟩,
    ⟨(some 26), .val (.bin .num .mul (.c (.int .i64 7)) (.t 25)), none⟩,
    ⟨(some 27), .val (.bin .num .shl (.t 24) (.t 26)), none⟩,
    ⟨(some 28), .val (.bin .num .or (.t 21) (.t 27)), none⟩,
    ⟨(some 5), .val (.mov (.t 28)), none⟩]
def g52_9 : List Am.Item := [
    ⟨(some 29), .val (.mov (.t 6)), none⟩,
    ⟨(some 30), .val (.bin .num .add (.t 29) (.c (.int .i64 1))), none⟩,
    ⟨(some 6), .val (.mov (.t 30)), none⟩]
def g52_10 : List Am.Item := [
    ⟨(some 32), .val (.mov (.t 7)), none⟩,
    ⟨(some 33), .val (.bin .num .lss (.t 32) (.c (.int .u8 128))), none⟩,
    ⟨(some 31), .val (.mov (.t 33)), none⟩]
def l52_0 : RC := .block 1 (.seq (.seq (.reg g52_3) (.cond (.t 11) (.seq (.reg g52_4) (.ret)) (.skip))) (.seq (.reg g52_5) (.seq (.seq (.reg g52_6) (.cond (.t 20) (.seq (.reg g52_7) (.ret)) (.skip))) (.seq (.reg g52_8) (.seq (.reg g52_9) (.block 2 (.seq (.reg g52_10) (.cond (.t 31) (.exit 0) (.skip)))))))))
def g52_11 : List Am.Item := [
    ⟨(some 34), .val (.mov (.t 5)), none⟩,
    ⟨(some 35), .val (.mov (.t 6)), none⟩,
    ⟨(some 2), .val (.mov (.t 34)), none⟩,
    ⟨(some 3), .val (.mov (.t 35)), none⟩,
    ⟨(some 4), .val (.mov (.c (.int .i64 0))), none⟩]
def r52 : RC := .seq (.reg g52_0) (.scope (.seq (.reg g52_1) (.seq (.reg g52_2) (.seq (.lab) (.seq (.block 0 (.loop l52_0)) (.seq (.reg g52_11) (.ret)))))))
def o52 : List RR := [.tmp 2, .tmp 3, .tmp 4]
theorem k52 : chkC Try.prog 36 r52 (Try.f52.body.getD .skip) = true := by decide +kernel
theorem q52 : chkR Try.prog Try.f52.results.toList o52 = true := by decide +kernel

/- wireschema/wireschemaref01.Take -/
def g55_0 : List Am.Item := [
    ⟨(some 2), .val (.mov (.c (.int .u64 0))), none⟩,
    ⟨(some 3), .val (.mov (.c (.int .i64 0))), none⟩,
    ⟨(some 4), .val (.mov (.c (.int .i64 0))), none⟩]
def g55_1 : List Am.Item := [
    ⟨(some 5), .val (.mov (.c (.int .u64 0))), none⟩,
    ⟨(some 6), .val (.mov (.c (.int .u64 1))), none⟩]
def g55_2 : List Am.Item := [
    ⟨(some 7), .val (.mov (.c (.int .i64 0))), none⟩]
def g55_3 : List Am.Item := [
    ⟨(some 9), .val (.mov (.t 7)), none⟩,
    ⟨(some 10), .val (.bin .num .lss (.t 9) (.c (.int .i64 10))), none⟩]
def g55_5 : List Am.Item := [
    ⟨(some 13), .val (.mov (.t 7)), none⟩,
    ⟨(some 14), .val (.mov (.t 0)), none⟩,
    ⟨(some 15), .val (.len 0 (.t 14)), none⟩,
    ⟨(some 16), .val (.bin .num .geq (.t 13) (.t 15)), none⟩]
def g55_6 : List Am.Item := [
    ⟨(some 2), .val (.mov (.c (.int .u64 0))), none⟩,
    ⟨(some 3), .val (.mov (.c (.int .i64 0))), none⟩,
    ⟨(some 4), .val (.mov (.c (.int .i64 4))), none⟩]
def g55_7 : List Am.Item := [
    ⟨(some 17), .val (.mov (.t 0)), none⟩,
    ⟨(some 18), .val (.mov (.t 7)), none⟩,
    ⟨(some 19), .val (.idx (.t 17) (.t 18)), none⟩,
    ⟨(some 20), .val (.cvi .u64 (.t 19)), none⟩,
    ⟨(some 8), .val (.mov (.t 20)), none⟩]
def g55_8 : List Am.Item := [
    ⟨(some 21), .val (.mov (.t 7)), none⟩,
    ⟨(some 22), .val (.bin .num .eql (.t 21) (.c (.int .i64 9))), none⟩,
    ⟨(some 23), .val (.mov (.t 22)), none⟩,
    ⟨(some 24), .val (.mov (.t 8)), (some (23, true))⟩,
    ⟨(some 25), .val (.bin .num .gtr (.t 24) (.c (.int .u64 1))), (some (23, true))⟩,
    ⟨(some 26), .val (.pick (.t 23) (.t 25) (.c (.bool false))), none⟩]
def g55_9 : List Am.Item := [
    ⟨(some 2), .val (.mov (.c (.int .u64 0))), none⟩,
    ⟨(some 3), .val (.mov (.c (.int .i64 0))), none⟩,
    ⟨(some 4), .val (.mov (.c (.int .i64 6))), none⟩]
def g55_10 : List Am.Item := [
    ⟨(some 27), .val (.mov (.t 5)), none⟩,
    ⟨(some 28), .val (.mov (.t 8)), none⟩,
    ⟨(some 29), .val (.bin .num .rem (.t 28) (.c (.int .u64 128))), none⟩,
    ⟨(some 30), .val (.mov (.t 6)), none⟩,
    ⟨(some 31), .val (.bin .num .mul (.t 29) (.t 30)), none⟩,
    ⟨(some 32), .val (.bin .num .add (.t 27) (.t 31)), none⟩,
    ⟨(some 5), .val (.mov (.t 32)), none⟩]
def g55_11 : List Am.Item := [
    ⟨(some 33), .val (.mov (.t 8)), none⟩,
    ⟨(some 34), .val (.bin .num .lss (.t 33) (.c (.int .u64 128))), none⟩]
def g55_12 : List Am.Item := [
    ⟨(some 35), .val (.mov (.t 5)), none⟩,
    ⟨(some 36), .val (.mov (.t 7)), none⟩,
    ⟨(some 37), .val (.bin .num .add (.t 36) (.c (.int .i64 1))), none⟩,
    ⟨(some 2), .val (.mov (.t 35)), none⟩,
    ⟨(some 3), .val (.mov (.t 37)), none⟩,
    ⟨(some 4), .val (.mov (.c (.int .i64 0))), none⟩]
def g55_13 : List Am.Item := [
    ⟨(some 38), .val (.mov (.t 6)), none⟩,
    ⟨(some 39), .val (.bin .num .mul (.t 38) (.c (.int .u64 128))), none⟩,
    ⟨(some 6), .val (.mov (.t 39)), none⟩]
def g55_4 : List Am.Item := [
    ⟨(some 11), .val (.mov (.t 7)), none⟩,
    ⟨(some 12), .val (.bin .num .add (.t 11) (.c (.int .i64 1))), none⟩,
    ⟨(some 7), .val (.mov (.t 12)), none⟩]
def l55_0 : RC := .seq (.seq (.reg g55_3) (.cond (.t 10) (.skip) (.exit 0))) (.seq (.block 1 (.seq (.seq (.reg g55_5) (.cond (.t 16) (.seq (.reg g55_6) (.ret)) (.skip))) (.seq (.reg g55_7) (.seq (.seq (.reg g55_8) (.cond (.t 26) (.seq (.reg g55_9) (.ret)) (.skip))) (.seq (.reg g55_10) (.seq (.seq (.reg g55_11) (.cond (.t 34) (.seq (.reg g55_12) (.ret)) (.skip))) (.reg g55_13))))))) (.reg g55_4))
def g55_14 : List Am.Item := [
    ⟨(some 2), .val (.mov (.c (.int .u64 0))), none⟩,
    ⟨(some 3), .val (.mov (.c (.int .i64 0))), none⟩,
    ⟨(some 4), .val (.mov (.c (.int .i64 6))), none⟩]
def r55 : RC := .seq (.reg g55_0) (.seq (.reg g55_1) (.seq (.seq (.reg g55_2) (.block 0 (.loop l55_0))) (.seq (.reg g55_14) (.ret))))
def o55 : List RR := [.tmp 2, .tmp 3, .tmp 4]
theorem k55 : chkC Try.prog 40 r55 (Try.f55.body.getD .skip) = true := by decide +kernel
theorem q55 : chkR Try.prog Try.f55.results.toList o55 = true := by decide +kernel

/- wireschema/varint.Fixed -/
def g44_0 : List Am.Item := [
    ⟨(some 2), .val (.mov (.c (.str []))), none⟩]
def g44_1 : List Am.Item := [
    ⟨(some 5), .mk 5 5 1 1 [.int .u8 0] (.c (.int .i64 8)) (.c (.int .i64 8)), none⟩,
    ⟨(some 3), .val (.mov (.t 5)), none⟩]
def g44_2 : List Am.Item := [
    ⟨(some 6), .val (.mov (.t 3)), none⟩,
    ⟨(some 7), .val (.len 1 (.t 6)), none⟩,
    ⟨(some 8), .val (.mov (.c (.int .i64 0))), none⟩]
def g44_3 : List Am.Item := [
    ⟨(some 9), .val (.bin .num .lss (.t 8) (.t 7)), none⟩]
def g44_4 : List Am.Item := [
    ⟨(some 10), .val (.mov (.t 8)), none⟩,
    ⟨(some 4), .val (.mov (.t 10)), none⟩]
def g44_5 : List Am.Item := [
    ⟨(some 11), .val (.mov (.t 3)), none⟩,
    ⟨(some 12), .val (.mov (.t 4)), none⟩,
    ⟨(some 13), .val (.mov (.t 0)), none⟩,
    ⟨(some 14), .val (.mov (.t 4)), none⟩,
    ⟨(some 15), .val (.bin .num .mul (.c (.int .i64 8)) (.t 14)), none⟩,
    ⟨(some 16), .val (.bin .num .shr (.t 13) (.t 15)), none⟩,
    ⟨(some 17), .val (.cvi .u8 (.t 16)), none⟩,
    ⟨(some 18), .val (.iaddr 1 none (.t 11) (.t 12)), none⟩,
    ⟨none, .store 1 (.t 18) (.t 17), none⟩]
def g44_6 : List Am.Item := [
    ⟨(some 19), .val (.bin .num .add (.t 8) (.c (.int .i64 1))), none⟩,
    ⟨(some 8), .val (.mov (.t 19)), none⟩]
def l44_0 : RC := .seq (.reg g44_3) (.seq (.cond (.t 9) (.skip) (.exit 0)) (.seq (.block 1 (.seq (.reg g44_4) (.reg g44_5))) (.reg g44_6)))
def g44_7 : List Am.Item := [
    ⟨(some 20), .val (.mov (.t 3)), none⟩,
    ⟨(some 21), .val (.b2s (.t 20)), none⟩,
    ⟨(some 2), .val (.mov (.t 21)), none⟩]
def r44 : RC := .seq (.reg g44_0) (.seq (.reg g44_1) (.seq (.seq (.reg g44_2) (.block 0 (.loop l44_0))) (.seq (.reg g44_7) (.ret))))
def o44 : List RR := [.tmp 2]
theorem k44 : chkC Try.prog 22 r44 (Try.f44.body.getD .skip) = true := by decide +kernel
theorem q44 : chkR Try.prog Try.f44.results.toList o44 = true := by decide +kernel

/- wireschema/wireschemaref01.Fixed -/
def g47_0 : List Am.Item := [
    ⟨(some 2), .val (.mov (.c (.str []))), none⟩]
def g47_1 : List Am.Item := [
    ⟨(some 3), .val (.mov (.c (.nils))), none⟩]
def g47_2 : List Am.Item := [
    ⟨(some 4), .val (.mov (.c (.int .i64 0))), none⟩]
def g47_3 : List Am.Item := [
    ⟨(some 5), .val (.mov (.t 4)), none⟩,
    ⟨(some 6), .val (.bin .num .lss (.t 5) (.c (.int .i64 8))), none⟩]
def g47_5 : List Am.Item := [
    ⟨(some 9), .val (.mov (.t 3)), none⟩,
    ⟨(some 10), .val (.mov (.t 0)), none⟩,
    ⟨(some 11), .val (.bin .num .rem (.t 10) (.c (.int .u64 256))), none⟩,
    ⟨(some 12), .val (.cvi .u8 (.t 11)), none⟩,
    ⟨(some 13), .bsl 1 1 [.int .u8 0] [(0, 1, (.t 12))], none⟩,
    ⟨(some 14), .app 1 1 5 (.t 9) (.t 13), none⟩,
    ⟨(some 3), .val (.mov (.t 14)), none⟩]
def g47_6 : List Am.Item := [
    ⟨(some 15), .val (.mov (.t 0)), none⟩,
    ⟨(some 16), .val (.bin .num .quo (.t 15) (.c (.int .u64 256))), none⟩,
    ⟨(some 0), .val (.mov (.t 16)), none⟩]
def g47_4 : List Am.Item := [
    ⟨(some 7), .val (.mov (.t 4)), none⟩,
    ⟨(some 8), .val (.bin .num .add (.t 7) (.c (.int .i64 1))), none⟩,
    ⟨(some 4), .val (.mov (.t 8)), none⟩]
def l47_0 : RC := .seq (.seq (.reg g47_3) (.cond (.t 6) (.skip) (.exit 0))) (.seq (.block 1 (.seq (.reg g47_5) (.reg g47_6))) (.reg g47_4))
def g47_7 : List Am.Item := [
    ⟨(some 17), .val (.mov (.t 3)), none⟩,
    ⟨(some 18), .val (.b2s (.t 17)), none⟩,
    ⟨(some 2), .val (.mov (.t 18)), none⟩]
def r47 : RC := .seq (.reg g47_0) (.seq (.reg g47_1) (.gho (.vec 3 3 1) (.seq (.seq (.reg g47_2) (.block 0 (.loop l47_0))) (.seq (.reg g47_7) (.ret)))))
def o47 : List RR := [.tmp 2]
theorem k47 : chkC Try.prog 19 r47 (Try.f47.body.getD .skip) = true := by decide +kernel
theorem q47 : chkR Try.prog Try.f47.results.toList o47 = true := by decide +kernel

/- wireschema/varint.TakeFixed -/
def g67_0 : List Am.Item := [
    ⟨(some 2), .val (.mov (.c (.int .u64 0))), none⟩,
    ⟨(some 3), .val (.mov (.c (.int .i64 0))), none⟩]
def g67_1 : List Am.Item := [
    ⟨(some 6), .val (.mov (.t 0)), none⟩,
    ⟨(some 7), .val (.len 0 (.t 6)), none⟩,
    ⟨(some 8), .val (.bin .num .lss (.t 7) (.c (.int .i64 8))), none⟩]
def g67_2 : List Am.Item := [
    ⟨(some 2), .val (.mov (.c (.int .u64 0))), none⟩,
    ⟨(some 3), .val (.mov (.c (.int .i64 4))), none⟩]
def g67_3 : List Am.Item := [
    ⟨(some 4), .val (.mov (.c (.int .u64 0))), none⟩]
def g67_4 : List Am.Item := [
    ⟨(some 9), .val (.mov (.c (.int .i64 0))), none⟩]
def g67_5 : List Am.Item := [
    ⟨(some 10), .val (.bin .num .lss (.t 9) (.c (.int .i64 8))), none⟩]
def g67_6 : List Am.Item := [
    ⟨(some 11), .val (.mov (.t 9)), none⟩,
    ⟨(some 5), .val (.mov (.t 11)), none⟩]
def g67_7 : List Am.Item := [
    ⟨(some 12), .val (.mov (.t 4)), none⟩,
    ⟨(some 13), .val (.mov (.t 0)), none⟩,
    ⟨(some 14), .val (.mov (.t 5)), none⟩,
    ⟨(some 15), .val (.idx (.t 13) (.t 14)), none⟩,
    ⟨(some 16), .val (.cvi .u64 (.t 15)), none⟩,
    ⟨(some 17), .val (.mov (.t 5)), none⟩,
    ⟨(some 18), .val (.bin .num .mul (.c (.int .i64 8)) (.t 17)), none⟩,
    ⟨(some 19), .val (.bin .num .shl (.t 16) (.t 18)), none⟩,
    ⟨(some 20), .val (.bin .num .or (.t 12) (.t 19)), none⟩,
    ⟨(some 4), .val (.mov (.t 20)), none⟩]
def g67_8 : List Am.Item := [
    ⟨(some 21), .val (.bin .num .add (.t 9) (.c (.int .i64 1))), none⟩,
    ⟨(some 9), .val (.mov (.t 21)), none⟩]
def l67_0 : RC := .seq (.reg g67_5) (.seq (.cond (.t 10) (.skip) (.exit 0)) (.seq (.block 1 (.seq (.reg g67_6) (.reg g67_7))) (.reg g67_8)))
def g67_9 : List Am.Item := [
    ⟨(some 22), .val (.mov (.t 4)), none⟩,
    ⟨(some 2), .val (.mov (.t 22)), none⟩,
    ⟨(some 3), .val (.mov (.c (.int .i64 0))), none⟩]
def r67 : RC := .seq (.reg g67_0) (.seq (.seq (.reg g67_1) (.cond (.t 8) (.seq (.reg g67_2) (.ret)) (.skip))) (.seq (.reg g67_3) (.seq (.seq (.reg g67_4) (.block 0 (.loop l67_0))) (.seq (.reg g67_9) (.ret)))))
def o67 : List RR := [.tmp 2, .tmp 3]
theorem k67 : chkC Try.prog 23 r67 (Try.f67.body.getD .skip) = true := by decide +kernel
theorem q67 : chkR Try.prog Try.f67.results.toList o67 = true := by decide +kernel

/- wireschema/cursor.Open -/
def g38_0 : List Am.Item := [
    ⟨(some 3), .boxN 3 (.t 1), none⟩,
    ⟨(some 4), .allocN 4 [.str [], .int .i64 0, .int .i64 0, .int .i64 0, .int .i64 0, .int .i64 0], none⟩,
    ⟨(some 5), .val (.mov (.c (.int .i64 0))), none⟩]
def g38_1 : List Am.Item := [
    ⟨(some 7), .val (.faddr 0 (.t 3)), none⟩,
    ⟨(some 8), .val (.load none (.t 7)), none⟩,
    ⟨(some 9), .val (.bin .num .lss (.t 8) (.c (.int .i64 0))), none⟩,
    ⟨(some 10), .val (.mov (.t 9)), none⟩,
    ⟨(some 11), .val (.faddr 1 (.t 3)), (some (10, false))⟩,
    ⟨(some 12), .val (.load none (.t 11)), (some (10, false))⟩,
    ⟨(some 13), .val (.bin .num .lss (.t 12) (.c (.int .i64 0))), (some (10, false))⟩,
    ⟨(some 14), .val (.pick (.t 10) (.c (.bool true)) (.t 13)), none⟩,
    ⟨(some 15), .val (.mov (.t 14)), none⟩,
    ⟨(some 16), .val (.faddr 2 (.t 3)), (some (15, false))⟩,
    ⟨(some 17), .val (.load none (.t 16)), (some (15, false))⟩,
    ⟨(some 18), .val (.bin .num .lss (.t 17) (.c (.int .i64 0))), (some (15, false))⟩,
    ⟨(some 19), .val (.pick (.t 15) (.c (.bool true)) (.t 18)), none⟩,
    ⟨(some 20), .val (.mov (.t 19)), none⟩,
    ⟨(some 21), .val (.faddr 3 (.t 3)), (some (20, false))⟩,
    ⟨(some 22), .val (.load none (.t 21)), (some (20, false))⟩,
    ⟨(some 23), .val (.bin .num .lss (.t 22) (.c (.int .i64 0))), (some (20, false))⟩,
    ⟨(some 24), .val (.pick (.t 20) (.c (.bool true)) (.t 23)), none⟩,
    ⟨(some 6), .val (.mov (.t 24)), none⟩]
def g38_2 : List Am.Item := [
    ⟨(some 25), .val (.build [.str [], .int .i64 0, .int .i64 0, .int .i64 0, .int .i64 0, .int .i64 0] []), none⟩,
    ⟨none, .store 6 (.t 4) (.t 25), none⟩,
    ⟨(some 5), .val (.mov (.c (.int .i64 1))), none⟩]
def g38_3 : List Am.Item := [
    ⟨(some 27), .val (.mov (.t 0)), none⟩,
    ⟨(some 28), .val (.len 0 (.t 27)), none⟩,
    ⟨(some 29), .val (.faddr 0 (.t 3)), none⟩,
    ⟨(some 30), .val (.load none (.t 29)), none⟩,
    ⟨(some 31), .val (.bin .num .gtr (.t 28) (.t 30)), none⟩,
    ⟨(some 26), .val (.mov (.t 31)), none⟩]
def g38_4 : List Am.Item := [
    ⟨(some 32), .val (.build [.str [], .int .i64 0, .int .i64 0, .int .i64 0, .int .i64 0, .int .i64 0] []), none⟩,
    ⟨none, .store 6 (.t 4) (.t 32), none⟩,
    ⟨(some 5), .val (.mov (.c (.int .i64 3))), none⟩]
def g38_5 : List Am.Item := [
    ⟨(some 33), .val (.mov (.t 0)), none⟩,
    ⟨(some 34), .val (.mov (.t 0)), none⟩,
    ⟨(some 35), .val (.len 0 (.t 34)), none⟩,
    ⟨(some 36), .val (.faddr 1 (.t 3)), none⟩,
    ⟨(some 37), .val (.load none (.t 36)), none⟩,
    ⟨(some 38), .val (.faddr 2 (.t 3)), none⟩,
    ⟨(some 39), .val (.load none (.t 38)), none⟩,
    ⟨(some 40), .val (.faddr 3 (.t 3)), none⟩,
    ⟨(some 41), .val (.load none (.t 40)), none⟩,
    ⟨(some 42), .val (.build [.str [], .int .i64 0, .int .i64 0, .int .i64 0, .int .i64 0, .int .i64 0] [(0, 1, (.t 33)), (2, 1, (.t 35)), (3, 1, (.t 37)), (4, 1, (.t 39)), (5, 1, (.t 41))]), none⟩,
    ⟨none, .store 6 (.t 4) (.t 42), none⟩,
    ⟨(some 5), .val (.mov (.c (.int .i64 0))), none⟩]
def r38 : RC := .seq (.reg g38_0) (.seq (.block 0 (.seq (.reg g38_1) (.cond (.t 6) (.seq (.reg g38_2) (.ret)) (.seq (.reg g38_3) (.cond (.t 26) (.seq (.reg g38_4) (.ret)) (.skip)))))) (.seq (.reg g38_5) (.ret)))
def o38 : List RR := [.cell 4 (some 6), .tmp 5]
theorem k38 : chkC Try.prog 43 r38 (Try.f38.body.getD .skip) = true := by decide +kernel
theorem q38 : chkR Try.prog Try.f38.results.toList o38 = true := by decide +kernel

/- wireschema/cursor.Sound -/
def g65_0 : List Am.Item := [
    ⟨(some 1), .boxN 1 (.t 0), none⟩,
    ⟨(some 2), .val (.mov (.c (.bool false))), none⟩]
def g65_1 : List Am.Item := [
    ⟨(some 3), .val (.faddr 1 (.t 1)), none⟩,
    ⟨(some 4), .val (.load none (.t 3)), none⟩,
    ⟨(some 5), .val (.bin .num .geq (.t 4) (.c (.int .i64 0))), none⟩,
    ⟨(some 6), .val (.mov (.t 5)), none⟩,
    ⟨(some 7), .val (.faddr 1 (.t 1)), (some (6, true))⟩,
    ⟨(some 8), .val (.load none (.t 7)), (some (6, true))⟩,
    ⟨(some 9), .val (.faddr 2 (.t 1)), (some (6, true))⟩,
    ⟨(some 10), .val (.load none (.t 9)), (some (6, true))⟩,
    ⟨(some 11), .val (.bin .num .leq (.t 8) (.t 10)), (some (6, true))⟩,
    ⟨(some 12), .val (.pick (.t 6) (.t 11) (.c (.bool false))), none⟩,
    ⟨(some 13), .val (.mov (.t 12)), none⟩,
    ⟨(some 14), .val (.faddr 2 (.t 1)), (some (13, true))⟩,
    ⟨(some 15), .val (.load none (.t 14)), (some (13, true))⟩,
    ⟨(some 16), .val (.faddr 0 (.t 1)), (some (13, true))⟩,
    ⟨(some 17), .val (.load none (.t 16)), (some (13, true))⟩,
    ⟨(some 18), .val (.len 0 (.t 17)), (some (13, true))⟩,
    ⟨(some 19), .val (.bin .num .leq (.t 15) (.t 18)), (some (13, true))⟩,
    ⟨(some 20), .val (.pick (.t 13) (.t 19) (.c (.bool false))), none⟩,
    ⟨(some 2), .val (.mov (.t 20)), none⟩]
def r65 : RC := .seq (.reg g65_0) (.seq (.reg g65_1) (.ret))
def o65 : List RR := [.tmp 2]
theorem k65 : chkC Try.prog 21 r65 (Try.f65.body.getD .skip) = true := by decide +kernel
theorem q65 : chkR Try.prog Try.f65.results.toList o65 = true := by decide +kernel

/- wireschema/cursor.Left -/
def g68_0 : List Am.Item := [
    ⟨(some 1), .boxN 1 (.t 0), none⟩,
    ⟨(some 2), .val (.mov (.c (.int .i64 0))), none⟩]
def g68_1 : List Am.Item := [
    ⟨(some 3), .val (.load (some 6) (.t 1)), none⟩,
    ⟨(some 4), .call (.f 65) [(.t 3)], none⟩,
    ⟨(some 5), .val (.un .not (.t 4)), none⟩]
def g68_2 : List Am.Item := [
    ⟨(some 2), .val (.mov (.c (.int .i64 0))), none⟩]
def g68_3 : List Am.Item := [
    ⟨(some 6), .val (.faddr 2 (.t 1)), none⟩,
    ⟨(some 7), .val (.load none (.t 6)), none⟩,
    ⟨(some 8), .val (.faddr 1 (.t 1)), none⟩,
    ⟨(some 9), .val (.load none (.t 8)), none⟩,
    ⟨(some 10), .val (.bin .num .sub (.t 7) (.t 9)), none⟩,
    ⟨(some 2), .val (.mov (.t 10)), none⟩]
def r68 : RC := .seq (.reg g68_0) (.seq (.seq (.reg g68_1) (.cond (.t 5) (.seq (.reg g68_2) (.ret)) (.skip))) (.seq (.reg g68_3) (.ret)))
def o68 : List RR := [.tmp 2]
theorem k68 : chkC Try.prog 11 r68 (Try.f68.body.getD .skip) = true := by decide +kernel
theorem q68 : chkR Try.prog Try.f68.results.toList o68 = true := by decide +kernel

/- wireschema/cursor.head -/
def g53_0 : List Am.Item := [
    ⟨(some 2), .boxN 2 (.t 0), none⟩,
    ⟨(some 4), .val (.mov (.c (.str []))), none⟩]
def g53_1 : List Am.Item := [
    ⟨(some 5), .val (.load (some 6) (.t 2)), none⟩,
    ⟨(some 6), .call (.f 65) [(.t 5)], none⟩,
    ⟨(some 7), .val (.un .not (.t 6)), none⟩]
def g53_2 : List Am.Item := [
    ⟨(some 4), .val (.mov (.c (.str []))), none⟩]
def g53_3 : List Am.Item := [
    ⟨(some 8), .val (.faddr 0 (.t 2)), none⟩,
    ⟨(some 9), .val (.load none (.t 8)), none⟩,
    ⟨(some 10), .val (.faddr 1 (.t 2)), none⟩,
    ⟨(some 11), .val (.load none (.t 10)), none⟩,
    ⟨(some 12), .val (.faddr 2 (.t 2)), none⟩,
    ⟨(some 13), .val (.load none (.t 12)), none⟩,
    ⟨(some 14), .val (.faddr 1 (.t 2)), none⟩,
    ⟨(some 15), .val (.load none (.t 14)), none⟩,
    ⟨(some 16), .val (.mov (.t 1)), none⟩,
    ⟨(some 17), .val (.bin .num .add (.t 15) (.t 16)), none⟩,
    ⟨(some 18), .val (.mnx false (.t 13) (.t 17)), none⟩,
    ⟨(some 19), .val (.slc none (.t 9) (some (.t 11)) (some (.t 18)) none), none⟩,
    ⟨(some 4), .val (.mov (.t 19)), none⟩]
def r53 : RC := .seq (.reg g53_0) (.seq (.seq (.reg g53_1) (.cond (.t 7) (.seq (.reg g53_2) (.ret)) (.skip))) (.seq (.reg g53_3) (.ret)))
def o53 : List RR := [.tmp 4]
theorem k53 : chkC Try.prog 20 r53 (Try.f53.body.getD .skip) = true := by decide +kernel
theorem q53 : chkR Try.prog Try.f53.results.toList o53 = true := by decide +kernel

/- wireschema/cursor.ahead -/
def g54_0 : List Am.Item := [
    ⟨(some 2), .boxN 2 (.t 0), none⟩,
    ⟨(some 4), .allocN 4 [.str [], .int .i64 0, .int .i64 0, .int .i64 0, .int .i64 0, .int .i64 0], none⟩]
def g54_1 : List Am.Item := [
    ⟨(some 5), .val (.faddr 1 (.t 2)), none⟩,
    ⟨(some 6), .val (.load none (.t 5)), none⟩,
    ⟨(some 7), .val (.mov (.t 1)), none⟩,
    ⟨(some 8), .val (.bin .num .add (.t 6) (.t 7)), none⟩,
    ⟨(some 9), .val (.faddr 1 (.t 2)), none⟩,
    ⟨none, .store 1 (.t 9) (.t 8), none⟩]
def g54_2 : List Am.Item := [
    ⟨(some 10), .val (.load (some 6) (.t 2)), none⟩,
    ⟨none, .store 6 (.t 4) (.t 10), none⟩]
def r54 : RC := .seq (.reg g54_0) (.seq (.reg g54_1) (.seq (.reg g54_2) (.ret)))
def o54 : List RR := [.cell 4 (some 6)]
theorem k54 : chkC Try.prog 11 r54 (Try.f54.body.getD .skip) = true := by decide +kernel
theorem q54 : chkR Try.prog Try.f54.results.toList o54 = true := by decide +kernel

/- wireschema/cursor.Varint -/
def g32_0 : List Am.Item := [
    ⟨(some 1), .boxN 1 (.t 0), none⟩,
    ⟨(some 2), .val (.mov (.c (.int .u64 0))), none⟩,
    ⟨(some 3), .allocN 3 [.str [], .int .i64 0, .int .i64 0, .int .i64 0, .int .i64 0, .int .i64 0], none⟩,
    ⟨(some 4), .val (.mov (.c (.int .i64 0))), none⟩]
def g32_1 : List Am.Item := [
    ⟨(some 9), .val (.load (some 6) (.t 1)), none⟩,
    ⟨(some 10), .call (.f 53) [(.t 9), (.c (.int .i64 10))], none⟩,
    ⟨(some 11), .call (.f 52) [(.t 10)], none⟩,
    ⟨(some 8), .val (.mov (.t 11)), none⟩,
    ⟨(some 12), .val (.ext (.t 8) 0), none⟩,
    ⟨(some 13), .val (.ext (.t 8) 1), none⟩,
    ⟨(some 14), .val (.ext (.t 8) 2), none⟩,
    ⟨(some 5), .val (.mov (.t 12)), none⟩,
    ⟨(some 6), .val (.mov (.t 13)), none⟩,
    ⟨(some 7), .val (.mov (.t 14)), none⟩]
def g32_2 : List Am.Item := [
    ⟨(some 15), .val (.mov (.t 7)), none⟩,
    ⟨(some 16), .val (.bin .num .neq (.t 15) (.c (.int .i64 0))), none⟩]
def g32_3 : List Am.Item := [
    ⟨(some 17), .val (.loadv 0 1 (some 6) (.t 1)), none⟩,
    ⟨(some 18), .val (.mov (.t 7)), none⟩,
    ⟨(some 2), .val (.mov (.c (.int .u64 0))), none⟩,
    ⟨none, .storev 0 3 6 (.t 3) (.t 17), none⟩,
    ⟨(some 4), .val (.mov (.t 18)), none⟩]
def g32_4 : List Am.Item := [
    ⟨(some 19), .val (.mov (.t 5)), none⟩,
    ⟨(some 20), .val (.load (some 6) (.t 1)), none⟩,
    ⟨(some 21), .val (.mov (.t 6)), none⟩,
    ⟨(some 22), .call (.f 54) [(.t 20), (.t 21)], none⟩,
    ⟨(some 2), .val (.mov (.t 19)), none⟩,
    ⟨none, .store 6 (.t 3) (.t 22), none⟩,
    ⟨(some 4), .val (.mov (.c (.int .i64 0))), none⟩]
def r32 : RC := .seq (.reg g32_0) (.seq (.reg g32_1) (.seq (.seq (.reg g32_2) (.cond (.t 16) (.seq (.draw g32_3) (.ret)) (.skip))) (.seq (.reg g32_4) (.ret))))
def o32 : List RR := [.tmp 2, .cell 3 (some 6), .tmp 4]
theorem k32 : chkC Try.prog 23 r32 (Try.f32.body.getD .skip) = true := by decide +kernel
theorem q32 : chkR Try.prog Try.f32.results.toList o32 = true := by decide +kernel

/- wireschema/cursor.Fixed -/
def g58_0 : List Am.Item := [
    ⟨(some 1), .boxN 1 (.t 0), none⟩,
    ⟨(some 2), .val (.mov (.c (.int .u64 0))), none⟩,
    ⟨(some 3), .allocN 3 [.str [], .int .i64 0, .int .i64 0, .int .i64 0, .int .i64 0, .int .i64 0], none⟩,
    ⟨(some 4), .val (.mov (.c (.int .i64 0))), none⟩]
def g58_1 : List Am.Item := [
    ⟨(some 8), .val (.load (some 6) (.t 1)), none⟩,
    ⟨(some 9), .call (.f 53) [(.t 8), (.c (.int .i64 8))], none⟩,
    ⟨(some 10), .call (.f 67) [(.t 9)], none⟩,
    ⟨(some 7), .val (.mov (.t 10)), none⟩,
    ⟨(some 11), .val (.ext (.t 7) 0), none⟩,
    ⟨(some 12), .val (.ext (.t 7) 1), none⟩,
    ⟨(some 5), .val (.mov (.t 11)), none⟩,
    ⟨(some 6), .val (.mov (.t 12)), none⟩]
def g58_2 : List Am.Item := [
    ⟨(some 13), .val (.mov (.t 6)), none⟩,
    ⟨(some 14), .val (.bin .num .neq (.t 13) (.c (.int .i64 0))), none⟩]
def g58_3 : List Am.Item := [
    ⟨(some 15), .val (.loadv 0 1 (some 6) (.t 1)), none⟩,
    ⟨(some 16), .val (.mov (.t 6)), none⟩,
    ⟨(some 2), .val (.mov (.c (.int .u64 0))), none⟩,
    ⟨none, .storev 0 3 6 (.t 3) (.t 15), none⟩,
    ⟨(some 4), .val (.mov (.t 16)), none⟩]
def g58_4 : List Am.Item := [
    ⟨(some 17), .val (.mov (.t 5)), none⟩,
    ⟨(some 18), .val (.load (some 6) (.t 1)), none⟩,
    ⟨(some 19), .call (.f 54) [(.t 18), (.c (.int .i64 8))], none⟩,
    ⟨(some 2), .val (.mov (.t 17)), none⟩,
    ⟨none, .store 6 (.t 3) (.t 19), none⟩,
    ⟨(some 4), .val (.mov (.c (.int .i64 0))), none⟩]
def r58 : RC := .seq (.reg g58_0) (.seq (.reg g58_1) (.seq (.seq (.reg g58_2) (.cond (.t 14) (.seq (.draw g58_3) (.ret)) (.skip))) (.seq (.reg g58_4) (.ret))))
def o58 : List RR := [.tmp 2, .cell 3 (some 6), .tmp 4]
theorem k58 : chkC Try.prog 20 r58 (Try.f58.body.getD .skip) = true := by decide +kernel
theorem q58 : chkR Try.prog Try.f58.results.toList o58 = true := by decide +kernel

/- wireschema/cursor.Spend -/
def g34_0 : List Am.Item := [
    ⟨(some 2), .boxN 2 (.t 0), none⟩,
    ⟨(some 4), .allocN 4 [.str [], .int .i64 0, .int .i64 0, .int .i64 0, .int .i64 0, .int .i64 0], none⟩,
    ⟨(some 5), .val (.mov (.c (.int .i64 0))), none⟩]
def g34_1 : List Am.Item := [
    ⟨(some 7), .val (.mov (.t 1)), none⟩,
    ⟨(some 8), .val (.bin .num .lss (.t 7) (.c (.int .i64 0))), none⟩,
    ⟨(some 6), .val (.mov (.t 8)), none⟩]
def g34_2 : List Am.Item := [
    ⟨(some 9), .val (.load (some 6) (.t 2)), none⟩,
    ⟨none, .store 6 (.t 4) (.t 9), none⟩,
    ⟨(some 5), .val (.mov (.c (.int .i64 1))), none⟩]
def g34_3 : List Am.Item := [
    ⟨(some 11), .val (.mov (.t 1)), none⟩,
    ⟨(some 12), .val (.faddr 4 (.t 2)), none⟩,
    ⟨(some 13), .val (.load none (.t 12)), none⟩,
    ⟨(some 14), .val (.bin .num .gtr (.t 11) (.t 13)), none⟩,
    ⟨(some 10), .val (.mov (.t 14)), none⟩]
def g34_4 : List Am.Item := [
    ⟨(some 15), .val (.load (some 6) (.t 2)), none⟩,
    ⟨none, .store 6 (.t 4) (.t 15), none⟩,
    ⟨(some 5), .val (.mov (.c (.int .i64 3))), none⟩]
def g34_5 : List Am.Item := [
    ⟨(some 16), .val (.faddr 4 (.t 2)), none⟩,
    ⟨(some 17), .val (.load none (.t 16)), none⟩,
    ⟨(some 18), .val (.mov (.t 1)), none⟩,
    ⟨(some 19), .val (.bin .num .sub (.t 17) (.t 18)), none⟩,
    ⟨(some 20), .val (.faddr 4 (.t 2)), none⟩,
    ⟨none, .store 1 (.t 20) (.t 19), none⟩]
def g34_6 : List Am.Item := [
    ⟨(some 21), .val (.load (some 6) (.t 2)), none⟩,
    ⟨none, .store 6 (.t 4) (.t 21), none⟩,
    ⟨(some 5), .val (.mov (.c (.int .i64 0))), none⟩]
def r34 : RC := .seq (.reg g34_0) (.seq (.block 0 (.seq (.reg g34_1) (.cond (.t 6) (.seq (.reg g34_2) (.ret)) (.seq (.reg g34_3) (.cond (.t 10) (.seq (.reg g34_4) (.ret)) (.skip)))))) (.seq (.reg g34_5) (.seq (.reg g34_6) (.ret))))
def o34 : List RR := [.cell 4 (some 6), .tmp 5]
theorem k34 : chkC Try.prog 22 r34 (Try.f34.body.getD .skip) = true := by decide +kernel
theorem q34 : chkR Try.prog Try.f34.results.toList o34 = true := by decide +kernel

/- wireschema/wireschemaref02.Open -/
def g40_0 : List Am.Item := [
    ⟨(some 3), .boxN 3 (.t 1), none⟩,
    ⟨(some 4), .allocN 4 [.str [], .int .i64 0, .int .i64 0, .int .i64 0, .int .i64 0, .int .i64 0], none⟩,
    ⟨(some 5), .val (.mov (.c (.int .i64 0))), none⟩]
def g40_1 : List Am.Item := [
    ⟨(some 6), .val (.faddr 0 (.t 3)), none⟩,
    ⟨(some 7), .val (.load none (.t 6)), none⟩,
    ⟨(some 8), .val (.bin .num .lss (.t 7) (.c (.int .i64 0))), none⟩,
    ⟨(some 9), .val (.mov (.t 8)), none⟩,
    ⟨(some 10), .val (.faddr 1 (.t 3)), (some (9, false))⟩,
    ⟨(some 11), .val (.load none (.t 10)), (some (9, false))⟩,
    ⟨(some 12), .val (.bin .num .lss (.t 11) (.c (.int .i64 0))), (some (9, false))⟩,
    ⟨(some 13), .val (.pick (.t 9) (.c (.bool true)) (.t 12)), none⟩,
    ⟨(some 14), .val (.mov (.t 13)), none⟩,
    ⟨(some 15), .val (.faddr 2 (.t 3)), (some (14, false))⟩,
    ⟨(some 16), .val (.load none (.t 15)), (some (14, false))⟩,
    ⟨(some 17), .val (.bin .num .lss (.t 16) (.c (.int .i64 0))), (some (14, false))⟩,
    ⟨(some 18), .val (.pick (.t 14) (.c (.bool true)) (.t 17)), none⟩,
    ⟨(some 19), .val (.mov (.t 18)), none⟩,
    ⟨(some 20), .val (.faddr 3 (.t 3)), (some (19, false))⟩,
    ⟨(some 21), .val (.load none (.t 20)), (some (19, false))⟩,
    ⟨(some 22), .val (.bin .num .lss (.t 21) (.c (.int .i64 0))), (some (19, false))⟩,
    ⟨(some 23), .val (.pick (.t 19) (.c (.bool true)) (.t 22)), none⟩]
def g40_2 : List Am.Item := [
    ⟨(some 24), .val (.build [.str [], .int .i64 0, .int .i64 0, .int .i64 0, .int .i64 0, .int .i64 0] []), none⟩,
    ⟨none, .store 6 (.t 4) (.t 24), none⟩,
    ⟨(some 5), .val (.mov (.c (.int .i64 1))), none⟩]
def g40_3 : List Am.Item := [
    ⟨(some 25), .val (.mov (.t 0)), none⟩,
    ⟨(some 26), .val (.len 0 (.t 25)), none⟩,
    ⟨(some 27), .val (.faddr 0 (.t 3)), none⟩,
    ⟨(some 28), .val (.load none (.t 27)), none⟩,
    ⟨(some 29), .val (.bin .num .gtr (.t 26) (.t 28)), none⟩]
def g40_4 : List Am.Item := [
    ⟨(some 30), .val (.build [.str [], .int .i64 0, .int .i64 0, .int .i64 0, .int .i64 0, .int .i64 0] []), none⟩,
    ⟨none, .store 6 (.t 4) (.t 30), none⟩,
    ⟨(some 5), .val (.mov (.c (.int .i64 3))), none⟩]
def g40_5 : List Am.Item := [
    ⟨(some 31), .val (.mov (.t 0)), none⟩,
    ⟨(some 32), .val (.mov (.t 0)), none⟩,
    ⟨(some 33), .val (.len 0 (.t 32)), none⟩,
    ⟨(some 34), .val (.faddr 1 (.t 3)), none⟩,
    ⟨(some 35), .val (.load none (.t 34)), none⟩,
    ⟨(some 36), .val (.faddr 2 (.t 3)), none⟩,
    ⟨(some 37), .val (.load none (.t 36)), none⟩,
    ⟨(some 38), .val (.faddr 3 (.t 3)), none⟩,
    ⟨(some 39), .val (.load none (.t 38)), none⟩,
    ⟨(some 40), .val (.build [.str [], .int .i64 0, .int .i64 0, .int .i64 0, .int .i64 0, .int .i64 0] [(0, 1, (.t 31)), (2, 1, (.t 33)), (3, 1, (.t 35)), (4, 1, (.t 37)), (5, 1, (.t 39))]), none⟩,
    ⟨none, .store 6 (.t 4) (.t 40), none⟩,
    ⟨(some 5), .val (.mov (.c (.int .i64 0))), none⟩]
def r40 : RC := .seq (.reg g40_0) (.seq (.seq (.reg g40_1) (.cond (.t 23) (.seq (.reg g40_2) (.ret)) (.skip))) (.seq (.seq (.reg g40_3) (.cond (.t 29) (.seq (.reg g40_4) (.ret)) (.skip))) (.seq (.reg g40_5) (.ret))))
def o40 : List RR := [.cell 4 (some 6), .tmp 5]
theorem k40 : chkC Try.prog 41 r40 (Try.f40.body.getD .skip) = true := by decide +kernel
theorem q40 : chkR Try.prog Try.f40.results.toList o40 = true := by decide +kernel

/- wireschema/wireschemaref02.Sound -/
def g66_0 : List Am.Item := [
    ⟨(some 1), .boxN 1 (.t 0), none⟩,
    ⟨(some 2), .val (.mov (.c (.bool false))), none⟩]
def g66_1 : List Am.Item := [
    ⟨(some 3), .val (.faddr 1 (.t 1)), none⟩,
    ⟨(some 4), .val (.load none (.t 3)), none⟩,
    ⟨(some 5), .val (.bin .num .leq (.c (.int .i64 0)) (.t 4)), none⟩,
    ⟨(some 6), .val (.mov (.t 5)), none⟩,
    ⟨(some 7), .val (.faddr 1 (.t 1)), (some (6, true))⟩,
    ⟨(some 8), .val (.load none (.t 7)), (some (6, true))⟩,
    ⟨(some 9), .val (.faddr 2 (.t 1)), (some (6, true))⟩,
    ⟨(some 10), .val (.load none (.t 9)), (some (6, true))⟩,
    ⟨(some 11), .val (.bin .num .leq (.t 8) (.t 10)), (some (6, true))⟩,
    ⟨(some 12), .val (.pick (.t 6) (.t 11) (.c (.bool false))), none⟩,
    ⟨(some 13), .val (.mov (.t 12)), none⟩,
    ⟨(some 14), .val (.faddr 2 (.t 1)), (some (13, true))⟩,
    ⟨(some 15), .val (.load none (.t 14)), (some (13, true))⟩,
    ⟨(some 16), .val (.faddr 0 (.t 1)), (some (13, true))⟩,
    ⟨(some 17), .val (.load none (.t 16)), (some (13, true))⟩,
    ⟨(some 18), .val (.len 0 (.t 17)), (some (13, true))⟩,
    ⟨(some 19), .val (.bin .num .leq (.t 15) (.t 18)), (some (13, true))⟩,
    ⟨(some 20), .val (.pick (.t 13) (.t 19) (.c (.bool false))), none⟩,
    ⟨(some 2), .val (.mov (.t 20)), none⟩]
def r66 : RC := .seq (.reg g66_0) (.seq (.reg g66_1) (.ret))
def o66 : List RR := [.tmp 2]
theorem k66 : chkC Try.prog 21 r66 (Try.f66.body.getD .skip) = true := by decide +kernel
theorem q66 : chkR Try.prog Try.f66.results.toList o66 = true := by decide +kernel

/- wireschema/wireschemaref02.rest -/
def g56_0 : List Am.Item := [
    ⟨(some 1), .boxN 1 (.t 0), none⟩,
    ⟨(some 2), .val (.mov (.c (.str []))), none⟩]
def g56_1 : List Am.Item := [
    ⟨(some 3), .val (.load (some 6) (.t 1)), none⟩,
    ⟨(some 4), .call (.f 66) [(.t 3)], none⟩,
    ⟨(some 5), .val (.un .not (.t 4)), none⟩]
def g56_2 : List Am.Item := [
    ⟨(some 2), .val (.mov (.c (.str []))), none⟩]
def g56_3 : List Am.Item := [
    ⟨(some 6), .val (.faddr 0 (.t 1)), none⟩,
    ⟨(some 7), .val (.load none (.t 6)), none⟩,
    ⟨(some 8), .val (.faddr 1 (.t 1)), none⟩,
    ⟨(some 9), .val (.load none (.t 8)), none⟩,
    ⟨(some 10), .val (.faddr 2 (.t 1)), none⟩,
    ⟨(some 11), .val (.load none (.t 10)), none⟩,
    ⟨(some 12), .val (.slc none (.t 7) (some (.t 9)) (some (.t 11)) none), none⟩,
    ⟨(some 2), .val (.mov (.t 12)), none⟩]
def r56 : RC := .seq (.reg g56_0) (.seq (.seq (.reg g56_1) (.cond (.t 5) (.seq (.reg g56_2) (.ret)) (.skip))) (.seq (.reg g56_3) (.ret)))
def o56 : List RR := [.tmp 2]
theorem k56 : chkC Try.prog 13 r56 (Try.f56.body.getD .skip) = true := by decide +kernel
theorem q56 : chkR Try.prog Try.f56.results.toList o56 = true := by decide +kernel

/- wireschema/wireschemaref02.Left -/
def g41_0 : List Am.Item := [
    ⟨(some 1), .boxN 1 (.t 0), none⟩,
    ⟨(some 2), .val (.mov (.c (.int .i64 0))), none⟩]
def g41_1 : List Am.Item := [
    ⟨(some 3), .val (.load (some 6) (.t 1)), none⟩,
    ⟨(some 4), .call (.f 56) [(.t 3)], none⟩,
    ⟨(some 5), .val (.len 0 (.t 4)), none⟩,
    ⟨(some 2), .val (.mov (.t 5)), none⟩]
def r41 : RC := .seq (.reg g41_0) (.seq (.reg g41_1) (.ret))
def o41 : List RR := [.tmp 2]
theorem k41 : chkC Try.prog 6 r41 (Try.f41.body.getD .skip) = true := by decide +kernel
theorem q41 : chkR Try.prog Try.f41.results.toList o41 = true := by decide +kernel

/- wireschema/wireschemaref02.behind -/
def g57_0 : List Am.Item := [
    ⟨(some 2), .boxN 2 (.t 0), none⟩,
    ⟨(some 4), .allocN 4 [.str [], .int .i64 0, .int .i64 0, .int .i64 0, .int .i64 0, .int .i64 0], none⟩]
def g57_1 : List Am.Item := [
    ⟨(some 5), .val (.faddr 1 (.t 2)), none⟩,
    ⟨(some 6), .val (.load none (.t 5)), none⟩,
    ⟨(some 7), .val (.mov (.t 1)), none⟩,
    ⟨(some 8), .val (.bin .num .add (.t 6) (.t 7)), none⟩,
    ⟨(some 9), .val (.faddr 1 (.t 2)), none⟩,
    ⟨none, .store 1 (.t 9) (.t 8), none⟩]
def g57_2 : List Am.Item := [
    ⟨(some 10), .val (.load (some 6) (.t 2)), none⟩,
    ⟨none, .store 6 (.t 4) (.t 10), none⟩]
def r57 : RC := .seq (.reg g57_0) (.seq (.reg g57_1) (.seq (.reg g57_2) (.ret)))
def o57 : List RR := [.cell 4 (some 6)]
theorem k57 : chkC Try.prog 11 r57 (Try.f57.body.getD .skip) = true := by decide +kernel
theorem q57 : chkR Try.prog Try.f57.results.toList o57 = true := by decide +kernel

/- wireschema/wireschemaref02.Varint -/
def g33_0 : List Am.Item := [
    ⟨(some 1), .boxN 1 (.t 0), none⟩,
    ⟨(some 2), .val (.mov (.c (.int .u64 0))), none⟩,
    ⟨(some 3), .allocN 3 [.str [], .int .i64 0, .int .i64 0, .int .i64 0, .int .i64 0, .int .i64 0], none⟩,
    ⟨(some 4), .val (.mov (.c (.int .i64 0))), none⟩]
def g33_1 : List Am.Item := [
    ⟨(some 9), .val (.load (some 6) (.t 1)), none⟩,
    ⟨(some 10), .call (.f 56) [(.t 9)], none⟩,
    ⟨(some 11), .call (.f 55) [(.t 10)], none⟩,
    ⟨(some 8), .val (.mov (.t 11)), none⟩,
    ⟨(some 12), .val (.ext (.t 8) 0), none⟩,
    ⟨(some 13), .val (.ext (.t 8) 1), none⟩,
    ⟨(some 14), .val (.ext (.t 8) 2), none⟩,
    ⟨(some 5), .val (.mov (.t 12)), none⟩,
    ⟨(some 6), .val (.mov (.t 13)), none⟩,
    ⟨(some 7), .val (.mov (.t 14)), none⟩]
def g33_2 : List Am.Item := [
    ⟨(some 15), .val (.mov (.t 7)), none⟩,
    ⟨(some 16), .val (.bin .num .neq (.t 15) (.c (.int .i64 0))), none⟩]
def g33_3 : List Am.Item := [
    ⟨(some 17), .val (.loadv 0 1 (some 6) (.t 1)), none⟩,
    ⟨(some 18), .val (.mov (.t 7)), none⟩,
    ⟨(some 2), .val (.mov (.c (.int .u64 0))), none⟩,
    ⟨none, .storev 0 3 6 (.t 3) (.t 17), none⟩,
    ⟨(some 4), .val (.mov (.t 18)), none⟩]
def g33_4 : List Am.Item := [
    ⟨(some 19), .val (.mov (.t 5)), none⟩,
    ⟨(some 20), .val (.load (some 6) (.t 1)), none⟩,
    ⟨(some 21), .val (.mov (.t 6)), none⟩,
    ⟨(some 22), .call (.f 57) [(.t 20), (.t 21)], none⟩,
    ⟨(some 2), .val (.mov (.t 19)), none⟩,
    ⟨none, .store 6 (.t 3) (.t 22), none⟩,
    ⟨(some 4), .val (.mov (.c (.int .i64 0))), none⟩]
def r33 : RC := .seq (.reg g33_0) (.seq (.reg g33_1) (.seq (.seq (.reg g33_2) (.cond (.t 16) (.seq (.draw g33_3) (.ret)) (.skip))) (.seq (.reg g33_4) (.ret))))
def o33 : List RR := [.tmp 2, .cell 3 (some 6), .tmp 4]
theorem k33 : chkC Try.prog 23 r33 (Try.f33.body.getD .skip) = true := by decide +kernel
theorem q33 : chkR Try.prog Try.f33.results.toList o33 = true := by decide +kernel

/- wireschema/wireschemaref02.Fixed -/
def g60_0 : List Am.Item := [
    ⟨(some 1), .boxN 1 (.t 0), none⟩,
    ⟨(some 2), .val (.mov (.c (.int .u64 0))), none⟩,
    ⟨(some 3), .allocN 3 [.str [], .int .i64 0, .int .i64 0, .int .i64 0, .int .i64 0, .int .i64 0], none⟩,
    ⟨(some 4), .val (.mov (.c (.int .i64 0))), none⟩]
def g60_1 : List Am.Item := [
    ⟨(some 8), .val (.load (some 6) (.t 1)), none⟩,
    ⟨(some 9), .call (.f 56) [(.t 8)], none⟩,
    ⟨(some 5), .val (.mov (.t 9)), none⟩]
def g60_2 : List Am.Item := [
    ⟨(some 10), .val (.mov (.t 5)), none⟩,
    ⟨(some 11), .val (.len 0 (.t 10)), none⟩,
    ⟨(some 12), .val (.bin .num .lss (.t 11) (.c (.int .i64 8))), none⟩]
def g60_3 : List Am.Item := [
    ⟨(some 13), .val (.loadv 0 1 (some 6) (.t 1)), none⟩,
    ⟨(some 2), .val (.mov (.c (.int .u64 0))), none⟩,
    ⟨none, .storev 0 3 6 (.t 3) (.t 13), none⟩,
    ⟨(some 4), .val (.mov (.c (.int .i64 4))), none⟩]
def g60_4 : List Am.Item := [
    ⟨(some 6), .val (.mov (.c (.int .u64 0))), none⟩]
def g60_5 : List Am.Item := [
    ⟨(some 7), .val (.mov (.c (.int .i64 7))), none⟩]
def g60_6 : List Am.Item := [
    ⟨(some 14), .val (.mov (.t 7)), none⟩,
    ⟨(some 15), .val (.bin .num .geq (.t 14) (.c (.int .i64 0))), none⟩]
def g60_8 : List Am.Item := [
    ⟨(some 18), .val (.mov (.t 6)), none⟩,
    ⟨(some 19), .val (.bin .num .mul (.t 18) (.c (.int .u64 256))), none⟩,
    ⟨(some 20), .val (.mov (.t 5)), none⟩,
    ⟨(some 21), .val (.mov (.t 7)), none⟩,
    ⟨(some 22), .val (.idx (.t 20) (.t 21)), none⟩,
    ⟨(some 23), .val (.cvi .u64 (.t 22)), none⟩,
    ⟨(some 24), .val (.bin .num .add (.t 19) (.t 23)), none⟩,
    ⟨(some 6), .val (.mov (.t 24)), none⟩]
def g60_7 : List Am.Item := [
    ⟨(some 16), .val (.mov (.t 7)), none⟩,
    ⟨(some 17), .val (.bin .num .sub (.t 16) (.c (.int .i64 1))), none⟩,
    ⟨(some 7), .val (.mov (.t 17)), none⟩]
def l60_0 : RC := .seq (.seq (.reg g60_6) (.cond (.t 15) (.skip) (.exit 0))) (.seq (.block 1 (.reg g60_8)) (.reg g60_7))
def g60_9 : List Am.Item := [
    ⟨(some 25), .val (.mov (.t 6)), none⟩,
    ⟨(some 26), .val (.load (some 6) (.t 1)), none⟩,
    ⟨(some 27), .call (.f 57) [(.t 26), (.c (.int .i64 8))], none⟩,
    ⟨(some 2), .val (.mov (.t 25)), none⟩,
    ⟨none, .store 6 (.t 3) (.t 27), none⟩,
    ⟨(some 4), .val (.mov (.c (.int .i64 0))), none⟩]
def r60 : RC := .seq (.reg g60_0) (.seq (.reg g60_1) (.seq (.seq (.reg g60_2) (.cond (.t 12) (.seq (.draw g60_3) (.ret)) (.skip))) (.seq (.reg g60_4) (.seq (.seq (.reg g60_5) (.block 0 (.loop l60_0))) (.seq (.reg g60_9) (.ret))))))
def o60 : List RR := [.tmp 2, .cell 3 (some 6), .tmp 4]
theorem k60 : chkC Try.prog 28 r60 (Try.f60.body.getD .skip) = true := by decide +kernel
theorem q60 : chkR Try.prog Try.f60.results.toList o60 = true := by decide +kernel

/- wireschema/wireschemaref02.Spend -/
def g36_0 : List Am.Item := [
    ⟨(some 2), .boxN 2 (.t 0), none⟩,
    ⟨(some 4), .allocN 4 [.str [], .int .i64 0, .int .i64 0, .int .i64 0, .int .i64 0, .int .i64 0], none⟩,
    ⟨(some 5), .val (.mov (.c (.int .i64 0))), none⟩]
def g36_1 : List Am.Item := [
    ⟨(some 6), .val (.mov (.t 1)), none⟩,
    ⟨(some 7), .val (.bin .num .lss (.t 6) (.c (.int .i64 0))), none⟩]
def g36_2 : List Am.Item := [
    ⟨(some 8), .val (.load (some 6) (.t 2)), none⟩,
    ⟨none, .store 6 (.t 4) (.t 8), none⟩,
    ⟨(some 5), .val (.mov (.c (.int .i64 1))), none⟩]
def g36_3 : List Am.Item := [
    ⟨(some 9), .val (.mov (.t 1)), none⟩,
    ⟨(some 10), .val (.faddr 4 (.t 2)), none⟩,
    ⟨(some 11), .val (.load none (.t 10)), none⟩,
    ⟨(some 12), .val (.bin .num .gtr (.t 9) (.t 11)), none⟩]
def g36_4 : List Am.Item := [
    ⟨(some 13), .val (.load (some 6) (.t 2)), none⟩,
    ⟨none, .store 6 (.t 4) (.t 13), none⟩,
    ⟨(some 5), .val (.mov (.c (.int .i64 3))), none⟩]
def g36_5 : List Am.Item := [
    ⟨(some 14), .val (.faddr 4 (.t 2)), none⟩,
    ⟨(some 15), .val (.load none (.t 14)), none⟩,
    ⟨(some 16), .val (.mov (.t 1)), none⟩,
    ⟨(some 17), .val (.bin .num .sub (.t 15) (.t 16)), none⟩,
    ⟨(some 18), .val (.faddr 4 (.t 2)), none⟩,
    ⟨none, .store 1 (.t 18) (.t 17), none⟩]
def g36_6 : List Am.Item := [
    ⟨(some 19), .val (.load (some 6) (.t 2)), none⟩,
    ⟨none, .store 6 (.t 4) (.t 19), none⟩,
    ⟨(some 5), .val (.mov (.c (.int .i64 0))), none⟩]
def r36 : RC := .seq (.reg g36_0) (.seq (.seq (.reg g36_1) (.cond (.t 7) (.seq (.reg g36_2) (.ret)) (.skip))) (.seq (.seq (.reg g36_3) (.cond (.t 12) (.seq (.reg g36_4) (.ret)) (.skip))) (.seq (.reg g36_5) (.seq (.reg g36_6) (.ret)))))
def o36 : List RR := [.cell 4 (some 6), .tmp 5]
theorem k36 : chkC Try.prog 20 r36 (Try.f36.body.getD .skip) = true := by decide +kernel
theorem q36 : chkR Try.prog Try.f36.results.toList o36 = true := by decide +kernel

/- wireschema/unknown.numeric -/
def g42_0 : List Am.Item := [
    ⟨(some 2), .val (.mov (.c (.bool false))), none⟩]
def g42_1 : List Am.Item := [
    ⟨(some 3), .val (.mov (.t 0)), none⟩,
    ⟨(some 4), .val (.bin .num .eql (.t 3) (.c (.int .i64 0))), none⟩,
    ⟨(some 5), .val (.mov (.t 4)), none⟩,
    ⟨(some 6), .val (.mov (.t 0)), (some (5, false))⟩,
    ⟨(some 7), .val (.bin .num .eql (.t 6) (.c (.int .i64 1))), (some (5, false))⟩,
    ⟨(some 8), .val (.pick (.t 5) (.c (.bool true)) (.t 7)), none⟩,
    ⟨(some 9), .val (.mov (.t 8)), none⟩,
    ⟨(some 10), .val (.mov (.t 0)), (some (9, false))⟩,
    ⟨(some 11), .val (.bin .num .eql (.t 10) (.c (.int .i64 2))), (some (9, false))⟩,
    ⟨(some 12), .val (.pick (.t 9) (.c (.bool true)) (.t 11)), none⟩,
    ⟨(some 2), .val (.mov (.t 12)), none⟩]
def r42 : RC := .seq (.reg g42_0) (.seq (.reg g42_1) (.ret))
def o42 : List RR := [.tmp 2]
theorem k42 : chkC Try.prog 13 r42 (Try.f42.body.getD .skip) = true := by decide +kernel
theorem q42 : chkR Try.prog Try.f42.results.toList o42 = true := by decide +kernel

/- wireschema/unknown.Tag -/
def g10_0 : List Am.Item := [
    ⟨(some 4), .val (.mov (.c (.str []))), none⟩,
    ⟨(some 5), .val (.mov (.c (.int .i64 0))), none⟩]
def g10_1 : List Am.Item := [
    ⟨(some 6), .val (.mov (.t 0)), none⟩,
    ⟨(some 7), .val (.bin .num .lss (.t 6) (.c (.int .i64 1))), none⟩,
    ⟨(some 8), .val (.mov (.t 7)), none⟩,
    ⟨(some 9), .val (.mov (.t 0)), (some (8, false))⟩,
    ⟨(some 10), .val (.bin .num .gtr (.t 9) (.c (.int .i64 65535))), (some (8, false))⟩,
    ⟨(some 11), .val (.pick (.t 8) (.c (.bool true)) (.t 10)), none⟩,
    ⟨(some 12), .val (.mov (.t 11)), none⟩,
    ⟨(some 13), .val (.mov (.t 1)), (some (12, false))⟩,
    ⟨(some 14), .val (.bin .num .lss (.t 13) (.c (.int .i64 0))), (some (12, false))⟩,
    ⟨(some 15), .val (.pick (.t 12) (.c (.bool true)) (.t 14)), none⟩,
    ⟨(some 16), .val (.mov (.t 15)), none⟩,
    ⟨(some 17), .val (.mov (.t 1)), (some (16, false))⟩,
    ⟨(some 18), .val (.bin .num .gtr (.t 17) (.c (.int .i64 6))), (some (16, false))⟩,
    ⟨(some 19), .val (.pick (.t 16) (.c (.bool true)) (.t 18)), none⟩]
def g10_2 : List Am.Item := [
    ⟨(some 4), .val (.mov (.c (.str []))), none⟩,
    ⟨(some 5), .val (.mov (.c (.int .i64 6))), none⟩]
def g10_3 : List Am.Item := [
    ⟨(some 20), .val (.mov (.t 0)), none⟩,
    ⟨(some 21), .val (.bin .num .mul (.t 20) (.c (.int .i64 8))), none⟩,
    ⟨(some 22), .val (.mov (.t 1)), none⟩,
    ⟨(some 23), .val (.bin .num .add (.t 21) (.t 22)), none⟩,
    ⟨(some 24), .val (.cvi .u64 (.t 23)), none⟩,
    ⟨(some 25), .call (.f 30) [(.t 24)], none⟩,
    ⟨(some 4), .val (.mov (.t 25)), none⟩,
    ⟨(some 5), .val (.mov (.c (.int .i64 0))), none⟩]
def r10 : RC := .seq (.reg g10_0) (.seq (.seq (.reg g10_1) (.cond (.t 19) (.seq (.reg g10_2) (.ret)) (.skip))) (.seq (.reg g10_3) (.ret)))
def o10 : List RR := [.tmp 4, .tmp 5]
theorem k10 : chkC Try.prog 26 r10 (Try.f10.body.getD .skip) = true := by decide +kernel
theorem q10 : chkR Try.prog Try.f10.results.toList o10 = true := by decide +kernel

/- wireschema/unknown.TakeTag -/
def g12_0 : List Am.Item := [
    ⟨(some 1), .boxN 1 (.t 0), none⟩,
    ⟨(some 2), .val (.mov (.c (.int .i64 0))), none⟩,
    ⟨(some 3), .val (.mov (.c (.int .i64 0))), none⟩,
    ⟨(some 4), .allocN 4 [.str [], .int .i64 0, .int .i64 0, .int .i64 0, .int .i64 0, .int .i64 0], none⟩,
    ⟨(some 5), .val (.mov (.c (.int .i64 0))), none⟩]
def g12_1 : List Am.Item := [
    ⟨(some 10), .val (.load (some 6) (.t 1)), none⟩,
    ⟨(some 11), .call (.f 32) [(.t 10)], none⟩,
    ⟨(some 9), .val (.mov (.t 11)), none⟩,
    ⟨(some 12), .val (.ext (.t 9) 0), none⟩,
    ⟨(some 13), .val (.ext (.t 9) 1), none⟩,
    ⟨(some 14), .val (.ext (.t 9) 2), none⟩,
    ⟨(some 7), .allocN 7 [.str [], .int .i64 0, .int .i64 0, .int .i64 0, .int .i64 0, .int .i64 0], none⟩,
    ⟨(some 6), .val (.mov (.t 12)), none⟩,
    ⟨none, .store 6 (.t 7) (.t 13), none⟩,
    ⟨(some 8), .val (.mov (.t 14)), none⟩]
def g12_2 : List Am.Item := [
    ⟨(some 16), .val (.mov (.t 8)), none⟩,
    ⟨(some 17), .val (.bin .num .neq (.t 16) (.c (.int .i64 0))), none⟩,
    ⟨(some 15), .val (.mov (.t 17)), none⟩]
def g12_3 : List Am.Item := [
    ⟨(some 18), .val (.loadv 0 1 (some 6) (.t 1)), none⟩,
    ⟨(some 19), .val (.mov (.t 8)), none⟩,
    ⟨(some 2), .val (.mov (.c (.int .i64 0))), none⟩,
    ⟨(some 3), .val (.mov (.c (.int .i64 0))), none⟩,
    ⟨none, .storev 0 4 6 (.t 4) (.t 18), none⟩,
    ⟨(some 5), .val (.mov (.t 19)), none⟩]
def g12_4 : List Am.Item := [
    ⟨(some 21), .val (.mov (.t 6)), none⟩,
    ⟨(some 22), .val (.bin .num .rem (.t 21) (.c (.int .u64 8))), none⟩,
    ⟨(some 23), .val (.bin .num .eql (.t 22) (.c (.int .u64 7))), none⟩,
    ⟨(some 20), .val (.mov (.t 23)), none⟩]
def g12_5 : List Am.Item := [
    ⟨(some 24), .val (.loadv 0 1 (some 6) (.t 1)), none⟩,
    ⟨(some 2), .val (.mov (.c (.int .i64 0))), none⟩,
    ⟨(some 3), .val (.mov (.c (.int .i64 0))), none⟩,
    ⟨none, .storev 0 4 6 (.t 4) (.t 24), none⟩,
    ⟨(some 5), .val (.mov (.c (.int .i64 5))), none⟩]
def g12_6 : List Am.Item := [
    ⟨(some 26), .val (.mov (.t 6)), none⟩,
    ⟨(some 27), .val (.bin .num .quo (.t 26) (.c (.int .u64 8))), none⟩,
    ⟨(some 28), .val (.bin .num .lss (.t 27) (.c (.int .u64 1))), none⟩,
    ⟨(some 29), .val (.mov (.t 28)), none⟩,
    ⟨(some 30), .val (.mov (.t 6)), (some (29, false))⟩,
    ⟨(some 31), .val (.bin .num .quo (.t 30) (.c (.int .u64 8))), (some (29, false))⟩,
    ⟨(some 32), .val (.bin .num .gtr (.t 31) (.c (.int .u64 65535))), (some (29, false))⟩,
    ⟨(some 33), .val (.pick (.t 29) (.c (.bool true)) (.t 32)), none⟩,
    ⟨(some 25), .val (.mov (.t 33)), none⟩]
def g12_7 : List Am.Item := [
    ⟨(some 34), .val (.loadv 0 1 (some 6) (.t 1)), none⟩,
    ⟨(some 2), .val (.mov (.c (.int .i64 0))), none⟩,
    ⟨(some 3), .val (.mov (.c (.int .i64 0))), none⟩,
    ⟨none, .storev 0 4 6 (.t 4) (.t 34), none⟩,
    ⟨(some 5), .val (.mov (.c (.int .i64 6))), none⟩]
def g12_8 : List Am.Item := [
    ⟨(some 35), .val (.mov (.t 6)), none⟩,
    ⟨(some 36), .val (.bin .num .quo (.t 35) (.c (.int .u64 8))), none⟩,
    ⟨(some 37), .val (.cvi .i64 (.t 36)), none⟩,
    ⟨(some 38), .val (.mov (.t 6)), none⟩,
    ⟨(some 39), .val (.bin .num .rem (.t 38) (.c (.int .u64 8))), none⟩,
    ⟨(some 40), .val (.cvi .i64 (.t 39)), none⟩,
    ⟨(some 41), .val (.loadv 0 7 (some 6) (.t 7)), none⟩,
    ⟨(some 2), .val (.mov (.t 37)), none⟩,
    ⟨(some 3), .val (.mov (.t 40)), none⟩,
    ⟨none, .storev 0 4 6 (.t 4) (.t 41), none⟩,
    ⟨(some 5), .val (.mov (.c (.int .i64 0))), none⟩]
def r12 : RC := .seq (.reg g12_0) (.seq (.reg g12_1) (.seq (.block 0 (.seq (.reg g12_2) (.cond (.t 15) (.seq (.draw g12_3) (.ret)) (.seq (.reg g12_4) (.cond (.t 20) (.seq (.draw g12_5) (.ret)) (.seq (.reg g12_6) (.cond (.t 25) (.seq (.draw g12_7) (.ret)) (.skip)))))))) (.seq (.draw g12_8) (.ret))))
def o12 : List RR := [.tmp 2, .tmp 3, .cell 4 (some 6), .tmp 5]
theorem k12 : chkC Try.prog 42 r12 (Try.f12.body.getD .skip) = true := by decide +kernel
theorem q12 : chkR Try.prog Try.f12.results.toList o12 = true := by decide +kernel

/- wireschema/unknown.data -/
def g59_0 : List Am.Item := [
    ⟨(some 2), .boxN 2 (.t 0), none⟩,
    ⟨(some 4), .val (.mov (.c (.str []))), none⟩,
    ⟨(some 5), .allocN 5 [.str [], .int .i64 0, .int .i64 0, .int .i64 0, .int .i64 0, .int .i64 0], none⟩,
    ⟨(some 6), .val (.mov (.c (.int .i64 0))), none⟩]
def g59_1 : List Am.Item := [
    ⟨(some 14), .val (.load (some 6) (.t 2)), none⟩,
    ⟨(some 15), .call (.f 32) [(.t 14)], none⟩,
    ⟨(some 13), .val (.mov (.t 15)), none⟩,
    ⟨(some 16), .val (.ext (.t 13) 0), none⟩,
    ⟨(some 17), .val (.ext (.t 13) 1), none⟩,
    ⟨(some 18), .val (.ext (.t 13) 2), none⟩,
    ⟨(some 8), .allocN 8 [.str [], .int .i64 0, .int .i64 0, .int .i64 0, .int .i64 0, .int .i64 0], none⟩,
    ⟨(some 7), .val (.mov (.t 16)), none⟩,
    ⟨none, .store 6 (.t 8) (.t 17), none⟩,
    ⟨(some 9), .val (.mov (.t 18)), none⟩]
def g59_2 : List Am.Item := [
    ⟨(some 19), .val (.mov (.t 9)), none⟩,
    ⟨(some 20), .val (.bin .num .neq (.t 19) (.c (.int .i64 0))), none⟩]
def g59_3 : List Am.Item := [
    ⟨(some 21), .val (.loadv 0 2 (some 6) (.t 2)), none⟩,
    ⟨(some 22), .val (.mov (.t 9)), none⟩,
    ⟨(some 4), .val (.mov (.c (.str []))), none⟩,
    ⟨none, .storev 0 5 6 (.t 5) (.t 21), none⟩,
    ⟨(some 6), .val (.mov (.t 22)), none⟩]
def g59_4 : List Am.Item := [
    ⟨(some 10), .val (.mov (.c (.int .i64 65536))), none⟩]
def g59_5 : List Am.Item := [
    ⟨(some 23), .val (.mov (.t 1)), none⟩,
    ⟨(some 24), .val (.bin .num .eql (.t 23) (.c (.int .i64 3))), none⟩]
def g59_6 : List Am.Item := [
    ⟨(some 25), .val (.faddr 5 (.t 2)), none⟩,
    ⟨(some 26), .val (.load none (.t 25)), none⟩,
    ⟨(some 10), .val (.mov (.t 26)), none⟩]
def g59_7 : List Am.Item := [
    ⟨(some 27), .val (.mov (.t 7)), none⟩,
    ⟨(some 28), .val (.load (some 6) (.t 8)), none⟩,
    ⟨(some 29), .call (.f 68) [(.t 28)], none⟩,
    ⟨(some 30), .val (.cvi .u64 (.t 29)), none⟩,
    ⟨(some 31), .val (.bin .num .gtr (.t 27) (.t 30)), none⟩]
def g59_8 : List Am.Item := [
    ⟨(some 32), .val (.loadv 0 2 (some 6) (.t 2)), none⟩,
    ⟨(some 4), .val (.mov (.c (.str []))), none⟩,
    ⟨none, .storev 0 5 6 (.t 5) (.t 32), none⟩,
    ⟨(some 6), .val (.mov (.c (.int .i64 4))), none⟩]
def g59_9 : List Am.Item := [
    ⟨(some 33), .val (.mov (.t 7)), none⟩,
    ⟨(some 34), .val (.cvi .i64 (.t 33)), none⟩,
    ⟨(some 11), .val (.mov (.t 34)), none⟩]
def g59_10 : List Am.Item := [
    ⟨(some 35), .val (.mov (.t 11)), none⟩,
    ⟨(some 36), .val (.mov (.t 10)), none⟩,
    ⟨(some 37), .val (.bin .num .gtr (.t 35) (.t 36)), none⟩]
def g59_11 : List Am.Item := [
    ⟨(some 38), .val (.loadv 0 2 (some 6) (.t 2)), none⟩,
    ⟨(some 4), .val (.mov (.c (.str []))), none⟩,
    ⟨none, .storev 0 5 6 (.t 5) (.t 38), none⟩,
    ⟨(some 6), .val (.mov (.c (.int .i64 3))), none⟩]
def g59_12 : List Am.Item := [
    ⟨(some 39), .val (.faddr 1 (.t 8)), none⟩,
    ⟨(some 40), .val (.load none (.t 39)), none⟩,
    ⟨(some 12), .val (.mov (.t 40)), none⟩]
def g59_13 : List Am.Item := [
    ⟨(some 41), .val (.faddr 1 (.t 8)), none⟩,
    ⟨(some 42), .val (.load none (.t 41)), none⟩,
    ⟨(some 43), .val (.mov (.t 11)), none⟩,
    ⟨(some 44), .val (.bin .num .add (.t 42) (.t 43)), none⟩,
    ⟨(some 45), .val (.faddr 1 (.t 8)), none⟩,
    ⟨none, .store 1 (.t 45) (.t 44), none⟩]
def g59_14 : List Am.Item := [
    ⟨(some 46), .val (.faddr 0 (.t 8)), none⟩,
    ⟨(some 47), .val (.loadv 0 8 none (.t 46)), none⟩,
    ⟨(some 48), .val (.mov (.t 12)), none⟩,
    ⟨(some 49), .val (.faddr 1 (.t 8)), none⟩,
    ⟨(some 50), .val (.loadv 0 8 none (.t 49)), none⟩,
    ⟨(some 51), .val (.slc none (.t 47) (some (.t 48)) (some (.t 50)) none), none⟩,
    ⟨(some 52), .val (.loadv 0 8 (some 6) (.t 8)), none⟩,
    ⟨(some 4), .val (.mov (.t 51)), none⟩,
    ⟨none, .storev 0 5 6 (.t 5) (.t 52), none⟩,
    ⟨(some 6), .val (.mov (.c (.int .i64 0))), none⟩]
def r59 : RC := .seq (.reg g59_0) (.seq (.reg g59_1) (.seq (.seq (.reg g59_2) (.cond (.t 20) (.seq (.draw g59_3) (.ret)) (.skip))) (.seq (.reg g59_4) (.seq (.seq (.reg g59_5) (.cond (.t 24) (.reg g59_6) (.skip))) (.seq (.seq (.reg g59_7) (.cond (.t 31) (.seq (.draw g59_8) (.ret)) (.skip))) (.seq (.reg g59_9) (.seq (.seq (.reg g59_10) (.cond (.t 37) (.seq (.draw g59_11) (.ret)) (.skip))) (.seq (.reg g59_12) (.seq (.reg g59_13) (.seq (.draw g59_14) (.ret)))))))))))
def o59 : List RR := [.tmp 4, .cell 5 (some 6), .tmp 6]
theorem k59 : chkC Try.prog 53 r59 (Try.f59.body.getD .skip) = true := by decide +kernel
theorem q59 : chkR Try.prog Try.f59.results.toList o59 = true := by decide +kernel

/- wireschema/unknown.contents -/
def g35_0 : List Am.Item := [
    ⟨(some 2), .boxN 2 (.t 0), none⟩,
    ⟨(some 4), .allocN 4 [.str [], .int .i64 0, .int .i64 0, .int .i64 0, .int .i64 0, .int .i64 0], none⟩,
    ⟨(some 5), .val (.mov (.c (.int .i64 0))), none⟩]
def g35_1 : List Am.Item := [
    ⟨(some 6), .val (.mov (.c (.int .i64 0))), none⟩]
def g35_2 : List Am.Item := [
    ⟨(some 7), .val (.mov (.t 1)), none⟩,
    ⟨(some 8), .val (.nilck (.t 7)), none⟩,
    ⟨(some 9), .val (.faddr 1 (.t 8)), none⟩,
    ⟨(some 10), .val (.load none (.t 9)), none⟩]
def g35_4 : List Am.Item := [
    ⟨(some 25), .val (.bin .num .eql (.t 10) (.c (.int .i64 0))), none⟩,
    ⟨(some 24), .val (.mov (.t 25)), none⟩]
def g35_5 : List Am.Item := [
    ⟨(some 26), .val (.bin .num .eql (.t 10) (.c (.int .i64 1))), none⟩,
    ⟨(some 24), .val (.mov (.t 26)), none⟩]
def g35_6 : List Am.Item := [
    ⟨(some 28), .val (.mov (.t 1)), none⟩,
    ⟨(some 29), .val (.load (some 6) (.t 2)), none⟩,
    ⟨(some 30), .call (.f 32) [(.t 29)], none⟩,
    ⟨(some 27), .val (.mov (.t 30)), none⟩,
    ⟨(some 31), .val (.ext (.t 27) 0), none⟩,
    ⟨(some 32), .val (.ext (.t 27) 1), none⟩,
    ⟨(some 33), .val (.ext (.t 27) 2), none⟩,
    ⟨(some 34), .val (.nilck (.t 28)), none⟩,
    ⟨(some 35), .val (.faddr 2 (.t 34)), none⟩,
    ⟨none, .store 1 (.t 35) (.t 31), none⟩,
    ⟨none, .store 6 (.t 2) (.t 32), none⟩,
    ⟨(some 6), .val (.mov (.t 33)), none⟩]
def g35_7 : List Am.Item := [
    ⟨(some 37), .val (.bin .num .eql (.t 10) (.c (.int .i64 2))), none⟩,
    ⟨(some 36), .val (.mov (.t 37)), none⟩]
def g35_8 : List Am.Item := [
    ⟨(some 39), .val (.mov (.t 1)), none⟩,
    ⟨(some 40), .val (.load (some 6) (.t 2)), none⟩,
    ⟨(some 41), .call (.f 58) [(.t 40)], none⟩,
    ⟨(some 38), .val (.mov (.t 41)), none⟩,
    ⟨(some 42), .val (.ext (.t 38) 0), none⟩,
    ⟨(some 43), .val (.ext (.t 38) 1), none⟩,
    ⟨(some 44), .val (.ext (.t 38) 2), none⟩,
    ⟨(some 45), .val (.nilck (.t 39)), none⟩,
    ⟨(some 46), .val (.faddr 2 (.t 45)), none⟩,
    ⟨none, .store 1 (.t 46) (.t 42), none⟩,
    ⟨none, .store 6 (.t 2) (.t 43), none⟩,
    ⟨(some 6), .val (.mov (.t 44)), none⟩]
def g35_3 : List Am.Item := [
    ⟨(some 12), .val (.mov (.t 1)), none⟩,
    ⟨(some 13), .val (.loadv 0 2 (some 6) (.t 2)), none⟩,
    ⟨(some 14), .val (.mov (.t 1)), none⟩,
    ⟨(some 15), .val (.nilck (.t 14)), none⟩,
    ⟨(some 16), .val (.faddr 1 (.t 15)), none⟩,
    ⟨(some 17), .val (.load none (.t 16)), none⟩,
    ⟨(some 18), .call (.f 59) [(.t 13), (.t 17)], none⟩,
    ⟨(some 11), .val (.mov (.t 18)), none⟩,
    ⟨(some 19), .val (.ext (.t 11) 0), none⟩,
    ⟨(some 20), .val (.ext (.t 11) 1), none⟩,
    ⟨(some 21), .val (.ext (.t 11) 2), none⟩,
    ⟨(some 22), .val (.nilck (.t 12)), none⟩,
    ⟨(some 23), .val (.faddr 3 (.t 22)), none⟩,
    ⟨none, .store 1 (.t 23) (.t 19), none⟩,
    ⟨none, .storev 0 2 6 (.t 2) (.t 20), none⟩,
    ⟨(some 6), .val (.mov (.t 21)), none⟩]
def g35_9 : List Am.Item := [
    ⟨(some 47), .val (.load (some 6) (.t 2)), none⟩,
    ⟨(some 48), .val (.mov (.t 6)), none⟩,
    ⟨none, .store 6 (.t 4) (.t 47), none⟩,
    ⟨(some 5), .val (.mov (.t 48)), none⟩]
def r35 : RC := .seq (.reg g35_0) (.seq (.reg g35_1) (.seq (.seq (.reg g35_2) (.block 0 (.seq (.seq (.reg g35_4) (.cond (.t 24) (.skip) (.reg g35_5))) (.cond (.t 24) (.reg g35_6) (.seq (.reg g35_7) (.cond (.t 36) (.reg g35_8) (.draw g35_3))))))) (.seq (.reg g35_9) (.ret))))
def o35 : List RR := [.cell 4 (some 6), .tmp 5]
theorem k35 : chkC Try.prog 49 r35 (Try.f35.body.getD .skip) = true := by decide +kernel
theorem q35 : chkR Try.prog Try.f35.results.toList o35 = true := by decide +kernel

/- wireschema/unknown.Next -/
def g15_0 : List Am.Item := [
    ⟨(some 1), .boxN 1 (.t 0), none⟩,
    ⟨(some 2), .allocN 2 [.int .i64 0, .int .i64 0, .int .u64 0, .str []], none⟩,
    ⟨(some 3), .allocN 3 [.str [], .int .i64 0, .int .i64 0, .int .i64 0, .int .i64 0, .int .i64 0], none⟩,
    ⟨(some 4), .val (.mov (.c (.int .i64 0))), none⟩]
def g15_1 : List Am.Item := [
    ⟨(some 11), .val (.load (some 6) (.t 1)), none⟩,
    ⟨(some 12), .call (.f 12) [(.t 11)], none⟩,
    ⟨(some 10), .val (.mov (.t 12)), none⟩,
    ⟨(some 13), .val (.ext (.t 10) 0), none⟩,
    ⟨(some 14), .val (.ext (.t 10) 1), none⟩,
    ⟨(some 15), .val (.ext (.t 10) 2), none⟩,
    ⟨(some 16), .val (.ext (.t 10) 3), none⟩,
    ⟨(some 7), .allocN 7 [.str [], .int .i64 0, .int .i64 0, .int .i64 0, .int .i64 0, .int .i64 0], none⟩,
    ⟨(some 5), .val (.mov (.t 13)), none⟩,
    ⟨(some 6), .val (.mov (.t 14)), none⟩,
    ⟨none, .store 6 (.t 7) (.t 15), none⟩,
    ⟨(some 8), .val (.mov (.t 16)), none⟩]
def g15_2 : List Am.Item := [
    ⟨(some 17), .val (.mov (.t 8)), none⟩,
    ⟨(some 18), .val (.bin .num .neq (.t 17) (.c (.int .i64 0))), none⟩]
def g15_3 : List Am.Item := [
    ⟨(some 19), .val (.build [.int .i64 0, .int .i64 0, .int .u64 0, .str []] []), none⟩,
    ⟨(some 20), .val (.loadv 0 1 (some 6) (.t 1)), none⟩,
    ⟨(some 21), .val (.mov (.t 8)), none⟩,
    ⟨none, .storev 0 2 4 (.t 2) (.t 19), none⟩,
    ⟨none, .storev 0 3 6 (.t 3) (.t 20), none⟩,
    ⟨(some 4), .val (.mov (.t 21)), none⟩]
def g15_4 : List Am.Item := [
    ⟨(some 23), .val (.load (some 6) (.t 7)), none⟩,
    ⟨(some 24), .call (.f 34) [(.t 23), (.c (.int .i64 1))], none⟩,
    ⟨(some 22), .val (.mov (.t 24)), none⟩,
    ⟨(some 25), .val (.ext (.t 22) 0), none⟩,
    ⟨(some 26), .val (.ext (.t 22) 1), none⟩,
    ⟨none, .store 6 (.t 7) (.t 25), none⟩,
    ⟨(some 8), .val (.mov (.t 26)), none⟩]
def g15_5 : List Am.Item := [
    ⟨(some 27), .val (.mov (.t 8)), none⟩,
    ⟨(some 28), .val (.bin .num .neq (.t 27) (.c (.int .i64 0))), none⟩]
def g15_6 : List Am.Item := [
    ⟨(some 29), .val (.build [.int .i64 0, .int .i64 0, .int .u64 0, .str []] []), none⟩,
    ⟨(some 30), .val (.loadv 0 1 (some 6) (.t 1)), none⟩,
    ⟨(some 31), .val (.mov (.t 8)), none⟩,
    ⟨none, .storev 0 2 4 (.t 2) (.t 29), none⟩,
    ⟨none, .storev 0 3 6 (.t 3) (.t 30), none⟩,
    ⟨(some 4), .val (.mov (.t 31)), none⟩]
def g15_7 : List Am.Item := [
    ⟨(some 32), .val (.mov (.t 5)), none⟩,
    ⟨(some 33), .val (.mov (.t 6)), none⟩,
    ⟨(some 34), .val (.build [.int .i64 0, .int .i64 0, .int .u64 0, .str []] [(0, 1, (.t 32)), (1, 1, (.t 33))]), none⟩,
    ⟨(some 9), .allocN 9 [.int .i64 0, .int .i64 0, .int .u64 0, .str []], none⟩,
    ⟨none, .store 4 (.t 9) (.t 34), none⟩]
def g15_8 : List Am.Item := [
    ⟨(some 36), .val (.load (some 6) (.t 7)), none⟩,
    ⟨(some 37), .callF (.f 35) [(.t 36), (.t 9)], none⟩,
    ⟨(some 35), .val (.mov (.t 37)), none⟩,
    ⟨(some 38), .val (.ext (.t 35) 0), none⟩,
    ⟨(some 39), .val (.ext (.t 35) 1), none⟩,
    ⟨none, .store 6 (.t 7) (.t 38), none⟩,
    ⟨(some 8), .val (.mov (.t 39)), none⟩]
def g15_9 : List Am.Item := [
    ⟨(some 40), .val (.mov (.t 8)), none⟩,
    ⟨(some 41), .val (.bin .num .neq (.t 40) (.c (.int .i64 0))), none⟩]
def g15_10 : List Am.Item := [
    ⟨(some 42), .val (.build [.int .i64 0, .int .i64 0, .int .u64 0, .str []] []), none⟩,
    ⟨(some 43), .val (.loadv 0 1 (some 6) (.t 1)), none⟩,
    ⟨(some 44), .val (.mov (.t 8)), none⟩,
    ⟨none, .storev 0 2 4 (.t 2) (.t 42), none⟩,
    ⟨none, .storev 0 3 6 (.t 3) (.t 43), none⟩,
    ⟨(some 4), .val (.mov (.t 44)), none⟩]
def g15_11 : List Am.Item := [
    ⟨(some 45), .val (.loadv 0 9 (some 4) (.t 9)), none⟩,
    ⟨(some 46), .val (.loadv 0 7 (some 6) (.t 7)), none⟩,
    ⟨none, .storev 0 2 4 (.t 2) (.t 45), none⟩,
    ⟨none, .storev 0 3 6 (.t 3) (.t 46), none⟩,
    ⟨(some 4), .val (.mov (.c (.int .i64 0))), none⟩]
def r15 : RC := .seq (.reg g15_0) (.seq (.reg g15_1) (.seq (.seq (.reg g15_2) (.cond (.t 18) (.seq (.draw g15_3) (.ret)) (.skip))) (.seq (.seq (.reg g15_4) (.seq (.reg g15_5) (.cond (.t 28) (.seq (.draw g15_6) (.ret)) (.skip)))) (.seq (.reg g15_7) (.seq (.seq (.reg g15_8) (.seq (.reg g15_9) (.cond (.t 41) (.seq (.draw g15_10) (.ret)) (.skip)))) (.seq (.draw g15_11) (.ret)))))))
def o15 : List RR := [.cell 2 (some 4), .cell 3 (some 6), .tmp 4]
theorem k15 : chkC Try.prog 47 r15 (Try.f15.body.getD .skip) = true := by decide +kernel
theorem q15 : chkR Try.prog Try.f15.results.toList o15 = true := by decide +kernel

/- (*wireschema/unknown.scanner).next -/
def g39_0 : List Am.Item := [
    ⟨(some 1), .boxN 1 (.t 0), none⟩,
    ⟨(some 2), .allocN 2 [.int .i64 0, .int .i64 0, .int .u64 0, .str []], none⟩,
    ⟨(some 3), .val (.mov (.c (.int .i64 0))), none⟩]
def g39_1 : List Am.Item := [
    ⟨(some 5), .val (.load none (.t 1)), none⟩,
    ⟨(some 6), .val (.nilck (.t 5)), none⟩,
    ⟨(some 7), .val (.faddr 0 (.t 6)), none⟩,
    ⟨(some 8), .val (.faddr 1 (.t 7)), none⟩,
    ⟨(some 9), .val (.load none (.t 8)), none⟩,
    ⟨(some 4), .allocN 4 [.int .i64 0], none⟩,
    ⟨none, .store 1 (.t 4) (.t 9), none⟩]
def g39_2 : List Am.Item := [
    ⟨(some 10), .val (.mkfn (.func 61) [] [(.t 1), (.t 4)]), none⟩,
    ⟨none, .dfr (.t 10) [], none⟩]
def g39_3 : List Am.Item := [
    ⟨(some 12), .val (.loadv 0 1 none (.t 1)), none⟩,
    ⟨(some 13), .val (.loadv 0 1 none (.t 1)), none⟩,
    ⟨(some 14), .val (.nilck (.t 13)), none⟩,
    ⟨(some 15), .val (.faddr 0 (.t 14)), none⟩,
    ⟨(some 16), .val (.load (some 6) (.t 15)), none⟩,
    ⟨(some 17), .call (.f 15) [(.t 16)], none⟩,
    ⟨(some 11), .val (.mov (.t 17)), none⟩,
    ⟨(some 18), .val (.ext (.t 11) 0), none⟩,
    ⟨(some 19), .val (.ext (.t 11) 1), none⟩,
    ⟨(some 20), .val (.ext (.t 11) 2), none⟩,
    ⟨none, .storev 0 2 4 (.t 2) (.t 18), none⟩,
    ⟨(some 21), .val (.nilck (.t 12)), none⟩,
    ⟨(some 22), .val (.faddr 0 (.t 21)), none⟩,
    ⟨none, .store 6 (.t 22) (.t 19), none⟩,
    ⟨(some 3), .val (.mov (.t 20)), none⟩]
def g39_4 : List Am.Item := [
    ⟨(some 23), .val (.load (some 4) (.t 2)), none⟩,
    ⟨(some 24), .val (.mov (.t 3)), none⟩,
    ⟨none, .store 4 (.t 2) (.t 23), none⟩,
    ⟨(some 3), .val (.mov (.t 24)), none⟩]
def r39 : RC := .seq (.reg g39_0) (.seq (.reg g39_1) (.seq (.reg g39_2) (.seq (.draw g39_3) (.seq (.reg g39_4) (.ret)))))
def o39 : List RR := [.cell 2 (some 4), .tmp 3]
theorem k39 : chkC Try.prog 25 r39 (Try.f39.body.getD .skip) = true := by decide +kernel
theorem q39 : chkR Try.prog Try.f39.results.toList o39 = true := by decide +kernel

/- (*wireschema/unknown.scanner).next$1 -/
def g61_0 : List Am.Item := [
    ⟨(some 2), .val (.load none (.t 0)), none⟩,
    ⟨(some 3), .val (.nilck (.t 2)), none⟩,
    ⟨(some 4), .val (.faddr 6 (.t 3)), none⟩,
    ⟨(some 5), .val (.load none (.t 4)), none⟩,
    ⟨(some 6), .val (.load none (.t 0)), none⟩,
    ⟨(some 7), .val (.nilck (.t 6)), none⟩,
    ⟨(some 8), .val (.faddr 0 (.t 7)), none⟩,
    ⟨(some 9), .val (.faddr 1 (.t 8)), none⟩,
    ⟨(some 10), .val (.load none (.t 9)), none⟩,
    ⟨(some 11), .val (.load none (.t 1)), none⟩,
    ⟨(some 12), .val (.bin .num .sub (.t 10) (.t 11)), none⟩,
    ⟨(some 13), .val (.bin .num .add (.t 5) (.t 12)), none⟩,
    ⟨(some 14), .val (.nilck (.t 2)), none⟩,
    ⟨(some 15), .val (.faddr 6 (.t 14)), none⟩,
    ⟨none, .store 1 (.t 15) (.t 13), none⟩]
def r61 : RC := .draw g61_0
def o61 : List RR := []
theorem k61 : chkC Try.prog 16 r61 (Try.f61.body.getD .skip) = true := by decide +kernel
theorem q61 : chkR Try.prog Try.f61.results.toList o61 = true := by decide +kernel

/- wireschema/unknown.Scan -/
def g17_0 : List Am.Item := [
    ⟨(some 3), .boxN 3 (.t 1), none⟩,
    ⟨(some 4), .val (.mov (.c (.nils))), none⟩,
    ⟨(some 5), .val (.mov (.c (.int .i64 0))), none⟩]
def g17_1 : List Am.Item := [
    ⟨(some 13), .val (.mov (.t 0)), none⟩,
    ⟨(some 14), .val (.load (some 4) (.t 3)), none⟩,
    ⟨(some 15), .call (.f 38) [(.t 13), (.t 14)], none⟩,
    ⟨(some 12), .val (.mov (.t 15)), none⟩,
    ⟨(some 16), .val (.ext (.t 12) 0), none⟩,
    ⟨(some 17), .val (.ext (.t 12) 1), none⟩,
    ⟨(some 6), .allocN 6 [.str [], .int .i64 0, .int .i64 0, .int .i64 0, .int .i64 0, .int .i64 0], none⟩,
    ⟨none, .store 6 (.t 6) (.t 16), none⟩,
    ⟨(some 7), .val (.mov (.t 17)), none⟩]
def g17_2 : List Am.Item := [
    ⟨(some 18), .val (.mov (.t 7)), none⟩,
    ⟨(some 19), .val (.bin .num .neq (.t 18) (.c (.int .i64 0))), none⟩]
def g17_3 : List Am.Item := [
    ⟨(some 20), .val (.mov (.t 7)), none⟩,
    ⟨(some 4), .val (.mov (.c (.nils))), none⟩,
    ⟨(some 5), .val (.mov (.t 20)), none⟩]
def g17_4 : List Am.Item := [
    ⟨(some 21), .val (.load (some 6) (.t 6)), none⟩,
    ⟨(some 22), .val (.build [.str [], .int .i64 0, .int .i64 0, .int .i64 0, .int .i64 0, .int .i64 0, .int .i64 0] [(0, 6, (.t 21))]), none⟩,
    ⟨(some 23), .boxN 23 (.t 22), none⟩,
    ⟨(some 8), .val (.mov (.t 23)), none⟩]
def g17_5 : List Am.Item := [
    ⟨(some 9), .val (.mov (.c (.nils))), none⟩]
def g17_6 : List Am.Item := [
    ⟨(some 24), .val (.mov (.t 8)), none⟩,
    ⟨(some 25), .val (.nilck (.t 24)), none⟩,
    ⟨(some 26), .val (.faddr 6 (.t 25)), none⟩,
    ⟨(some 27), .val (.load none (.t 26)), none⟩,
    ⟨(some 28), .val (.mov (.t 0)), none⟩,
    ⟨(some 29), .val (.len 0 (.t 28)), none⟩,
    ⟨(some 30), .val (.bin .num .lss (.t 27) (.t 29)), none⟩]
def g17_7 : List Am.Item := [
    ⟨(some 32), .val (.mov (.t 8)), none⟩,
    ⟨(some 33), .callF (.f 39) [(.t 32)], none⟩,
    ⟨(some 31), .val (.mov (.t 33)), none⟩,
    ⟨(some 34), .val (.ext (.t 31) 0), none⟩,
    ⟨(some 35), .val (.ext (.t 31) 1), none⟩,
    ⟨(some 10), .allocN 10 [.int .i64 0, .int .i64 0, .int .u64 0, .str []], none⟩,
    ⟨none, .store 4 (.t 10) (.t 34), none⟩,
    ⟨(some 11), .val (.mov (.t 35)), none⟩]
def g17_8 : List Am.Item := [
    ⟨(some 36), .val (.mov (.t 11)), none⟩,
    ⟨(some 37), .val (.bin .num .neq (.t 36) (.c (.int .i64 0))), none⟩]
def g17_9 : List Am.Item := [
    ⟨(some 38), .val (.mov (.t 11)), none⟩,
    ⟨(some 4), .val (.mov (.c (.nils))), none⟩,
    ⟨(some 5), .val (.mov (.t 38)), none⟩]
def g17_10 : List Am.Item := [
    ⟨(some 39), .val (.mov (.t 9)), none⟩,
    ⟨(some 40), .val (.load (some 4) (.t 10)), none⟩,
    ⟨(some 41), .bsl 4 1 [.int .i64 0, .int .i64 0, .int .u64 0, .str []] [(0, 4, (.t 40))], none⟩,
    ⟨(some 42), .app 4 40 33 (.t 39) (.t 41), none⟩,
    ⟨(some 9), .val (.mov (.t 42)), none⟩]
def l17_0 : RC := .gho (.drop 10) (.seq (.seq (.reg g17_6) (.cond (.t 30) (.skip) (.exit 0))) (.block 1 (.seq (.reg g17_7) (.seq (.seq (.reg g17_8) (.cond (.t 37) (.seq (.reg g17_9) (.ret)) (.skip))) (.reg g17_10)))))
def g17_11 : List Am.Item := [
    ⟨(some 43), .val (.mov (.t 9)), none⟩,
    ⟨(some 4), .val (.mov (.t 43)), none⟩,
    ⟨(some 5), .val (.mov (.c (.int .i64 0))), none⟩]
def r17 : RC := .seq (.reg g17_0) (.seq (.reg g17_1) (.seq (.seq (.reg g17_2) (.cond (.t 19) (.seq (.reg g17_3) (.ret)) (.skip))) (.seq (.reg g17_4) (.seq (.reg g17_5) (.gho (.vec 9 9 4) (.seq (.block 0 (.loop l17_0)) (.seq (.reg g17_11) (.ret))))))))
def o17 : List RR := [.tmp 4, .tmp 5]
theorem k17 : chkC Try.prog 44 r17 (Try.f17.body.getD .skip) = true := by decide +kernel
theorem q17 : chkR Try.prog Try.f17.results.toList o17 = true := by decide +kernel

/- wireschema/unknown.Valid -/
def g21_0 : List Am.Item := [
    ⟨(some 1), .boxN 1 (.t 0), none⟩,
    ⟨(some 2), .val (.mov (.c (.bool false))), none⟩]
def g21_1 : List Am.Item := [
    ⟨(some 6), .val (.faddr 0 (.t 1)), none⟩,
    ⟨(some 7), .val (.load none (.t 6)), none⟩,
    ⟨(some 8), .val (.faddr 1 (.t 1)), none⟩,
    ⟨(some 9), .val (.load none (.t 8)), none⟩,
    ⟨(some 10), .call (.f 10) [(.t 7), (.t 9)], none⟩,
    ⟨(some 5), .val (.mov (.t 10)), none⟩,
    ⟨(some 11), .val (.ext (.t 5) 0), none⟩,
    ⟨(some 12), .val (.ext (.t 5) 1), none⟩,
    ⟨(some 3), .val (.mov (.t 11)), none⟩,
    ⟨(some 4), .val (.mov (.t 12)), none⟩]
def g21_2 : List Am.Item := [
    ⟨(some 13), .val (.mov (.t 4)), none⟩,
    ⟨(some 14), .val (.bin .num .neq (.t 13) (.c (.int .i64 0))), none⟩]
def g21_3 : List Am.Item := [
    ⟨(some 2), .val (.mov (.c (.bool false))), none⟩]
def g21_4 : List Am.Item := [
    ⟨(some 15), .val (.faddr 1 (.t 1)), none⟩,
    ⟨(some 16), .val (.load none (.t 15)), none⟩,
    ⟨(some 17), .call (.f 42) [(.t 16)], none⟩]
def g21_5 : List Am.Item := [
    ⟨(some 18), .val (.faddr 3 (.t 1)), none⟩,
    ⟨(some 19), .val (.load none (.t 18)), none⟩,
    ⟨(some 20), .val (.bin .str .eql (.t 19) (.c (.str []))), none⟩,
    ⟨(some 2), .val (.mov (.t 20)), none⟩]
def g21_6 : List Am.Item := [
    ⟨(some 21), .val (.faddr 2 (.t 1)), none⟩,
    ⟨(some 22), .val (.load none (.t 21)), none⟩,
    ⟨(some 23), .val (.bin .num .eql (.t 22) (.c (.int .u64 0))), none⟩,
    ⟨(some 2), .val (.mov (.t 23)), none⟩]
def r21 : RC := .seq (.reg g21_0) (.seq (.seq (.reg g21_1) (.seq (.reg g21_2) (.cond (.t 14) (.seq (.reg g21_3) (.ret)) (.skip)))) (.seq (.seq (.reg g21_4) (.cond (.t 17) (.seq (.reg g21_5) (.ret)) (.skip))) (.seq (.reg g21_6) (.ret))))
def o21 : List RR := [.tmp 2]
theorem k21 : chkC Try.prog 24 r21 (Try.f21.body.getD .skip) = true := by decide +kernel
theorem q21 : chkR Try.prog Try.f21.results.toList o21 = true := by decide +kernel

/- wireschema/unknown.Put -/
def g22_0 : List Am.Item := [
    ⟨(some 2), .val (.mov (.c (.str []))), none⟩]
def g22_1 : List Am.Item := [
    ⟨(some 3), .allocN 2071 [.nilp, .nils], none⟩]
def g22_2 : List Am.Item := [
    ⟨(some 8), .val (.mov (.t 0)), none⟩,
    ⟨(some 9), .val (.len 1 (.t 8)), none⟩,
    ⟨(some 10), .val (.mov (.c (.int .i64 0))), none⟩]
def g22_3 : List Am.Item := [
    ⟨(some 11), .val (.bin .num .lss (.t 10) (.t 9)), none⟩]
def g22_4 : List Am.Item := [
    ⟨(some 12), .val (.iaddr 4 none (.t 8) (.t 10)), none⟩,
    ⟨(some 13), .val (.load (some 4) (.t 12)), none⟩,
    ⟨(some 5), .allocN 5 [.int .i64 0, .int .i64 0, .int .u64 0, .str []], none⟩,
    ⟨none, .store 4 (.t 5) (.t 13), none⟩]
def g22_5 : List Am.Item := [
    ⟨(some 14), .val (.load (some 4) (.t 5)), none⟩,
    ⟨(some 15), .call (.f 21) [(.t 14)], none⟩,
    ⟨(some 16), .val (.un .not (.t 15)), none⟩]
def g22_6 : List Am.Item := [
    ⟨(some 18), .val (.faddr 0 (.t 5)), none⟩,
    ⟨(some 19), .val (.load none (.t 18)), none⟩,
    ⟨(some 20), .val (.faddr 1 (.t 5)), none⟩,
    ⟨(some 21), .val (.load none (.t 20)), none⟩,
    ⟨(some 22), .call (.f 10) [(.t 19), (.t 21)], none⟩,
    ⟨(some 17), .val (.mov (.t 22)), none⟩,
    ⟨(some 23), .val (.ext (.t 17) 0), none⟩,
    ⟨(some 24), .val (.ext (.t 17) 1), none⟩,
    ⟨(some 6), .val (.mov (.t 23)), none⟩,
    ⟨(some 7), .val (.mov (.t 24)), none⟩]
def g22_7 : List Am.Item := [
    ⟨(some 25), .val (.mov (.t 6)), none⟩,
    ⟨(some 26), .callF (.f 43) [(.t 3), (.t 25)], none⟩]
def g22_10 : List Am.Item := [
    ⟨(some 37), .val (.faddr 1 (.t 5)), none⟩,
    ⟨(some 38), .val (.load none (.t 37)), none⟩,
    ⟨(some 39), .val (.bin .num .eql (.t 38) (.c (.int .i64 2))), none⟩,
    ⟨(some 36), .val (.mov (.t 39)), none⟩]
def g22_11 : List Am.Item := [
    ⟨(some 40), .val (.faddr 2 (.t 5)), none⟩,
    ⟨(some 41), .val (.load none (.t 40)), none⟩,
    ⟨(some 42), .call (.f 44) [(.t 41)], none⟩,
    ⟨(some 43), .callF (.f 43) [(.t 3), (.t 42)], none⟩]
def g22_12 : List Am.Item := [
    ⟨(some 45), .val (.faddr 1 (.t 5)), none⟩,
    ⟨(some 46), .val (.load none (.t 45)), none⟩,
    ⟨(some 47), .call (.f 42) [(.t 46)], none⟩,
    ⟨(some 44), .val (.mov (.t 47)), none⟩]
def g22_13 : List Am.Item := [
    ⟨(some 48), .val (.faddr 2 (.t 5)), none⟩,
    ⟨(some 49), .val (.load none (.t 48)), none⟩,
    ⟨(some 50), .call (.f 30) [(.t 49)], none⟩,
    ⟨(some 51), .callF (.f 43) [(.t 3), (.t 50)], none⟩]
def g22_8 : List Am.Item := [
    ⟨(some 27), .val (.faddr 3 (.t 5)), none⟩,
    ⟨(some 28), .val (.load none (.t 27)), none⟩,
    ⟨(some 29), .val (.len 0 (.t 28)), none⟩,
    ⟨(some 30), .val (.cvi .u64 (.t 29)), none⟩,
    ⟨(some 31), .call (.f 30) [(.t 30)], none⟩,
    ⟨(some 32), .callF (.f 43) [(.t 3), (.t 31)], none⟩]
def g22_9 : List Am.Item := [
    ⟨(some 33), .val (.faddr 3 (.t 5)), none⟩,
    ⟨(some 34), .val (.load none (.t 33)), none⟩,
    ⟨(some 35), .callF (.f 43) [(.t 3), (.t 34)], none⟩]
def g22_14 : List Am.Item := [
    ⟨(some 52), .val (.bin .num .add (.t 10) (.c (.int .i64 1))), none⟩,
    ⟨(some 10), .val (.mov (.t 52)), none⟩]
def l22_0 : RC := .gho (.drop 5) (.seq (.reg g22_3) (.seq (.cond (.t 11) (.skip) (.exit 0)) (.seq (.block 1 (.seq (.reg g22_4) (.seq (.seq (.reg g22_5) (.cond (.t 16) (.exit 1) (.skip))) (.seq (.reg g22_6) (.seq (.reg g22_7) (.block 2 (.seq (.reg g22_10) (.cond (.t 36) (.reg g22_11) (.seq (.reg g22_12) (.cond (.t 44) (.reg g22_13) (.seq (.reg g22_8) (.reg g22_9)))))))))))) (.reg g22_14))))
def g22_15 : List Am.Item := [
    ⟨(some 53), .callF (.f 45) [(.t 3)], none⟩,
    ⟨(some 2), .val (.mov (.t 53)), none⟩]
def r22 : RC := .seq (.reg g22_0) (.seq (.reg g22_1) (.gho (.vecc 2071 1 2005 1) (.seq (.seq (.reg g22_2) (.block 0 (.loop l22_0))) (.seq (.reg g22_15) (.ret)))))
def o22 : List RR := [.tmp 2]
theorem k22 : chkC Try.prog 54 r22 (Try.f22.body.getD .skip) = true := by decide +kernel
theorem q22 : chkR Try.prog Try.f22.results.toList o22 = true := by decide +kernel

/- wireschema/wireschemaref23.number -/
def g46_0 : List Am.Item := [
    ⟨(some 2), .val (.mov (.c (.bool false))), none⟩]
def g46_1 : List Am.Item := [
    ⟨(some 3), .val (.mov (.t 0)), none⟩,
    ⟨(some 4), .val (.bin .num .eql (.t 3) (.c (.int .i64 0))), none⟩,
    ⟨(some 5), .val (.mov (.t 4)), none⟩,
    ⟨(some 6), .val (.mov (.t 0)), (some (5, false))⟩,
    ⟨(some 7), .val (.bin .num .eql (.t 6) (.c (.int .i64 1))), (some (5, false))⟩,
    ⟨(some 8), .val (.pick (.t 5) (.c (.bool true)) (.t 7)), none⟩,
    ⟨(some 9), .val (.mov (.t 8)), none⟩,
    ⟨(some 10), .val (.mov (.t 0)), (some (9, false))⟩,
    ⟨(some 11), .val (.bin .num .eql (.t 10) (.c (.int .i64 2))), (some (9, false))⟩,
    ⟨(some 12), .val (.pick (.t 9) (.c (.bool true)) (.t 11)), none⟩,
    ⟨(some 2), .val (.mov (.t 12)), none⟩]
def r46 : RC := .seq (.reg g46_0) (.seq (.reg g46_1) (.ret))
def o46 : List RR := [.tmp 2]
theorem k46 : chkC Try.prog 13 r46 (Try.f46.body.getD .skip) = true := by decide +kernel
theorem q46 : chkR Try.prog Try.f46.results.toList o46 = true := by decide +kernel

/- wireschema/wireschemaref23.Tag -/
def g11_0 : List Am.Item := [
    ⟨(some 4), .val (.mov (.c (.str []))), none⟩,
    ⟨(some 5), .val (.mov (.c (.int .i64 0))), none⟩]
def g11_1 : List Am.Item := [
    ⟨(some 6), .val (.mov (.t 0)), none⟩,
    ⟨(some 7), .val (.bin .num .lss (.t 6) (.c (.int .i64 1))), none⟩,
    ⟨(some 8), .val (.mov (.t 7)), none⟩,
    ⟨(some 9), .val (.mov (.t 0)), (some (8, false))⟩,
    ⟨(some 10), .val (.bin .num .gtr (.t 9) (.c (.int .i64 65535))), (some (8, false))⟩,
    ⟨(some 11), .val (.pick (.t 8) (.c (.bool true)) (.t 10)), none⟩,
    ⟨(some 12), .val (.mov (.t 11)), none⟩,
    ⟨(some 13), .val (.mov (.t 1)), (some (12, false))⟩,
    ⟨(some 14), .val (.bin .num .lss (.t 13) (.c (.int .i64 0))), (some (12, false))⟩,
    ⟨(some 15), .val (.pick (.t 12) (.c (.bool true)) (.t 14)), none⟩,
    ⟨(some 16), .val (.mov (.t 15)), none⟩,
    ⟨(some 17), .val (.mov (.t 1)), (some (16, false))⟩,
    ⟨(some 18), .val (.bin .num .gtr (.t 17) (.c (.int .i64 6))), (some (16, false))⟩,
    ⟨(some 19), .val (.pick (.t 16) (.c (.bool true)) (.t 18)), none⟩]
def g11_2 : List Am.Item := [
    ⟨(some 4), .val (.mov (.c (.str []))), none⟩,
    ⟨(some 5), .val (.mov (.c (.int .i64 6))), none⟩]
def g11_3 : List Am.Item := [
    ⟨(some 20), .val (.mov (.t 0)), none⟩,
    ⟨(some 21), .val (.bin .num .mul (.t 20) (.c (.int .i64 8))), none⟩,
    ⟨(some 22), .val (.mov (.t 1)), none⟩,
    ⟨(some 23), .val (.bin .num .add (.t 21) (.t 22)), none⟩,
    ⟨(some 24), .val (.cvi .u64 (.t 23)), none⟩,
    ⟨(some 25), .call (.f 31) [(.t 24)], none⟩,
    ⟨(some 4), .val (.mov (.t 25)), none⟩,
    ⟨(some 5), .val (.mov (.c (.int .i64 0))), none⟩]
def r11 : RC := .seq (.reg g11_0) (.seq (.seq (.reg g11_1) (.cond (.t 19) (.seq (.reg g11_2) (.ret)) (.skip))) (.seq (.reg g11_3) (.ret)))
def o11 : List RR := [.tmp 4, .tmp 5]
theorem k11 : chkC Try.prog 26 r11 (Try.f11.body.getD .skip) = true := by decide +kernel
theorem q11 : chkR Try.prog Try.f11.results.toList o11 = true := by decide +kernel

/- wireschema/wireschemaref23.TakeTag -/
def g13_0 : List Am.Item := [
    ⟨(some 1), .boxN 1 (.t 0), none⟩,
    ⟨(some 2), .val (.mov (.c (.int .i64 0))), none⟩,
    ⟨(some 3), .val (.mov (.c (.int .i64 0))), none⟩,
    ⟨(some 4), .allocN 4 [.str [], .int .i64 0, .int .i64 0, .int .i64 0, .int .i64 0, .int .i64 0], none⟩,
    ⟨(some 5), .val (.mov (.c (.int .i64 0))), none⟩]
def g13_1 : List Am.Item := [
    ⟨(some 10), .val (.load (some 6) (.t 1)), none⟩,
    ⟨(some 11), .call (.f 33) [(.t 10)], none⟩,
    ⟨(some 9), .val (.mov (.t 11)), none⟩,
    ⟨(some 12), .val (.ext (.t 9) 0), none⟩,
    ⟨(some 13), .val (.ext (.t 9) 1), none⟩,
    ⟨(some 14), .val (.ext (.t 9) 2), none⟩,
    ⟨(some 7), .allocN 7 [.str [], .int .i64 0, .int .i64 0, .int .i64 0, .int .i64 0, .int .i64 0], none⟩,
    ⟨(some 6), .val (.mov (.t 12)), none⟩,
    ⟨none, .store 6 (.t 7) (.t 13), none⟩,
    ⟨(some 8), .val (.mov (.t 14)), none⟩]
def g13_2 : List Am.Item := [
    ⟨(some 15), .val (.mov (.t 8)), none⟩,
    ⟨(some 16), .val (.bin .num .neq (.t 15) (.c (.int .i64 0))), none⟩]
def g13_3 : List Am.Item := [
    ⟨(some 17), .val (.loadv 0 1 (some 6) (.t 1)), none⟩,
    ⟨(some 18), .val (.mov (.t 8)), none⟩,
    ⟨(some 2), .val (.mov (.c (.int .i64 0))), none⟩,
    ⟨(some 3), .val (.mov (.c (.int .i64 0))), none⟩,
    ⟨none, .storev 0 4 6 (.t 4) (.t 17), none⟩,
    ⟨(some 5), .val (.mov (.t 18)), none⟩]
def g13_4 : List Am.Item := [
    ⟨(some 19), .val (.mov (.t 6)), none⟩,
    ⟨(some 20), .val (.bin .num .rem (.t 19) (.c (.int .u64 8))), none⟩,
    ⟨(some 21), .val (.bin .num .eql (.t 20) (.c (.int .u64 7))), none⟩]
def g13_5 : List Am.Item := [
    ⟨(some 22), .val (.loadv 0 1 (some 6) (.t 1)), none⟩,
    ⟨(some 2), .val (.mov (.c (.int .i64 0))), none⟩,
    ⟨(some 3), .val (.mov (.c (.int .i64 0))), none⟩,
    ⟨none, .storev 0 4 6 (.t 4) (.t 22), none⟩,
    ⟨(some 5), .val (.mov (.c (.int .i64 5))), none⟩]
def g13_6 : List Am.Item := [
    ⟨(some 23), .val (.mov (.t 6)), none⟩,
    ⟨(some 24), .val (.bin .num .quo (.t 23) (.c (.int .u64 8))), none⟩,
    ⟨(some 25), .val (.bin .num .lss (.t 24) (.c (.int .u64 1))), none⟩,
    ⟨(some 26), .val (.mov (.t 25)), none⟩,
    ⟨(some 27), .val (.mov (.t 6)), (some (26, false))⟩,
    ⟨(some 28), .val (.bin .num .quo (.t 27) (.c (.int .u64 8))), (some (26, false))⟩,
    ⟨(some 29), .val (.bin .num .gtr (.t 28) (.c (.int .u64 65535))), (some (26, false))⟩,
    ⟨(some 30), .val (.pick (.t 26) (.c (.bool true)) (.t 29)), none⟩]
def g13_7 : List Am.Item := [
    ⟨(some 31), .val (.loadv 0 1 (some 6) (.t 1)), none⟩,
    ⟨(some 2), .val (.mov (.c (.int .i64 0))), none⟩,
    ⟨(some 3), .val (.mov (.c (.int .i64 0))), none⟩,
    ⟨none, .storev 0 4 6 (.t 4) (.t 31), none⟩,
    ⟨(some 5), .val (.mov (.c (.int .i64 6))), none⟩]
def g13_8 : List Am.Item := [
    ⟨(some 32), .val (.mov (.t 6)), none⟩,
    ⟨(some 33), .val (.bin .num .quo (.t 32) (.c (.int .u64 8))), none⟩,
    ⟨(some 34), .val (.cvi .i64 (.t 33)), none⟩,
    ⟨(some 35), .val (.mov (.t 6)), none⟩,
    ⟨(some 36), .val (.bin .num .rem (.t 35) (.c (.int .u64 8))), none⟩,
    ⟨(some 37), .val (.cvi .i64 (.t 36)), none⟩,
    ⟨(some 38), .val (.loadv 0 7 (some 6) (.t 7)), none⟩,
    ⟨(some 2), .val (.mov (.t 34)), none⟩,
    ⟨(some 3), .val (.mov (.t 37)), none⟩,
    ⟨none, .storev 0 4 6 (.t 4) (.t 38), none⟩,
    ⟨(some 5), .val (.mov (.c (.int .i64 0))), none⟩]
def r13 : RC := .seq (.reg g13_0) (.seq (.reg g13_1) (.seq (.seq (.reg g13_2) (.cond (.t 16) (.seq (.draw g13_3) (.ret)) (.skip))) (.seq (.seq (.reg g13_4) (.cond (.t 21) (.seq (.draw g13_5) (.ret)) (.skip))) (.seq (.seq (.reg g13_6) (.cond (.t 30) (.seq (.draw g13_7) (.ret)) (.skip))) (.seq (.draw g13_8) (.ret))))))
def o13 : List RR := [.tmp 2, .tmp 3, .cell 4 (some 6), .tmp 5]
theorem k13 : chkC Try.prog 39 r13 (Try.f13.body.getD .skip) = true := by decide +kernel
theorem q13 : chkR Try.prog Try.f13.results.toList o13 = true := by decide +kernel

/- wireschema/wireschemaref23.contents -/
def g37_0 : List Am.Item := [
    ⟨(some 2), .boxN 2 (.t 0), none⟩,
    ⟨(some 3), .boxN 3 (.t 1), none⟩,
    ⟨(some 4), .allocN 4 [.int .i64 0, .int .i64 0, .int .u64 0, .str []], none⟩,
    ⟨(some 5), .allocN 5 [.str [], .int .i64 0, .int .i64 0, .int .i64 0, .int .i64 0, .int .i64 0], none⟩,
    ⟨(some 6), .val (.mov (.c (.int .i64 0))), none⟩]
def g37_1 : List Am.Item := [
    ⟨(some 13), .val (.faddr 1 (.t 2)), none⟩,
    ⟨(some 14), .val (.load none (.t 13)), none⟩,
    ⟨(some 15), .val (.bin .num .eql (.t 14) (.c (.int .i64 2))), none⟩]
def g37_2 : List Am.Item := [
    ⟨(some 17), .val (.load (some 6) (.t 3)), none⟩,
    ⟨(some 18), .call (.f 60) [(.t 17)], none⟩,
    ⟨(some 16), .val (.mov (.t 18)), none⟩,
    ⟨(some 19), .val (.ext (.t 16) 0), none⟩,
    ⟨(some 20), .val (.ext (.t 16) 1), none⟩,
    ⟨(some 21), .val (.ext (.t 16) 2), none⟩,
    ⟨(some 8), .allocN 8 [.str [], .int .i64 0, .int .i64 0, .int .i64 0, .int .i64 0, .int .i64 0], none⟩,
    ⟨(some 7), .val (.mov (.t 19)), none⟩,
    ⟨none, .store 6 (.t 8) (.t 20), none⟩,
    ⟨(some 9), .val (.mov (.t 21)), none⟩]
def g37_3 : List Am.Item := [
    ⟨(some 22), .val (.mov (.t 7)), none⟩,
    ⟨(some 23), .val (.faddr 2 (.t 2)), none⟩,
    ⟨none, .store 1 (.t 23) (.t 22), none⟩]
def g37_4 : List Am.Item := [
    ⟨(some 24), .val (.loadv 0 2 (some 4) (.t 2)), none⟩,
    ⟨(some 25), .val (.loadv 0 8 (some 6) (.t 8)), none⟩,
    ⟨(some 26), .val (.mov (.t 9)), none⟩,
    ⟨none, .storev 0 4 4 (.t 4) (.t 24), none⟩,
    ⟨none, .storev 0 5 6 (.t 5) (.t 25), none⟩,
    ⟨(some 6), .val (.mov (.t 26)), none⟩]
def g37_5 : List Am.Item := [
    ⟨(some 28), .val (.load (some 6) (.t 3)), none⟩,
    ⟨(some 29), .call (.f 33) [(.t 28)], none⟩,
    ⟨(some 27), .val (.mov (.t 29)), none⟩,
    ⟨(some 30), .val (.ext (.t 27) 0), none⟩,
    ⟨(some 31), .val (.ext (.t 27) 1), none⟩,
    ⟨(some 32), .val (.ext (.t 27) 2), none⟩,
    ⟨(some 11), .allocN 11 [.str [], .int .i64 0, .int .i64 0, .int .i64 0, .int .i64 0, .int .i64 0], none⟩,
    ⟨(some 10), .val (.mov (.t 30)), none⟩,
    ⟨none, .store 6 (.t 11) (.t 31), none⟩,
    ⟨(some 12), .val (.mov (.t 32)), none⟩]
def g37_6 : List Am.Item := [
    ⟨(some 33), .val (.mov (.t 12)), none⟩,
    ⟨(some 34), .val (.bin .num .neq (.t 33) (.c (.int .i64 0))), none⟩,
    ⟨(some 35), .val (.mov (.t 34)), none⟩,
    ⟨(some 36), .val (.faddr 1 (.t 2)), (some (35, false))⟩,
    ⟨(some 37), .val (.load none (.t 36)), (some (35, false))⟩,
    ⟨(some 38), .call (.f 46) [(.t 37)], (some (35, false))⟩,
    ⟨(some 39), .val (.pick (.t 35) (.c (.bool true)) (.t 38)), none⟩]
def g37_7 : List Am.Item := [
    ⟨(some 40), .val (.mov (.t 10)), none⟩,
    ⟨(some 41), .val (.faddr 2 (.t 2)), none⟩,
    ⟨none, .store 1 (.t 41) (.t 40), none⟩]
def g37_8 : List Am.Item := [
    ⟨(some 42), .val (.loadv 0 2 (some 4) (.t 2)), none⟩,
    ⟨(some 43), .val (.loadv 0 11 (some 6) (.t 11)), none⟩,
    ⟨(some 44), .val (.mov (.t 12)), none⟩,
    ⟨none, .storev 0 4 4 (.t 4) (.t 42), none⟩,
    ⟨none, .storev 0 5 6 (.t 5) (.t 43), none⟩,
    ⟨(some 6), .val (.mov (.t 44)), none⟩]
def g37_9 : List Am.Item := [
    ⟨(some 45), .val (.mov (.t 10)), none⟩,
    ⟨(some 46), .val (.load (some 6) (.t 11)), none⟩,
    ⟨(some 47), .call (.f 41) [(.t 46)], none⟩,
    ⟨(some 48), .val (.cvi .u64 (.t 47)), none⟩,
    ⟨(some 49), .val (.bin .num .gtr (.t 45) (.t 48)), none⟩]
def g37_10 : List Am.Item := [
    ⟨(some 50), .val (.loadv 0 2 (some 4) (.t 2)), none⟩,
    ⟨(some 51), .val (.loadv 0 3 (some 6) (.t 3)), none⟩,
    ⟨none, .storev 0 4 4 (.t 4) (.t 50), none⟩,
    ⟨none, .storev 0 5 6 (.t 5) (.t 51), none⟩,
    ⟨(some 6), .val (.mov (.c (.int .i64 4))), none⟩]
def g37_11 : List Am.Item := [
    ⟨(some 52), .val (.faddr 1 (.t 2)), none⟩,
    ⟨(some 53), .val (.load none (.t 52)), none⟩,
    ⟨(some 54), .val (.bin .num .eql (.t 53) (.c (.int .i64 3))), none⟩,
    ⟨(some 55), .val (.mov (.t 54)), none⟩,
    ⟨(some 56), .val (.mov (.t 10)), (some (55, true))⟩,
    ⟨(some 57), .val (.cvi .i64 (.t 56)), (some (55, true))⟩,
    ⟨(some 58), .val (.faddr 5 (.t 11)), (some (55, true))⟩,
    ⟨(some 59), .val (.load none (.t 58)), (some (55, true))⟩,
    ⟨(some 60), .val (.bin .num .gtr (.t 57) (.t 59)), (some (55, true))⟩,
    ⟨(some 61), .val (.pick (.t 55) (.t 60) (.c (.bool false))), none⟩,
    ⟨(some 62), .val (.mov (.t 61)), none⟩,
    ⟨(some 63), .val (.faddr 1 (.t 2)), (some (62, false))⟩,
    ⟨(some 64), .val (.load none (.t 63)), (some (62, false))⟩,
    ⟨(some 65), .val (.bin .num .neq (.t 64) (.c (.int .i64 3))), (some (62, false))⟩,
    ⟨(some 66), .val (.mov (.t 65)), (some (62, false))⟩,
    ⟨(some 67), .val (.mov (.t 10)), (some (66, true))⟩,
    ⟨(some 68), .val (.bin .num .gtr (.t 67) (.c (.int .u64 65536))), (some (66, true))⟩,
    ⟨(some 69), .val (.pick (.t 66) (.t 68) (.c (.bool false))), (some (62, false))⟩,
    ⟨(some 70), .val (.pick (.t 62) (.c (.bool true)) (.t 69)), none⟩]
def g37_12 : List Am.Item := [
    ⟨(some 71), .val (.loadv 0 2 (some 4) (.t 2)), none⟩,
    ⟨(some 72), .val (.loadv 0 3 (some 6) (.t 3)), none⟩,
    ⟨none, .storev 0 4 4 (.t 4) (.t 71), none⟩,
    ⟨none, .storev 0 5 6 (.t 5) (.t 72), none⟩,
    ⟨(some 6), .val (.mov (.c (.int .i64 3))), none⟩]
def g37_13 : List Am.Item := [
    ⟨(some 73), .val (.faddr 0 (.t 11)), none⟩,
    ⟨(some 74), .val (.load none (.t 73)), none⟩,
    ⟨(some 75), .val (.faddr 1 (.t 11)), none⟩,
    ⟨(some 76), .val (.load none (.t 75)), none⟩,
    ⟨(some 77), .val (.faddr 1 (.t 11)), none⟩,
    ⟨(some 78), .val (.load none (.t 77)), none⟩,
    ⟨(some 79), .val (.mov (.t 10)), none⟩,
    ⟨(some 80), .val (.cvi .i64 (.t 79)), none⟩,
    ⟨(some 81), .val (.bin .num .add (.t 78) (.t 80)), none⟩,
    ⟨(some 82), .val (.slc none (.t 74) (some (.t 76)) (some (.t 81)) none), none⟩,
    ⟨(some 83), .val (.faddr 3 (.t 2)), none⟩,
    ⟨none, .store 1 (.t 83) (.t 82), none⟩]
def g37_14 : List Am.Item := [
    ⟨(some 84), .val (.faddr 1 (.t 11)), none⟩,
    ⟨(some 85), .val (.load none (.t 84)), none⟩,
    ⟨(some 86), .val (.mov (.t 10)), none⟩,
    ⟨(some 87), .val (.cvi .i64 (.t 86)), none⟩,
    ⟨(some 88), .val (.bin .num .add (.t 85) (.t 87)), none⟩,
    ⟨(some 89), .val (.faddr 1 (.t 11)), none⟩,
    ⟨none, .store 1 (.t 89) (.t 88), none⟩]
def g37_15 : List Am.Item := [
    ⟨(some 90), .val (.loadv 0 2 (some 4) (.t 2)), none⟩,
    ⟨(some 91), .val (.loadv 0 11 (some 6) (.t 11)), none⟩,
    ⟨none, .storev 0 4 4 (.t 4) (.t 90), none⟩,
    ⟨none, .storev 0 5 6 (.t 5) (.t 91), none⟩,
    ⟨(some 6), .val (.mov (.c (.int .i64 0))), none⟩]
def r37 : RC := .seq (.reg g37_0) (.seq (.seq (.reg g37_1) (.cond (.t 15) (.seq (.reg g37_2) (.seq (.reg g37_3) (.seq (.draw g37_4) (.ret)))) (.skip))) (.seq (.reg g37_5) (.seq (.seq (.reg g37_6) (.cond (.t 39) (.seq (.reg g37_7) (.seq (.draw g37_8) (.ret))) (.skip))) (.seq (.seq (.reg g37_9) (.cond (.t 49) (.seq (.draw g37_10) (.ret)) (.skip))) (.seq (.seq (.reg g37_11) (.cond (.t 70) (.seq (.draw g37_12) (.ret)) (.skip))) (.seq (.reg g37_13) (.seq (.reg g37_14) (.seq (.draw g37_15) (.ret)))))))))
def o37 : List RR := [.cell 4 (some 4), .cell 5 (some 6), .tmp 6]
theorem k37 : chkC Try.prog 92 r37 (Try.f37.body.getD .skip) = true := by decide +kernel
theorem q37 : chkR Try.prog Try.f37.results.toList o37 = true := by decide +kernel

/- wireschema/wireschemaref23.Next -/
def g16_0 : List Am.Item := [
    ⟨(some 1), .boxN 1 (.t 0), none⟩,
    ⟨(some 2), .allocN 2 [.int .i64 0, .int .i64 0, .int .u64 0, .str []], none⟩,
    ⟨(some 3), .allocN 3 [.str [], .int .i64 0, .int .i64 0, .int .i64 0, .int .i64 0, .int .i64 0], none⟩,
    ⟨(some 4), .val (.mov (.c (.int .i64 0))), none⟩]
def g16_1 : List Am.Item := [
    ⟨(some 11), .val (.load (some 6) (.t 1)), none⟩,
    ⟨(some 12), .call (.f 13) [(.t 11)], none⟩,
    ⟨(some 10), .val (.mov (.t 12)), none⟩,
    ⟨(some 13), .val (.ext (.t 10) 0), none⟩,
    ⟨(some 14), .val (.ext (.t 10) 1), none⟩,
    ⟨(some 15), .val (.ext (.t 10) 2), none⟩,
    ⟨(some 16), .val (.ext (.t 10) 3), none⟩,
    ⟨(some 7), .allocN 7 [.str [], .int .i64 0, .int .i64 0, .int .i64 0, .int .i64 0, .int .i64 0], none⟩,
    ⟨(some 5), .val (.mov (.t 13)), none⟩,
    ⟨(some 6), .val (.mov (.t 14)), none⟩,
    ⟨none, .store 6 (.t 7) (.t 15), none⟩,
    ⟨(some 8), .val (.mov (.t 16)), none⟩]
def g16_2 : List Am.Item := [
    ⟨(some 17), .val (.mov (.t 8)), none⟩,
    ⟨(some 18), .val (.bin .num .neq (.t 17) (.c (.int .i64 0))), none⟩]
def g16_3 : List Am.Item := [
    ⟨(some 19), .val (.build [.int .i64 0, .int .i64 0, .int .u64 0, .str []] []), none⟩,
    ⟨(some 20), .val (.loadv 0 1 (some 6) (.t 1)), none⟩,
    ⟨(some 21), .val (.mov (.t 8)), none⟩,
    ⟨none, .storev 0 2 4 (.t 2) (.t 19), none⟩,
    ⟨none, .storev 0 3 6 (.t 3) (.t 20), none⟩,
    ⟨(some 4), .val (.mov (.t 21)), none⟩]
def g16_4 : List Am.Item := [
    ⟨(some 23), .val (.load (some 6) (.t 7)), none⟩,
    ⟨(some 24), .call (.f 36) [(.t 23), (.c (.int .i64 1))], none⟩,
    ⟨(some 22), .val (.mov (.t 24)), none⟩,
    ⟨(some 25), .val (.ext (.t 22) 0), none⟩,
    ⟨(some 26), .val (.ext (.t 22) 1), none⟩,
    ⟨none, .store 6 (.t 7) (.t 25), none⟩,
    ⟨(some 8), .val (.mov (.t 26)), none⟩]
def g16_5 : List Am.Item := [
    ⟨(some 27), .val (.mov (.t 8)), none⟩,
    ⟨(some 28), .val (.bin .num .neq (.t 27) (.c (.int .i64 0))), none⟩]
def g16_6 : List Am.Item := [
    ⟨(some 29), .val (.build [.int .i64 0, .int .i64 0, .int .u64 0, .str []] []), none⟩,
    ⟨(some 30), .val (.loadv 0 1 (some 6) (.t 1)), none⟩,
    ⟨(some 31), .val (.mov (.t 8)), none⟩,
    ⟨none, .storev 0 2 4 (.t 2) (.t 29), none⟩,
    ⟨none, .storev 0 3 6 (.t 3) (.t 30), none⟩,
    ⟨(some 4), .val (.mov (.t 31)), none⟩]
def g16_7 : List Am.Item := [
    ⟨(some 33), .val (.mov (.t 5)), none⟩,
    ⟨(some 34), .val (.mov (.t 6)), none⟩,
    ⟨(some 35), .val (.build [.int .i64 0, .int .i64 0, .int .u64 0, .str []] [(0, 1, (.t 33)), (1, 1, (.t 34))]), none⟩,
    ⟨(some 36), .val (.load (some 6) (.t 7)), none⟩,
    ⟨(some 37), .call (.f 37) [(.t 35), (.t 36)], none⟩,
    ⟨(some 32), .val (.mov (.t 37)), none⟩,
    ⟨(some 38), .val (.ext (.t 32) 0), none⟩,
    ⟨(some 39), .val (.ext (.t 32) 1), none⟩,
    ⟨(some 40), .val (.ext (.t 32) 2), none⟩,
    ⟨(some 9), .allocN 9 [.int .i64 0, .int .i64 0, .int .u64 0, .str []], none⟩,
    ⟨none, .store 4 (.t 9) (.t 38), none⟩,
    ⟨none, .store 6 (.t 7) (.t 39), none⟩,
    ⟨(some 8), .val (.mov (.t 40)), none⟩]
def g16_8 : List Am.Item := [
    ⟨(some 41), .val (.mov (.t 8)), none⟩,
    ⟨(some 42), .val (.bin .num .neq (.t 41) (.c (.int .i64 0))), none⟩]
def g16_9 : List Am.Item := [
    ⟨(some 43), .val (.build [.int .i64 0, .int .i64 0, .int .u64 0, .str []] []), none⟩,
    ⟨(some 44), .val (.loadv 0 1 (some 6) (.t 1)), none⟩,
    ⟨(some 45), .val (.mov (.t 8)), none⟩,
    ⟨none, .storev 0 2 4 (.t 2) (.t 43), none⟩,
    ⟨none, .storev 0 3 6 (.t 3) (.t 44), none⟩,
    ⟨(some 4), .val (.mov (.t 45)), none⟩]
def g16_10 : List Am.Item := [
    ⟨(some 46), .val (.loadv 0 9 (some 4) (.t 9)), none⟩,
    ⟨(some 47), .val (.loadv 0 7 (some 6) (.t 7)), none⟩,
    ⟨none, .storev 0 2 4 (.t 2) (.t 46), none⟩,
    ⟨none, .storev 0 3 6 (.t 3) (.t 47), none⟩,
    ⟨(some 4), .val (.mov (.c (.int .i64 0))), none⟩]
def r16 : RC := .seq (.reg g16_0) (.seq (.reg g16_1) (.seq (.seq (.reg g16_2) (.cond (.t 18) (.seq (.draw g16_3) (.ret)) (.skip))) (.seq (.reg g16_4) (.seq (.seq (.reg g16_5) (.cond (.t 28) (.seq (.draw g16_6) (.ret)) (.skip))) (.seq (.reg g16_7) (.seq (.seq (.reg g16_8) (.cond (.t 42) (.seq (.draw g16_9) (.ret)) (.skip))) (.seq (.draw g16_10) (.ret))))))))
def o16 : List RR := [.cell 2 (some 4), .cell 3 (some 6), .tmp 4]
theorem k16 : chkC Try.prog 48 r16 (Try.f16.body.getD .skip) = true := by decide +kernel
theorem q16 : chkR Try.prog Try.f16.results.toList o16 = true := by decide +kernel

/- wireschema/wireschemaref23.Scan -/
def g18_0 : List Am.Item := [
    ⟨(some 3), .boxN 3 (.t 1), none⟩,
    ⟨(some 4), .val (.mov (.c (.nils))), none⟩,
    ⟨(some 5), .val (.mov (.c (.int .i64 0))), none⟩]
def g18_1 : List Am.Item := [
    ⟨(some 13), .val (.mov (.t 0)), none⟩,
    ⟨(some 14), .val (.load (some 4) (.t 3)), none⟩,
    ⟨(some 15), .call (.f 40) [(.t 13), (.t 14)], none⟩,
    ⟨(some 12), .val (.mov (.t 15)), none⟩,
    ⟨(some 16), .val (.ext (.t 12) 0), none⟩,
    ⟨(some 17), .val (.ext (.t 12) 1), none⟩,
    ⟨(some 6), .allocN 6 [.str [], .int .i64 0, .int .i64 0, .int .i64 0, .int .i64 0, .int .i64 0], none⟩,
    ⟨none, .store 6 (.t 6) (.t 16), none⟩,
    ⟨(some 7), .val (.mov (.t 17)), none⟩]
def g18_2 : List Am.Item := [
    ⟨(some 18), .val (.mov (.t 7)), none⟩,
    ⟨(some 19), .val (.bin .num .neq (.t 18) (.c (.int .i64 0))), none⟩]
def g18_3 : List Am.Item := [
    ⟨(some 20), .val (.mov (.t 7)), none⟩,
    ⟨(some 4), .val (.mov (.c (.nils))), none⟩,
    ⟨(some 5), .val (.mov (.t 20)), none⟩]
def g18_4 : List Am.Item := [
    ⟨(some 8), .val (.mov (.c (.nils))), none⟩]
def g18_5 : List Am.Item := [
    ⟨(some 21), .val (.load (some 6) (.t 6)), none⟩,
    ⟨(some 22), .call (.f 41) [(.t 21)], none⟩,
    ⟨(some 23), .val (.bin .num .gtr (.t 22) (.c (.int .i64 0))), none⟩]
def g18_6 : List Am.Item := [
    ⟨(some 25), .val (.load (some 6) (.t 6)), none⟩,
    ⟨(some 26), .call (.f 16) [(.t 25)], none⟩,
    ⟨(some 24), .val (.mov (.t 26)), none⟩,
    ⟨(some 27), .val (.ext (.t 24) 0), none⟩,
    ⟨(some 28), .val (.ext (.t 24) 1), none⟩,
    ⟨(some 29), .val (.ext (.t 24) 2), none⟩,
    ⟨(some 9), .allocN 9 [.int .i64 0, .int .i64 0, .int .u64 0, .str []], none⟩,
    ⟨(some 10), .allocN 10 [.str [], .int .i64 0, .int .i64 0, .int .i64 0, .int .i64 0, .int .i64 0], none⟩,
    ⟨none, .store 4 (.t 9) (.t 27), none⟩,
    ⟨none, .store 6 (.t 10) (.t 28), none⟩,
    ⟨(some 11), .val (.mov (.t 29)), none⟩]
def g18_7 : List Am.Item := [
    ⟨(some 30), .val (.mov (.t 11)), none⟩,
    ⟨(some 31), .val (.bin .num .neq (.t 30) (.c (.int .i64 0))), none⟩]
def g18_8 : List Am.Item := [
    ⟨(some 32), .val (.mov (.t 11)), none⟩,
    ⟨(some 4), .val (.mov (.c (.nils))), none⟩,
    ⟨(some 5), .val (.mov (.t 32)), none⟩]
def g18_9 : List Am.Item := [
    ⟨(some 33), .val (.mov (.t 8)), none⟩,
    ⟨(some 34), .val (.load (some 4) (.t 9)), none⟩,
    ⟨(some 35), .bsl 4 1 [.int .i64 0, .int .i64 0, .int .u64 0, .str []] [(0, 4, (.t 34))], none⟩,
    ⟨(some 36), .app 4 40 33 (.t 33) (.t 35), none⟩,
    ⟨(some 8), .val (.mov (.t 36)), none⟩]
def g18_10 : List Am.Item := [
    ⟨(some 37), .val (.load (some 6) (.t 10)), none⟩,
    ⟨none, .store 6 (.t 6) (.t 37), none⟩]
def l18_0 : RC := .gho (.drop 10) (.gho (.drop 9) (.seq (.seq (.reg g18_5) (.cond (.t 23) (.skip) (.exit 0))) (.block 1 (.seq (.reg g18_6) (.seq (.seq (.reg g18_7) (.cond (.t 31) (.seq (.reg g18_8) (.ret)) (.skip))) (.seq (.reg g18_9) (.reg g18_10)))))))
def g18_11 : List Am.Item := [
    ⟨(some 38), .val (.mov (.t 8)), none⟩,
    ⟨(some 4), .val (.mov (.t 38)), none⟩,
    ⟨(some 5), .val (.mov (.c (.int .i64 0))), none⟩]
def r18 : RC := .seq (.reg g18_0) (.seq (.reg g18_1) (.seq (.seq (.reg g18_2) (.cond (.t 19) (.seq (.reg g18_3) (.ret)) (.skip))) (.seq (.reg g18_4) (.gho (.vec 8 8 4) (.seq (.block 0 (.loop l18_0)) (.seq (.reg g18_11) (.ret)))))))
def o18 : List RR := [.tmp 4, .tmp 5]
theorem k18 : chkC Try.prog 39 r18 (Try.f18.body.getD .skip) = true := by decide +kernel
theorem q18 : chkR Try.prog Try.f18.results.toList o18 = true := by decide +kernel

/- wireschema/wireschemaref23.Same -/
def g19_0 : List Am.Item := [
    ⟨(some 4), .val (.mov (.c (.bool false))), none⟩]
def g19_1 : List Am.Item := [
    ⟨(some 6), .val (.mov (.t 0)), none⟩,
    ⟨(some 7), .val (.len 1 (.t 6)), none⟩,
    ⟨(some 8), .val (.mov (.t 1)), none⟩,
    ⟨(some 9), .val (.len 1 (.t 8)), none⟩,
    ⟨(some 10), .val (.bin .num .neq (.t 7) (.t 9)), none⟩]
def g19_2 : List Am.Item := [
    ⟨(some 4), .val (.mov (.c (.bool false))), none⟩]
def g19_3 : List Am.Item := [
    ⟨(some 5), .val (.mov (.c (.int .i64 0))), none⟩]
def g19_4 : List Am.Item := [
    ⟨(some 11), .val (.mov (.t 5)), none⟩,
    ⟨(some 12), .val (.mov (.t 0)), none⟩,
    ⟨(some 13), .val (.len 1 (.t 12)), none⟩,
    ⟨(some 14), .val (.bin .num .lss (.t 11) (.t 13)), none⟩]
def g19_6 : List Am.Item := [
    ⟨(some 17), .val (.mov (.t 0)), none⟩,
    ⟨(some 18), .val (.mov (.t 5)), none⟩,
    ⟨(some 19), .val (.iaddr 4 none (.t 17) (.t 18)), none⟩,
    ⟨(some 20), .val (.load (some 4) (.t 19)), none⟩,
    ⟨(some 21), .val (.mov (.t 1)), none⟩,
    ⟨(some 22), .val (.mov (.t 5)), none⟩,
    ⟨(some 23), .val (.iaddr 4 none (.t 21) (.t 22)), none⟩,
    ⟨(some 24), .val (.load (some 4) (.t 23)), none⟩,
    ⟨(some 25), .val (.eqs true [.num, .num, .num, .str] (.t 20) (.t 24)), none⟩]
def g19_7 : List Am.Item := [
    ⟨(some 4), .val (.mov (.c (.bool false))), none⟩]
def g19_5 : List Am.Item := [
    ⟨(some 15), .val (.mov (.t 5)), none⟩,
    ⟨(some 16), .val (.bin .num .add (.t 15) (.c (.int .i64 1))), none⟩,
    ⟨(some 5), .val (.mov (.t 16)), none⟩]
def l19_0 : RC := .seq (.seq (.reg g19_4) (.cond (.t 14) (.skip) (.exit 0))) (.seq (.block 1 (.seq (.draw g19_6) (.cond (.t 25) (.seq (.reg g19_7) (.ret)) (.skip)))) (.reg g19_5))
def g19_8 : List Am.Item := [
    ⟨(some 4), .val (.mov (.c (.bool true))), none⟩]
def r19 : RC := .seq (.reg g19_0) (.seq (.seq (.reg g19_1) (.cond (.t 10) (.seq (.reg g19_2) (.ret)) (.skip))) (.seq (.seq (.reg g19_3) (.block 0 (.loop l19_0))) (.seq (.reg g19_8) (.ret))))
def o19 : List RR := [.tmp 4]
theorem k19 : chkC Try.prog 26 r19 (Try.f19.body.getD .skip) = true := by decide +kernel
theorem q19 : chkR Try.prog Try.f19.results.toList o19 = true := by decide +kernel

/- wireschema/wireschemaref23.Valid -/
def g24_0 : List Am.Item := [
    ⟨(some 1), .boxN 1 (.t 0), none⟩,
    ⟨(some 2), .val (.mov (.c (.bool false))), none⟩]
def g24_1 : List Am.Item := [
    ⟨(some 6), .val (.faddr 0 (.t 1)), none⟩,
    ⟨(some 7), .val (.load none (.t 6)), none⟩,
    ⟨(some 8), .val (.faddr 1 (.t 1)), none⟩,
    ⟨(some 9), .val (.load none (.t 8)), none⟩,
    ⟨(some 10), .call (.f 11) [(.t 7), (.t 9)], none⟩,
    ⟨(some 5), .val (.mov (.t 10)), none⟩,
    ⟨(some 11), .val (.ext (.t 5) 0), none⟩,
    ⟨(some 12), .val (.ext (.t 5) 1), none⟩,
    ⟨(some 3), .val (.mov (.t 11)), none⟩,
    ⟨(some 4), .val (.mov (.t 12)), none⟩]
def g24_2 : List Am.Item := [
    ⟨(some 13), .val (.faddr 1 (.t 1)), none⟩,
    ⟨(some 14), .val (.load none (.t 13)), none⟩,
    ⟨(some 15), .call (.f 46) [(.t 14)], none⟩]
def g24_3 : List Am.Item := [
    ⟨(some 16), .val (.mov (.t 4)), none⟩,
    ⟨(some 17), .val (.bin .num .eql (.t 16) (.c (.int .i64 0))), none⟩,
    ⟨(some 18), .val (.mov (.t 17)), none⟩,
    ⟨(some 19), .val (.faddr 3 (.t 1)), (some (18, true))⟩,
    ⟨(some 20), .val (.load none (.t 19)), (some (18, true))⟩,
    ⟨(some 21), .val (.bin .str .eql (.t 20) (.c (.str []))), (some (18, true))⟩,
    ⟨(some 22), .val (.pick (.t 18) (.t 21) (.c (.bool false))), none⟩,
    ⟨(some 2), .val (.mov (.t 22)), none⟩]
def g24_4 : List Am.Item := [
    ⟨(some 23), .val (.mov (.t 4)), none⟩,
    ⟨(some 24), .val (.bin .num .eql (.t 23) (.c (.int .i64 0))), none⟩,
    ⟨(some 25), .val (.mov (.t 24)), none⟩,
    ⟨(some 26), .val (.faddr 2 (.t 1)), (some (25, true))⟩,
    ⟨(some 27), .val (.load none (.t 26)), (some (25, true))⟩,
    ⟨(some 28), .val (.bin .num .eql (.t 27) (.c (.int .u64 0))), (some (25, true))⟩,
    ⟨(some 29), .val (.pick (.t 25) (.t 28) (.c (.bool false))), none⟩,
    ⟨(some 2), .val (.mov (.t 29)), none⟩]
def r24 : RC := .seq (.reg g24_0) (.seq (.reg g24_1) (.seq (.seq (.reg g24_2) (.cond (.t 15) (.seq (.reg g24_3) (.ret)) (.skip))) (.seq (.reg g24_4) (.ret))))
def o24 : List RR := [.tmp 2]
theorem k24 : chkC Try.prog 30 r24 (Try.f24.body.getD .skip) = true := by decide +kernel
theorem q24 : chkR Try.prog Try.f24.results.toList o24 = true := by decide +kernel

/- wireschema/wireschemaref23.Put -/
def g25_0 : List Am.Item := [
    ⟨(some 2), .val (.mov (.c (.str []))), none⟩]
def g25_1 : List Am.Item := [
    ⟨(some 3), .val (.mov (.c (.str []))), none⟩]
def g25_2 : List Am.Item := [
    ⟨(some 4), .val (.mov (.c (.int .i64 0))), none⟩]
def g25_3 : List Am.Item := [
    ⟨(some 8), .val (.mov (.t 4)), none⟩,
    ⟨(some 9), .val (.mov (.t 0)), none⟩,
    ⟨(some 10), .val (.len 1 (.t 9)), none⟩,
    ⟨(some 11), .val (.bin .num .lss (.t 8) (.t 10)), none⟩]
def g25_5 : List Am.Item := [
    ⟨(some 14), .val (.mov (.t 0)), none⟩,
    ⟨(some 15), .val (.mov (.t 4)), none⟩,
    ⟨(some 16), .val (.iaddr 4 none (.t 14) (.t 15)), none⟩,
    ⟨(some 17), .val (.load (some 4) (.t 16)), none⟩,
    ⟨(some 5), .allocN 5 [.int .i64 0, .int .i64 0, .int .u64 0, .str []], none⟩,
    ⟨none, .store 4 (.t 5) (.t 17), none⟩]
def g25_6 : List Am.Item := [
    ⟨(some 18), .val (.load (some 4) (.t 5)), none⟩,
    ⟨(some 19), .call (.f 24) [(.t 18)], none⟩,
    ⟨(some 20), .val (.un .not (.t 19)), none⟩]
def g25_7 : List Am.Item := [
    ⟨(some 22), .val (.faddr 0 (.t 5)), none⟩,
    ⟨(some 23), .val (.load none (.t 22)), none⟩,
    ⟨(some 24), .val (.faddr 1 (.t 5)), none⟩,
    ⟨(some 25), .val (.load none (.t 24)), none⟩,
    ⟨(some 26), .call (.f 11) [(.t 23), (.t 25)], none⟩,
    ⟨(some 21), .val (.mov (.t 26)), none⟩,
    ⟨(some 27), .val (.ext (.t 21) 0), none⟩,
    ⟨(some 28), .val (.ext (.t 21) 1), none⟩,
    ⟨(some 6), .val (.mov (.t 27)), none⟩,
    ⟨(some 7), .val (.mov (.t 28)), none⟩]
def g25_8 : List Am.Item := [
    ⟨(some 29), .val (.mov (.t 3)), none⟩,
    ⟨(some 30), .val (.mov (.t 6)), none⟩,
    ⟨(some 31), .val (.bin .str .add (.t 29) (.t 30)), none⟩,
    ⟨(some 3), .val (.mov (.t 31)), none⟩]
def g25_9 : List Am.Item := [
    ⟨(some 32), .val (.faddr 1 (.t 5)), none⟩,
    ⟨(some 33), .val (.load none (.t 32)), none⟩,
    ⟨(some 34), .val (.bin .num .eql (.t 33) (.c (.int .i64 2))), none⟩]
def g25_10 : List Am.Item := [
    ⟨(some 35), .val (.mov (.t 3)), none⟩,
    ⟨(some 36), .val (.faddr 2 (.t 5)), none⟩,
    ⟨(some 37), .val (.load none (.t 36)), none⟩,
    ⟨(some 38), .call (.f 47) [(.t 37)], none⟩,
    ⟨(some 39), .val (.bin .str .add (.t 35) (.t 38)), none⟩,
    ⟨(some 3), .val (.mov (.t 39)), none⟩]
def g25_11 : List Am.Item := [
    ⟨(some 40), .val (.faddr 1 (.t 5)), none⟩,
    ⟨(some 41), .val (.load none (.t 40)), none⟩,
    ⟨(some 42), .call (.f 46) [(.t 41)], none⟩]
def g25_12 : List Am.Item := [
    ⟨(some 43), .val (.mov (.t 3)), none⟩,
    ⟨(some 44), .val (.faddr 2 (.t 5)), none⟩,
    ⟨(some 45), .val (.load none (.t 44)), none⟩,
    ⟨(some 46), .call (.f 31) [(.t 45)], none⟩,
    ⟨(some 47), .val (.bin .str .add (.t 43) (.t 46)), none⟩,
    ⟨(some 3), .val (.mov (.t 47)), none⟩]
def g25_13 : List Am.Item := [
    ⟨(some 48), .val (.mov (.t 3)), none⟩,
    ⟨(some 49), .val (.faddr 3 (.t 5)), none⟩,
    ⟨(some 50), .val (.loadv 0 5 none (.t 49)), none⟩,
    ⟨(some 51), .val (.len 0 (.t 50)), none⟩,
    ⟨(some 52), .val (.cvi .u64 (.t 51)), none⟩,
    ⟨(some 53), .call (.f 31) [(.t 52)], none⟩,
    ⟨(some 54), .val (.faddr 3 (.t 5)), none⟩,
    ⟨(some 55), .val (.loadv 0 5 none (.t 54)), none⟩,
    ⟨(some 56), .val (.bin .str .add (.t 53) (.t 55)), none⟩,
    ⟨(some 57), .val (.bin .str .add (.t 48) (.t 56)), none⟩,
    ⟨(some 3), .val (.mov (.t 57)), none⟩]
def g25_4 : List Am.Item := [
    ⟨(some 12), .val (.mov (.t 4)), none⟩,
    ⟨(some 13), .val (.bin .num .add (.t 12) (.c (.int .i64 1))), none⟩,
    ⟨(some 4), .val (.mov (.t 13)), none⟩]
def l25_0 : RC := .gho (.drop 5) (.seq (.seq (.reg g25_3) (.cond (.t 11) (.skip) (.exit 0))) (.seq (.block 1 (.seq (.reg g25_5) (.seq (.seq (.reg g25_6) (.cond (.t 20) (.exit 1) (.skip))) (.seq (.reg g25_7) (.seq (.reg g25_8) (.seq (.reg g25_9) (.cond (.t 34) (.reg g25_10) (.seq (.reg g25_11) (.cond (.t 42) (.reg g25_12) (.draw g25_13)))))))))) (.reg g25_4)))
def g25_14 : List Am.Item := [
    ⟨(some 58), .val (.mov (.t 3)), none⟩,
    ⟨(some 2), .val (.mov (.t 58)), none⟩]
def r25 : RC := .seq (.reg g25_0) (.seq (.reg g25_1) (.seq (.seq (.reg g25_2) (.block 0 (.loop l25_0))) (.seq (.reg g25_14) (.ret))))
def o25 : List RR := [.tmp 2]
theorem k25 : chkC Try.prog 59 r25 (Try.f25.body.getD .skip) = true := by decide +kernel
theorem q25 : chkR Try.prog Try.f25.results.toList o25 = true := by decide +kernel

/- (*strings.Builder).copyCheck -/
def g62_0 : List Am.Item := [
    ⟨(some 2), .val (.mov (.t 0)), none⟩,
    ⟨(some 3), .val (.nilck (.t 2)), none⟩,
    ⟨(some 4), .val (.faddr 0 (.t 3)), none⟩,
    ⟨(some 5), .val (.load none (.t 4)), none⟩,
    ⟨(some 6), .val (.bin .ptr .eql (.t 5) (.c (.nilp))), none⟩]
def g62_1 : List Am.Item := [
    ⟨(some 7), .val (.mov (.t 0)), none⟩,
    ⟨(some 8), .val (.mov (.t 0)), none⟩,
    ⟨(some 9), .val (.toU (.t 8)), none⟩,
    ⟨(some 10), .val (.same (.t 9)), none⟩,
    ⟨(some 11), .val (.ofU 71 2 (.t 10)), none⟩,
    ⟨(some 12), .val (.nilck (.t 7)), none⟩,
    ⟨(some 13), .val (.faddr 0 (.t 12)), none⟩,
    ⟨none, .store 1 (.t 13) (.t 11), none⟩]
def g62_2 : List Am.Item := [
    ⟨(some 14), .val (.mov (.t 0)), none⟩,
    ⟨(some 15), .val (.nilck (.t 14)), none⟩,
    ⟨(some 16), .val (.faddr 0 (.t 15)), none⟩,
    ⟨(some 17), .val (.load none (.t 16)), none⟩,
    ⟨(some 18), .val (.mov (.t 0)), none⟩,
    ⟨(some 19), .val (.bin .ptr .neq (.t 17) (.t 18)), none⟩]
def r62 : RC := .seq (.reg g62_0) (.cond (.t 6) (.reg g62_1) (.seq (.reg g62_2) (.cond (.t 19) (.no) (.skip))))
def o62 : List RR := []
theorem k62 : chkC Try.prog 20 r62 (Try.f62.body.getD .skip) = true := by decide +kernel
theorem q62 : chkR Try.prog Try.f62.results.toList o62 = true := by decide +kernel

/- (*strings.Builder).WriteString -/
def g43_0 : List Am.Item := [
    ⟨(some 4), .val (.mov (.c (.int .i64 0))), none⟩,
    ⟨(some 5), .val (.mov (.c (.nili))), none⟩]
def g43_1 : List Am.Item := [
    ⟨(some 6), .val (.mov (.t 0)), none⟩,
    ⟨(some 7), .callF (.f 62) [(.t 6)], none⟩]
def g43_2 : List Am.Item := [
    ⟨(some 8), .val (.mov (.t 0)), none⟩,
    ⟨(some 9), .val (.mov (.t 0)), none⟩,
    ⟨(some 10), .val (.nilck (.t 9)), none⟩,
    ⟨(some 11), .val (.faddr 1 (.t 10)), none⟩,
    ⟨(some 12), .val (.load none (.t 11)), none⟩,
    ⟨(some 13), .val (.mov (.t 1)), none⟩,
    ⟨(some 14), .appS 5 (.t 12) (.t 13), none⟩,
    ⟨(some 15), .val (.nilck (.t 8)), none⟩,
    ⟨(some 16), .val (.faddr 1 (.t 15)), none⟩,
    ⟨none, .store 1 (.t 16) (.t 14), none⟩]
def g43_3 : List Am.Item := [
    ⟨(some 17), .val (.mov (.t 1)), none⟩,
    ⟨(some 18), .val (.len 0 (.t 17)), none⟩,
    ⟨(some 4), .val (.mov (.t 18)), none⟩,
    ⟨(some 5), .val (.mov (.c (.nili))), none⟩]
def r43 : RC := .seq (.reg g43_0) (.seq (.reg g43_1) (.seq (.reg g43_2) (.seq (.reg g43_3) (.ret))))
def o43 : List RR := [.tmp 4, .tmp 5]
theorem k43 : chkC Try.prog 19 r43 (Try.f43.body.getD .skip) = true := by decide +kernel
theorem q43 : chkR Try.prog Try.f43.results.toList o43 = true := by decide +kernel

/- (*strings.Builder).String -/
def g45_0 : List Am.Item := [
    ⟨(some 2), .val (.mov (.c (.str []))), none⟩]
def g45_1 : List Am.Item := [
    ⟨(some 3), .val (.mov (.t 0)), none⟩,
    ⟨(some 4), .val (.nilck (.t 3)), none⟩,
    ⟨(some 5), .val (.faddr 1 (.t 4)), none⟩,
    ⟨(some 6), .val (.load none (.t 5)), none⟩,
    ⟨(some 7), .usd (.t 6), none⟩,
    ⟨(some 8), .val (.mov (.t 0)), none⟩,
    ⟨(some 9), .val (.nilck (.t 8)), none⟩,
    ⟨(some 10), .val (.faddr 1 (.t 9)), none⟩,
    ⟨(some 11), .val (.load none (.t 10)), none⟩,
    ⟨(some 12), .val (.len 1 (.t 11)), none⟩,
    ⟨(some 13), .ustr 5 (.t 7) (.t 12), none⟩,
    ⟨(some 2), .val (.mov (.t 13)), none⟩]
def r45 : RC := .seq (.reg g45_0) (.seq (.draw g45_1) (.ret))
def o45 : List RR := [.tmp 2]
theorem k45 : chkC Try.prog 14 r45 (Try.f45.body.getD .skip) = true := by decide +kernel
theorem q45 : chkR Try.prog Try.f45.results.toList o45 = true := by decide +kernel

/- wireschema/wireschemalaw23.wide -/
def g23_0 : List Am.Item := [
    ⟨(some 0), .allocN 0 [.int .i64 0, .int .i64 0, .int .i64 0, .int .i64 0], none⟩]
def g23_1 : List Am.Item := [
    ⟨(some 1), .val (.build [.int .i64 0, .int .i64 0, .int .i64 0, .int .i64 0] [(0, 1, (.c (.int .i64 1073741824))), (2, 1, (.c (.int .i64 1073741824))), (3, 1, (.c (.int .i64 1073741824)))]), none⟩,
    ⟨none, .store 4 (.t 0) (.t 1), none⟩]
def r23 : RC := .seq (.reg g23_0) (.seq (.reg g23_1) (.ret))
def o23 : List RR := [.cell 0 (some 4)]
theorem k23 : chkC Try.prog 2 r23 (Try.f23.body.getD .skip) = true := by decide +kernel
theorem q23 : chkR Try.prog Try.f23.results.toList o23 = true := by decide +kernel

/- wireschema/wireschemalaw23.awake -/
def g14_0 : List Am.Item := [
    ⟨(some 0), .val (.mov (.c (.bool false))), none⟩]
def g14_1 : List Am.Item := [
    ⟨(some 4), .call (.f 23) [], none⟩,
    ⟨(some 5), .call (.f 17) [(.c (.str [8, 5, 19, 1, 97])), (.t 4)], none⟩,
    ⟨(some 3), .val (.mov (.t 5)), none⟩,
    ⟨(some 6), .val (.ext (.t 3) 0), none⟩,
    ⟨(some 7), .val (.ext (.t 3) 1), none⟩,
    ⟨(some 1), .val (.mov (.t 6)), none⟩,
    ⟨(some 2), .val (.mov (.t 7)), none⟩]
def g14_2 : List Am.Item := [
    ⟨(some 8), .val (.mov (.t 2)), none⟩,
    ⟨(some 9), .val (.bin .num .eql (.t 8) (.c (.int .i64 0))), none⟩,
    ⟨(some 10), .val (.mov (.t 9)), none⟩,
    ⟨(some 11), .val (.mov (.t 1)), (some (10, true))⟩,
    ⟨(some 12), .val (.len 1 (.t 11)), (some (10, true))⟩,
    ⟨(some 13), .val (.bin .num .eql (.t 12) (.c (.int .i64 2))), (some (10, true))⟩,
    ⟨(some 14), .val (.pick (.t 10) (.t 13) (.c (.bool false))), none⟩,
    ⟨(some 15), .val (.mov (.t 14)), none⟩,
    ⟨(some 16), .val (.mov (.t 1)), (some (15, true))⟩,
    ⟨(some 17), .val (.iaddr 4 none (.t 16) (.c (.int .i64 0))), (some (15, true))⟩,
    ⟨(some 18), .val (.load (some 4) (.t 17)), (some (15, true))⟩,
    ⟨(some 19), .val (.build [.int .i64 0, .int .i64 0, .int .u64 0, .str []] [(0, 1, (.c (.int .i64 1))), (1, 1, (.c (.int .i64 0))), (2, 1, (.c (.int .u64 5)))]), (some (15, true))⟩,
    ⟨(some 20), .val (.eqs false [.num, .num, .num, .str] (.t 18) (.t 19)), (some (15, true))⟩,
    ⟨(some 21), .val (.pick (.t 15) (.t 20) (.c (.bool false))), none⟩,
    ⟨(some 22), .val (.mov (.t 21)), none⟩,
    ⟨(some 23), .val (.mov (.t 1)), (some (22, true))⟩,
    ⟨(some 24), .val (.iaddr 4 none (.t 23) (.c (.int .i64 1))), (some (22, true))⟩,
    ⟨(some 25), .val (.load (some 4) (.t 24)), (some (22, true))⟩,
    ⟨(some 26), .val (.build [.int .i64 0, .int .i64 0, .int .u64 0, .str []] [(0, 1, (.c (.int .i64 2))), (1, 1, (.c (.int .i64 3))), (3, 1, (.c (.str [97])))]), (some (22, true))⟩,
    ⟨(some 27), .val (.eqs false [.num, .num, .num, .str] (.t 25) (.t 26)), (some (22, true))⟩,
    ⟨(some 28), .val (.pick (.t 22) (.t 27) (.c (.bool false))), none⟩,
    ⟨(some 29), .val (.mov (.t 28)), none⟩,
    ⟨(some 30), .val (.build [.int .i64 0, .int .i64 0, .int .u64 0, .str []] [(0, 1, (.c (.int .i64 1))), (2, 1, (.c (.int .u64 300)))]), (some (29, true))⟩,
    ⟨(some 31), .bsl 4 1 [.int .i64 0, .int .i64 0, .int .u64 0, .str []] [(0, 4, (.t 30))], (some (29, true))⟩,
    ⟨(some 32), .call (.f 22) [(.t 31)], (some (29, true))⟩,
    ⟨(some 33), .val (.bin .str .eql (.t 32) (.c (.str [8, 172, 2]))), (some (29, true))⟩,
    ⟨(some 34), .val (.pick (.t 29) (.t 33) (.c (.bool false))), none⟩,
    ⟨(some 0), .val (.mov (.t 34)), none⟩]
def r14 : RC := .seq (.reg g14_0) (.seq (.reg g14_1) (.seq (.reg g14_2) (.ret)))
def o14 : List RR := [.tmp 0]
theorem k14 : chkC Try.prog 35 r14 (Try.f14.body.getD .skip) = true := by decide +kernel
theorem q14 : chkR Try.prog Try.f14.results.toList o14 = true := by decide +kernel

/- wireschema/wireschemalaw23.long -/
def g20_0 : List Am.Item := [
    ⟨(some 2), .val (.mov (.c (.bool false))), none⟩]
def g20_1 : List Am.Item := [
    ⟨(some 4), .val (.mov (.t 0)), none⟩,
    ⟨(some 5), .val (.len 1 (.t 4)), none⟩,
    ⟨(some 6), .val (.bin .num .gtr (.t 5) (.c (.int .i64 300))), none⟩]
def g20_2 : List Am.Item := [
    ⟨(some 2), .val (.mov (.c (.bool true))), none⟩]
def g20_3 : List Am.Item := [
    ⟨(some 3), .val (.mov (.c (.int .i64 0))), none⟩]
def g20_4 : List Am.Item := [
    ⟨(some 7), .val (.mov (.t 3)), none⟩,
    ⟨(some 8), .val (.mov (.t 0)), none⟩,
    ⟨(some 9), .val (.len 1 (.t 8)), none⟩,
    ⟨(some 10), .val (.bin .num .lss (.t 7) (.t 9)), none⟩]
def g20_6 : List Am.Item := [
    ⟨(some 13), .val (.mov (.t 0)), none⟩,
    ⟨(some 14), .val (.mov (.t 3)), none⟩,
    ⟨(some 15), .val (.iaddr 4 none (.t 13) (.t 14)), none⟩,
    ⟨(some 16), .val (.faddr 3 (.t 15)), none⟩,
    ⟨(some 17), .val (.load none (.t 16)), none⟩,
    ⟨(some 18), .val (.len 0 (.t 17)), none⟩,
    ⟨(some 19), .val (.bin .num .gtr (.t 18) (.c (.int .i64 3000))), none⟩]
def g20_7 : List Am.Item := [
    ⟨(some 2), .val (.mov (.c (.bool true))), none⟩]
def g20_5 : List Am.Item := [
    ⟨(some 11), .val (.mov (.t 3)), none⟩,
    ⟨(some 12), .val (.bin .num .add (.t 11) (.c (.int .i64 1))), none⟩,
    ⟨(some 3), .val (.mov (.t 12)), none⟩]
def l20_0 : RC := .seq (.seq (.reg g20_4) (.cond (.t 10) (.skip) (.exit 0))) (.seq (.block 1 (.seq (.reg g20_6) (.cond (.t 19) (.seq (.reg g20_7) (.ret)) (.skip)))) (.reg g20_5))
def g20_8 : List Am.Item := [
    ⟨(some 2), .val (.mov (.c (.bool false))), none⟩]
def r20 : RC := .seq (.reg g20_0) (.seq (.seq (.reg g20_1) (.cond (.t 6) (.seq (.reg g20_2) (.ret)) (.skip))) (.seq (.seq (.reg g20_3) (.block 0 (.loop l20_0))) (.seq (.reg g20_8) (.ret))))
def o20 : List RR := [.tmp 2]
theorem k20 : chkC Try.prog 20 r20 (Try.f20.body.getD .skip) = true := by decide +kernel
theorem q20 : chkR Try.prog Try.f20.results.toList o20 = true := by decide +kernel

/- wireschema/wireschemalaw23.UnknownTags -/
def g3_0 : List Am.Item := [
    ⟨(some 5), .boxN 5 (.t 2), none⟩,
    ⟨(some 6), .val (.mov (.c (.bool false))), none⟩]
def g3_1 : List Am.Item := [
    ⟨(some 20), .val (.mov (.t 0)), none⟩,
    ⟨(some 21), .val (.mov (.t 1)), none⟩,
    ⟨(some 22), .call (.f 10) [(.t 20), (.t 21)], none⟩,
    ⟨(some 19), .val (.mov (.t 22)), none⟩,
    ⟨(some 23), .val (.ext (.t 19) 0), none⟩,
    ⟨(some 24), .val (.ext (.t 19) 1), none⟩,
    ⟨(some 7), .val (.mov (.t 23)), none⟩,
    ⟨(some 8), .val (.mov (.t 24)), none⟩]
def g3_2 : List Am.Item := [
    ⟨(some 26), .val (.mov (.t 0)), none⟩,
    ⟨(some 27), .val (.mov (.t 1)), none⟩,
    ⟨(some 28), .call (.f 11) [(.t 26), (.t 27)], none⟩,
    ⟨(some 25), .val (.mov (.t 28)), none⟩,
    ⟨(some 29), .val (.ext (.t 25) 0), none⟩,
    ⟨(some 30), .val (.ext (.t 25) 1), none⟩,
    ⟨(some 9), .val (.mov (.t 29)), none⟩,
    ⟨(some 10), .val (.mov (.t 30)), none⟩]
def g3_3 : List Am.Item := [
    ⟨(some 32), .val (.load (some 6) (.t 5)), none⟩,
    ⟨(some 33), .call (.f 12) [(.t 32)], none⟩,
    ⟨(some 31), .val (.mov (.t 33)), none⟩,
    ⟨(some 34), .val (.ext (.t 31) 0), none⟩,
    ⟨(some 35), .val (.ext (.t 31) 1), none⟩,
    ⟨(some 36), .val (.ext (.t 31) 2), none⟩,
    ⟨(some 37), .val (.ext (.t 31) 3), none⟩,
    ⟨(some 13), .allocN 13 [.str [], .int .i64 0, .int .i64 0, .int .i64 0, .int .i64 0, .int .i64 0], none⟩,
    ⟨(some 11), .val (.mov (.t 34)), none⟩,
    ⟨(some 12), .val (.mov (.t 35)), none⟩,
    ⟨none, .store 6 (.t 13) (.t 36), none⟩,
    ⟨(some 14), .val (.mov (.t 37)), none⟩]
def g3_4 : List Am.Item := [
    ⟨(some 39), .val (.load (some 6) (.t 5)), none⟩,
    ⟨(some 40), .call (.f 13) [(.t 39)], none⟩,
    ⟨(some 38), .val (.mov (.t 40)), none⟩,
    ⟨(some 41), .val (.ext (.t 38) 0), none⟩,
    ⟨(some 42), .val (.ext (.t 38) 1), none⟩,
    ⟨(some 43), .val (.ext (.t 38) 2), none⟩,
    ⟨(some 44), .val (.ext (.t 38) 3), none⟩,
    ⟨(some 17), .allocN 17 [.str [], .int .i64 0, .int .i64 0, .int .i64 0, .int .i64 0, .int .i64 0], none⟩,
    ⟨(some 15), .val (.mov (.t 41)), none⟩,
    ⟨(some 16), .val (.mov (.t 42)), none⟩,
    ⟨none, .store 6 (.t 17) (.t 43), none⟩,
    ⟨(some 18), .val (.mov (.t 44)), none⟩]
def g3_5 : List Am.Item := [
    ⟨(some 45), .val (.mov (.t 7)), none⟩,
    ⟨(some 46), .val (.mov (.t 9)), none⟩,
    ⟨(some 47), .val (.bin .str .eql (.t 45) (.t 46)), none⟩,
    ⟨(some 48), .val (.mov (.t 47)), none⟩,
    ⟨(some 49), .val (.mov (.t 8)), (some (48, true))⟩,
    ⟨(some 50), .val (.mov (.t 10)), (some (48, true))⟩,
    ⟨(some 51), .val (.bin .num .eql (.t 49) (.t 50)), (some (48, true))⟩,
    ⟨(some 52), .val (.pick (.t 48) (.t 51) (.c (.bool false))), none⟩,
    ⟨(some 53), .val (.mov (.t 52)), none⟩,
    ⟨(some 54), .val (.mov (.t 11)), (some (53, true))⟩,
    ⟨(some 55), .val (.mov (.t 15)), (some (53, true))⟩,
    ⟨(some 56), .val (.bin .num .eql (.t 54) (.t 55)), (some (53, true))⟩,
    ⟨(some 57), .val (.pick (.t 53) (.t 56) (.c (.bool false))), none⟩,
    ⟨(some 58), .val (.mov (.t 57)), none⟩,
    ⟨(some 59), .val (.mov (.t 12)), (some (58, true))⟩,
    ⟨(some 60), .val (.mov (.t 16)), (some (58, true))⟩,
    ⟨(some 61), .val (.bin .num .eql (.t 59) (.t 60)), (some (58, true))⟩,
    ⟨(some 62), .val (.pick (.t 58) (.t 61) (.c (.bool false))), none⟩,
    ⟨(some 63), .val (.mov (.t 62)), none⟩,
    ⟨(some 64), .val (.load (some 6) (.t 13)), (some (63, true))⟩,
    ⟨(some 65), .val (.load (some 6) (.t 17)), (some (63, true))⟩,
    ⟨(some 66), .val (.eqs false [.str, .num, .num, .num, .num, .num] (.t 64) (.t 65)), (some (63, true))⟩,
    ⟨(some 67), .val (.pick (.t 63) (.t 66) (.c (.bool false))), none⟩,
    ⟨(some 68), .val (.mov (.t 67)), none⟩,
    ⟨(some 69), .val (.mov (.t 14)), (some (68, true))⟩,
    ⟨(some 70), .val (.mov (.t 18)), (some (68, true))⟩,
    ⟨(some 71), .val (.bin .num .eql (.t 69) (.t 70)), (some (68, true))⟩,
    ⟨(some 72), .val (.pick (.t 68) (.t 71) (.c (.bool false))), none⟩,
    ⟨(some 73), .val (.mov (.t 72)), none⟩,
    ⟨(some 74), .call (.f 14) [], (some (73, true))⟩,
    ⟨(some 75), .val (.pick (.t 73) (.t 74) (.c (.bool false))), none⟩,
    ⟨(some 6), .val (.mov (.t 75)), none⟩]
def r3 : RC := .seq (.reg g3_0) (.seq (.reg g3_1) (.seq (.reg g3_2) (.seq (.reg g3_3) (.seq (.reg g3_4) (.seq (.reg g3_5) (.ret))))))
def o3 : List RR := [.tmp 6]
theorem k3 : chkC Try.prog 76 r3 (Try.f3.body.getD .skip) = true := by decide +kernel
theorem q3 : chkR Try.prog Try.f3.results.toList o3 = true := by decide +kernel

/- wireschema/wireschemalaw23.UnknownNext -/
def g4_0 : List Am.Item := [
    ⟨(some 1), .boxN 1 (.t 0), none⟩,
    ⟨(some 2), .val (.mov (.c (.bool false))), none⟩]
def g4_1 : List Am.Item := [
    ⟨(some 10), .val (.load (some 6) (.t 1)), none⟩,
    ⟨(some 11), .call (.f 15) [(.t 10)], none⟩,
    ⟨(some 9), .val (.mov (.t 11)), none⟩,
    ⟨(some 12), .val (.ext (.t 9) 0), none⟩,
    ⟨(some 13), .val (.ext (.t 9) 1), none⟩,
    ⟨(some 14), .val (.ext (.t 9) 2), none⟩,
    ⟨(some 3), .allocN 3 [.int .i64 0, .int .i64 0, .int .u64 0, .str []], none⟩,
    ⟨(some 4), .allocN 4 [.str [], .int .i64 0, .int .i64 0, .int .i64 0, .int .i64 0, .int .i64 0], none⟩,
    ⟨none, .store 4 (.t 3) (.t 12), none⟩,
    ⟨none, .store 6 (.t 4) (.t 13), none⟩,
    ⟨(some 5), .val (.mov (.t 14)), none⟩]
def g4_2 : List Am.Item := [
    ⟨(some 16), .val (.load (some 6) (.t 1)), none⟩,
    ⟨(some 17), .call (.f 16) [(.t 16)], none⟩,
    ⟨(some 15), .val (.mov (.t 17)), none⟩,
    ⟨(some 18), .val (.ext (.t 15) 0), none⟩,
    ⟨(some 19), .val (.ext (.t 15) 1), none⟩,
    ⟨(some 20), .val (.ext (.t 15) 2), none⟩,
    ⟨(some 6), .allocN 6 [.int .i64 0, .int .i64 0, .int .u64 0, .str []], none⟩,
    ⟨(some 7), .allocN 7 [.str [], .int .i64 0, .int .i64 0, .int .i64 0, .int .i64 0, .int .i64 0], none⟩,
    ⟨none, .store 4 (.t 6) (.t 18), none⟩,
    ⟨none, .store 6 (.t 7) (.t 19), none⟩,
    ⟨(some 8), .val (.mov (.t 20)), none⟩]
def g4_3 : List Am.Item := [
    ⟨(some 21), .val (.load (some 4) (.t 3)), none⟩,
    ⟨(some 22), .val (.load (some 4) (.t 6)), none⟩,
    ⟨(some 23), .val (.eqs false [.num, .num, .num, .str] (.t 21) (.t 22)), none⟩,
    ⟨(some 24), .val (.mov (.t 23)), none⟩,
    ⟨(some 25), .val (.load (some 6) (.t 4)), (some (24, true))⟩,
    ⟨(some 26), .val (.load (some 6) (.t 7)), (some (24, true))⟩,
    ⟨(some 27), .val (.eqs false [.str, .num, .num, .num, .num, .num] (.t 25) (.t 26)), (some (24, true))⟩,
    ⟨(some 28), .val (.pick (.t 24) (.t 27) (.c (.bool false))), none⟩,
    ⟨(some 29), .val (.mov (.t 28)), none⟩,
    ⟨(some 30), .val (.mov (.t 5)), (some (29, true))⟩,
    ⟨(some 31), .val (.mov (.t 8)), (some (29, true))⟩,
    ⟨(some 32), .val (.bin .num .eql (.t 30) (.t 31)), (some (29, true))⟩,
    ⟨(some 33), .val (.pick (.t 29) (.t 32) (.c (.bool false))), none⟩,
    ⟨(some 34), .val (.mov (.t 33)), none⟩,
    ⟨(some 35), .call (.f 14) [], (some (34, true))⟩,
    ⟨(some 36), .val (.pick (.t 34) (.t 35) (.c (.bool false))), none⟩,
    ⟨(some 2), .val (.mov (.t 36)), none⟩]
def r4 : RC := .seq (.reg g4_0) (.seq (.reg g4_1) (.seq (.reg g4_2) (.seq (.reg g4_3) (.ret))))
def o4 : List RR := [.tmp 2]
theorem k4 : chkC Try.prog 37 r4 (Try.f4.body.getD .skip) = true := by decide +kernel
theorem q4 : chkR Try.prog Try.f4.results.toList o4 = true := by decide +kernel

/- wireschema/wireschemalaw23.UnknownScans -/
def g5_0 : List Am.Item := [
    ⟨(some 3), .boxN 3 (.t 1), none⟩,
    ⟨(some 4), .val (.mov (.c (.bool false))), none⟩]
def g5_1 : List Am.Item := [
    ⟨(some 10), .val (.mov (.t 0)), none⟩,
    ⟨(some 11), .val (.load (some 4) (.t 3)), none⟩,
    ⟨(some 12), .call (.f 17) [(.t 10), (.t 11)], none⟩,
    ⟨(some 9), .val (.mov (.t 12)), none⟩,
    ⟨(some 13), .val (.ext (.t 9) 0), none⟩,
    ⟨(some 14), .val (.ext (.t 9) 1), none⟩,
    ⟨(some 5), .val (.mov (.t 13)), none⟩,
    ⟨(some 6), .val (.mov (.t 14)), none⟩]
def g5_2 : List Am.Item := [
    ⟨(some 16), .val (.mov (.t 0)), none⟩,
    ⟨(some 17), .val (.load (some 4) (.t 3)), none⟩,
    ⟨(some 18), .call (.f 18) [(.t 16), (.t 17)], none⟩,
    ⟨(some 15), .val (.mov (.t 18)), none⟩,
    ⟨(some 19), .val (.ext (.t 15) 0), none⟩,
    ⟨(some 20), .val (.ext (.t 15) 1), none⟩,
    ⟨(some 7), .val (.mov (.t 19)), none⟩,
    ⟨(some 8), .val (.mov (.t 20)), none⟩]
def g5_3 : List Am.Item := [
    ⟨(some 21), .val (.mov (.t 5)), none⟩,
    ⟨(some 22), .val (.mov (.t 7)), none⟩,
    ⟨(some 23), .call (.f 19) [(.t 21), (.t 22)], none⟩,
    ⟨(some 24), .val (.mov (.t 23)), none⟩,
    ⟨(some 25), .val (.mov (.t 6)), (some (24, true))⟩,
    ⟨(some 26), .val (.mov (.t 8)), (some (24, true))⟩,
    ⟨(some 27), .val (.bin .num .eql (.t 25) (.t 26)), (some (24, true))⟩,
    ⟨(some 28), .val (.pick (.t 24) (.t 27) (.c (.bool false))), none⟩,
    ⟨(some 29), .val (.mov (.t 28)), none⟩,
    ⟨(some 30), .call (.f 14) [], (some (29, true))⟩,
    ⟨(some 31), .val (.pick (.t 29) (.t 30) (.c (.bool false))), none⟩,
    ⟨(some 4), .val (.mov (.t 31)), none⟩]
def r5 : RC := .seq (.reg g5_0) (.seq (.reg g5_1) (.seq (.reg g5_2) (.seq (.reg g5_3) (.ret))))
def o5 : List RR := [.tmp 4]
theorem k5 : chkC Try.prog 32 r5 (Try.f5.body.getD .skip) = true := by decide +kernel
theorem q5 : chkR Try.prog Try.f5.results.toList o5 = true := by decide +kernel

/- wireschema/wireschemalaw23.UnknownRoundTrips -/
def g6_0 : List Am.Item := [
    ⟨(some 2), .val (.mov (.c (.bool false))), none⟩]
def g6_1 : List Am.Item := [
    ⟨(some 8), .val (.mov (.t 0)), none⟩,
    ⟨(some 9), .call (.f 20) [(.t 8)], none⟩]
def g6_2 : List Am.Item := [
    ⟨(some 10), .call (.f 14) [], none⟩,
    ⟨(some 2), .val (.mov (.t 10)), none⟩]
def g6_3 : List Am.Item := [
    ⟨(some 3), .val (.mov (.c (.nils))), none⟩]
def g6_4 : List Am.Item := [
    ⟨(some 4), .val (.mov (.c (.int .i64 0))), none⟩]
def g6_5 : List Am.Item := [
    ⟨(some 11), .val (.mov (.t 4)), none⟩,
    ⟨(some 12), .val (.mov (.t 0)), none⟩,
    ⟨(some 13), .val (.len 1 (.t 12)), none⟩,
    ⟨(some 14), .val (.bin .num .lss (.t 11) (.t 13)), none⟩]
def g6_7 : List Am.Item := [
    ⟨(some 17), .val (.mov (.t 0)), none⟩,
    ⟨(some 18), .val (.mov (.t 4)), none⟩,
    ⟨(some 19), .val (.iaddr 4 none (.t 17) (.t 18)), none⟩,
    ⟨(some 20), .val (.load (some 4) (.t 19)), none⟩,
    ⟨(some 21), .call (.f 21) [(.t 20)], none⟩]
def g6_8 : List Am.Item := [
    ⟨(some 22), .val (.mov (.t 3)), none⟩,
    ⟨(some 23), .val (.mov (.t 0)), none⟩,
    ⟨(some 24), .val (.mov (.t 4)), none⟩,
    ⟨(some 25), .val (.iaddr 4 none (.t 23) (.t 24)), none⟩,
    ⟨(some 26), .val (.load (some 4) (.t 25)), none⟩,
    ⟨(some 27), .bsl 4 1 [.int .i64 0, .int .i64 0, .int .u64 0, .str []] [(0, 4, (.t 26))], none⟩,
    ⟨(some 28), .app 4 40 33 (.t 22) (.t 27), none⟩,
    ⟨(some 3), .val (.mov (.t 28)), none⟩]
def g6_6 : List Am.Item := [
    ⟨(some 15), .val (.mov (.t 4)), none⟩,
    ⟨(some 16), .val (.bin .num .add (.t 15) (.c (.int .i64 1))), none⟩,
    ⟨(some 4), .val (.mov (.t 16)), none⟩]
def l6_0 : RC := .seq (.seq (.reg g6_5) (.cond (.t 14) (.skip) (.exit 0))) (.seq (.block 1 (.seq (.reg g6_7) (.cond (.t 21) (.reg g6_8) (.skip)))) (.reg g6_6))
def g6_9 : List Am.Item := [
    ⟨(some 29), .val (.mov (.t 0)), none⟩,
    ⟨(some 30), .call (.f 22) [(.t 29)], none⟩,
    ⟨(some 5), .val (.mov (.t 30)), none⟩]
def g6_10 : List Am.Item := [
    ⟨(some 32), .val (.mov (.t 5)), none⟩,
    ⟨(some 33), .call (.f 23) [], none⟩,
    ⟨(some 34), .call (.f 17) [(.t 32), (.t 33)], none⟩,
    ⟨(some 31), .val (.mov (.t 34)), none⟩,
    ⟨(some 35), .val (.ext (.t 31) 0), none⟩,
    ⟨(some 36), .val (.ext (.t 31) 1), none⟩,
    ⟨(some 6), .val (.mov (.t 35)), none⟩,
    ⟨(some 7), .val (.mov (.t 36)), none⟩]
def g6_11 : List Am.Item := [
    ⟨(some 37), .val (.mov (.t 7)), none⟩,
    ⟨(some 38), .val (.bin .num .eql (.t 37) (.c (.int .i64 0))), none⟩,
    ⟨(some 39), .val (.mov (.t 38)), none⟩,
    ⟨(some 40), .val (.mov (.t 6)), (some (39, true))⟩,
    ⟨(some 41), .val (.mov (.t 3)), (some (39, true))⟩,
    ⟨(some 42), .call (.f 19) [(.t 40), (.t 41)], (some (39, true))⟩,
    ⟨(some 43), .val (.pick (.t 39) (.t 42) (.c (.bool false))), none⟩,
    ⟨(some 44), .val (.mov (.t 43)), none⟩,
    ⟨(some 45), .val (.mov (.t 3)), (some (44, true))⟩,
    ⟨(some 46), .call (.f 22) [(.t 45)], (some (44, true))⟩,
    ⟨(some 47), .val (.mov (.t 5)), (some (44, true))⟩,
    ⟨(some 48), .val (.bin .str .eql (.t 46) (.t 47)), (some (44, true))⟩,
    ⟨(some 49), .val (.pick (.t 44) (.t 48) (.c (.bool false))), none⟩,
    ⟨(some 50), .val (.mov (.t 49)), none⟩,
    ⟨(some 51), .call (.f 14) [], (some (50, true))⟩,
    ⟨(some 52), .val (.pick (.t 50) (.t 51) (.c (.bool false))), none⟩,
    ⟨(some 2), .val (.mov (.t 52)), none⟩]
def r6 : RC := .seq (.reg g6_0) (.seq (.seq (.reg g6_1) (.cond (.t 9) (.seq (.reg g6_2) (.ret)) (.skip))) (.seq (.reg g6_3) (.gho (.vec 3 3 4) (.seq (.seq (.reg g6_4) (.block 0 (.loop l6_0))) (.seq (.reg g6_9) (.seq (.reg g6_10) (.seq (.reg g6_11) (.ret))))))))
def o6 : List RR := [.tmp 2]
theorem k6 : chkC Try.prog 53 r6 (Try.f6.body.getD .skip) = true := by decide +kernel
theorem q6 : chkR Try.prog Try.f6.results.toList o6 = true := by decide +kernel

/- wireschema/wireschemalaw23.UnknownKeeps -/
def g7_0 : List Am.Item := [
    ⟨(some 3), .boxN 3 (.t 1), none⟩,
    ⟨(some 4), .val (.mov (.c (.bool false))), none⟩]
def g7_1 : List Am.Item := [
    ⟨(some 11), .val (.mov (.t 0)), none⟩,
    ⟨(some 12), .val (.len 0 (.t 11)), none⟩,
    ⟨(some 13), .val (.bin .num .gtr (.t 12) (.c (.int .i64 3000))), none⟩]
def g7_2 : List Am.Item := [
    ⟨(some 14), .call (.f 14) [], none⟩,
    ⟨(some 4), .val (.mov (.t 14)), none⟩]
def g7_3 : List Am.Item := [
    ⟨(some 16), .val (.mov (.t 0)), none⟩,
    ⟨(some 17), .val (.load (some 4) (.t 3)), none⟩,
    ⟨(some 18), .call (.f 17) [(.t 16), (.t 17)], none⟩,
    ⟨(some 15), .val (.mov (.t 18)), none⟩,
    ⟨(some 19), .val (.ext (.t 15) 0), none⟩,
    ⟨(some 20), .val (.ext (.t 15) 1), none⟩,
    ⟨(some 5), .val (.mov (.t 19)), none⟩,
    ⟨(some 6), .val (.mov (.t 20)), none⟩]
def g7_4 : List Am.Item := [
    ⟨(some 21), .val (.mov (.t 6)), none⟩,
    ⟨(some 22), .val (.bin .num .neq (.t 21) (.c (.int .i64 0))), none⟩]
def g7_5 : List Am.Item := [
    ⟨(some 23), .val (.mov (.t 5)), none⟩,
    ⟨(some 24), .val (.len 1 (.t 23)), none⟩,
    ⟨(some 25), .val (.bin .num .eql (.t 24) (.c (.int .i64 0))), none⟩,
    ⟨(some 26), .val (.mov (.t 25)), none⟩,
    ⟨(some 27), .call (.f 14) [], (some (26, true))⟩,
    ⟨(some 28), .val (.pick (.t 26) (.t 27) (.c (.bool false))), none⟩,
    ⟨(some 4), .val (.mov (.t 28)), none⟩]
def g7_6 : List Am.Item := [
    ⟨(some 7), .val (.mov (.c (.int .i64 0))), none⟩]
def g7_7 : List Am.Item := [
    ⟨(some 29), .val (.mov (.t 7)), none⟩,
    ⟨(some 30), .val (.mov (.t 5)), none⟩,
    ⟨(some 31), .val (.len 1 (.t 30)), none⟩,
    ⟨(some 32), .val (.bin .num .lss (.t 29) (.t 31)), none⟩]
def g7_9 : List Am.Item := [
    ⟨(some 35), .val (.mov (.t 5)), none⟩,
    ⟨(some 36), .val (.mov (.t 7)), none⟩,
    ⟨(some 37), .val (.iaddr 4 none (.t 35) (.t 36)), none⟩,
    ⟨(some 38), .val (.load (some 4) (.t 37)), none⟩,
    ⟨(some 39), .call (.f 21) [(.t 38)], none⟩,
    ⟨(some 40), .val (.un .not (.t 39)), none⟩]
def g7_10 : List Am.Item := [
    ⟨(some 4), .val (.mov (.c (.bool false))), none⟩]
def g7_8 : List Am.Item := [
    ⟨(some 33), .val (.mov (.t 7)), none⟩,
    ⟨(some 34), .val (.bin .num .add (.t 33) (.c (.int .i64 1))), none⟩,
    ⟨(some 7), .val (.mov (.t 34)), none⟩]
def l7_0 : RC := .seq (.seq (.reg g7_7) (.cond (.t 32) (.skip) (.exit 0))) (.seq (.block 1 (.seq (.reg g7_9) (.cond (.t 40) (.seq (.reg g7_10) (.ret)) (.skip)))) (.reg g7_8))
def g7_11 : List Am.Item := [
    ⟨(some 41), .val (.mov (.t 5)), none⟩,
    ⟨(some 42), .call (.f 22) [(.t 41)], none⟩,
    ⟨(some 8), .val (.mov (.t 42)), none⟩]
def g7_12 : List Am.Item := [
    ⟨(some 44), .val (.mov (.t 8)), none⟩,
    ⟨(some 45), .val (.load (some 4) (.t 3)), none⟩,
    ⟨(some 46), .call (.f 17) [(.t 44), (.t 45)], none⟩,
    ⟨(some 43), .val (.mov (.t 46)), none⟩,
    ⟨(some 47), .val (.ext (.t 43) 0), none⟩,
    ⟨(some 48), .val (.ext (.t 43) 1), none⟩,
    ⟨(some 9), .val (.mov (.t 47)), none⟩,
    ⟨(some 10), .val (.mov (.t 48)), none⟩]
def g7_13 : List Am.Item := [
    ⟨(some 49), .val (.mov (.t 8)), none⟩,
    ⟨(some 50), .val (.len 0 (.t 49)), none⟩,
    ⟨(some 51), .val (.mov (.t 0)), none⟩,
    ⟨(some 52), .val (.len 0 (.t 51)), none⟩,
    ⟨(some 53), .val (.bin .num .leq (.t 50) (.t 52)), none⟩,
    ⟨(some 54), .val (.mov (.t 53)), none⟩,
    ⟨(some 55), .val (.mov (.t 5)), (some (54, true))⟩,
    ⟨(some 56), .val (.len 1 (.t 55)), (some (54, true))⟩,
    ⟨(some 57), .val (.faddr 2 (.t 3)), (some (54, true))⟩,
    ⟨(some 58), .val (.load none (.t 57)), (some (54, true))⟩,
    ⟨(some 59), .val (.bin .num .leq (.t 56) (.t 58)), (some (54, true))⟩,
    ⟨(some 60), .val (.pick (.t 54) (.t 59) (.c (.bool false))), none⟩,
    ⟨(some 61), .val (.mov (.t 60)), none⟩,
    ⟨(some 62), .val (.mov (.t 10)), (some (61, true))⟩,
    ⟨(some 63), .val (.bin .num .eql (.t 62) (.c (.int .i64 0))), (some (61, true))⟩,
    ⟨(some 64), .val (.pick (.t 61) (.t 63) (.c (.bool false))), none⟩,
    ⟨(some 65), .val (.mov (.t 64)), none⟩,
    ⟨(some 66), .val (.mov (.t 5)), (some (65, true))⟩,
    ⟨(some 67), .val (.mov (.t 9)), (some (65, true))⟩,
    ⟨(some 68), .call (.f 19) [(.t 66), (.t 67)], (some (65, true))⟩,
    ⟨(some 69), .val (.pick (.t 65) (.t 68) (.c (.bool false))), none⟩,
    ⟨(some 70), .val (.mov (.t 69)), none⟩,
    ⟨(some 71), .call (.f 14) [], (some (70, true))⟩,
    ⟨(some 72), .val (.pick (.t 70) (.t 71) (.c (.bool false))), none⟩,
    ⟨(some 4), .val (.mov (.t 72)), none⟩]
def r7 : RC := .seq (.reg g7_0) (.seq (.seq (.reg g7_1) (.cond (.t 13) (.seq (.reg g7_2) (.ret)) (.skip))) (.seq (.reg g7_3) (.seq (.seq (.reg g7_4) (.cond (.t 22) (.seq (.reg g7_5) (.ret)) (.skip))) (.seq (.seq (.reg g7_6) (.block 0 (.loop l7_0))) (.seq (.reg g7_11) (.seq (.reg g7_12) (.seq (.reg g7_13) (.ret))))))))
def o7 : List RR := [.tmp 4]
theorem k7 : chkC Try.prog 73 r7 (Try.f7.body.getD .skip) = true := by decide +kernel
theorem q7 : chkR Try.prog Try.f7.results.toList o7 = true := by decide +kernel

/- wireschema/wireschemalaw23.UnknownJoins -/
def g8_0 : List Am.Item := [
    ⟨(some 4), .val (.mov (.c (.bool false))), none⟩]
def g8_1 : List Am.Item := [
    ⟨(some 12), .val (.mov (.t 0)), none⟩,
    ⟨(some 13), .val (.len 0 (.t 12)), none⟩,
    ⟨(some 14), .val (.bin .num .gtr (.t 13) (.c (.int .i64 3000))), none⟩,
    ⟨(some 15), .val (.mov (.t 14)), none⟩,
    ⟨(some 16), .val (.mov (.t 1)), (some (15, false))⟩,
    ⟨(some 17), .val (.len 0 (.t 16)), (some (15, false))⟩,
    ⟨(some 18), .val (.bin .num .gtr (.t 17) (.c (.int .i64 3000))), (some (15, false))⟩,
    ⟨(some 19), .val (.pick (.t 15) (.c (.bool true)) (.t 18)), none⟩]
def g8_2 : List Am.Item := [
    ⟨(some 20), .call (.f 14) [], none⟩,
    ⟨(some 4), .val (.mov (.t 20)), none⟩]
def g8_3 : List Am.Item := [
    ⟨(some 22), .val (.mov (.t 0)), none⟩,
    ⟨(some 23), .call (.f 23) [], none⟩,
    ⟨(some 24), .call (.f 17) [(.t 22), (.t 23)], none⟩,
    ⟨(some 21), .val (.mov (.t 24)), none⟩,
    ⟨(some 25), .val (.ext (.t 21) 0), none⟩,
    ⟨(some 26), .val (.ext (.t 21) 1), none⟩,
    ⟨(some 5), .val (.mov (.t 25)), none⟩,
    ⟨(some 6), .val (.mov (.t 26)), none⟩]
def g8_4 : List Am.Item := [
    ⟨(some 28), .val (.mov (.t 1)), none⟩,
    ⟨(some 29), .call (.f 23) [], none⟩,
    ⟨(some 30), .call (.f 17) [(.t 28), (.t 29)], none⟩,
    ⟨(some 27), .val (.mov (.t 30)), none⟩,
    ⟨(some 31), .val (.ext (.t 27) 0), none⟩,
    ⟨(some 32), .val (.ext (.t 27) 1), none⟩,
    ⟨(some 7), .val (.mov (.t 31)), none⟩,
    ⟨(some 8), .val (.mov (.t 32)), none⟩]
def g8_5 : List Am.Item := [
    ⟨(some 33), .val (.mov (.t 6)), none⟩,
    ⟨(some 34), .val (.bin .num .neq (.t 33) (.c (.int .i64 0))), none⟩,
    ⟨(some 35), .val (.mov (.t 34)), none⟩,
    ⟨(some 36), .val (.mov (.t 8)), (some (35, false))⟩,
    ⟨(some 37), .val (.bin .num .neq (.t 36) (.c (.int .i64 0))), (some (35, false))⟩,
    ⟨(some 38), .val (.pick (.t 35) (.c (.bool true)) (.t 37)), none⟩]
def g8_6 : List Am.Item := [
    ⟨(some 39), .call (.f 14) [], none⟩,
    ⟨(some 4), .val (.mov (.t 39)), none⟩]
def g8_7 : List Am.Item := [
    ⟨(some 41), .val (.mov (.t 0)), none⟩,
    ⟨(some 42), .val (.mov (.t 1)), none⟩,
    ⟨(some 43), .val (.bin .str .add (.t 41) (.t 42)), none⟩,
    ⟨(some 44), .call (.f 23) [], none⟩,
    ⟨(some 45), .call (.f 17) [(.t 43), (.t 44)], none⟩,
    ⟨(some 40), .val (.mov (.t 45)), none⟩,
    ⟨(some 46), .val (.ext (.t 40) 0), none⟩,
    ⟨(some 47), .val (.ext (.t 40) 1), none⟩,
    ⟨(some 9), .val (.mov (.t 46)), none⟩,
    ⟨(some 10), .val (.mov (.t 47)), none⟩]
def g8_8 : List Am.Item := [
    ⟨(some 11), .val (.mov (.c (.nils))), none⟩]
def g8_9 : List Am.Item := [
    ⟨(some 48), .val (.mov (.t 11)), none⟩,
    ⟨(some 49), .val (.mov (.t 5)), none⟩,
    ⟨(some 50), .app 4 40 33 (.t 48) (.t 49), none⟩,
    ⟨(some 11), .val (.mov (.t 50)), none⟩]
def g8_10 : List Am.Item := [
    ⟨(some 51), .val (.mov (.t 11)), none⟩,
    ⟨(some 52), .val (.mov (.t 7)), none⟩,
    ⟨(some 53), .app 4 40 33 (.t 51) (.t 52), none⟩,
    ⟨(some 11), .val (.mov (.t 53)), none⟩]
def g8_11 : List Am.Item := [
    ⟨(some 54), .val (.mov (.t 10)), none⟩,
    ⟨(some 55), .val (.bin .num .eql (.t 54) (.c (.int .i64 0))), none⟩,
    ⟨(some 56), .val (.mov (.t 55)), none⟩,
    ⟨(some 57), .val (.mov (.t 9)), (some (56, true))⟩,
    ⟨(some 58), .val (.mov (.t 11)), (some (56, true))⟩,
    ⟨(some 59), .call (.f 19) [(.t 57), (.t 58)], (some (56, true))⟩,
    ⟨(some 60), .val (.pick (.t 56) (.t 59) (.c (.bool false))), none⟩,
    ⟨(some 61), .val (.mov (.t 60)), none⟩,
    ⟨(some 62), .call (.f 14) [], (some (61, true))⟩,
    ⟨(some 63), .val (.pick (.t 61) (.t 62) (.c (.bool false))), none⟩,
    ⟨(some 4), .val (.mov (.t 63)), none⟩]
def r8 : RC := .seq (.reg g8_0) (.seq (.seq (.reg g8_1) (.cond (.t 19) (.seq (.reg g8_2) (.ret)) (.skip))) (.seq (.reg g8_3) (.seq (.reg g8_4) (.seq (.seq (.reg g8_5) (.cond (.t 38) (.seq (.reg g8_6) (.ret)) (.skip))) (.seq (.reg g8_7) (.seq (.reg g8_8) (.gho (.vec 11 11 4) (.seq (.reg g8_9) (.seq (.reg g8_10) (.seq (.reg g8_11) (.ret)))))))))))
def o8 : List RR := [.tmp 4]
theorem k8 : chkC Try.prog 64 r8 (Try.f8.body.getD .skip) = true := by decide +kernel
theorem q8 : chkR Try.prog Try.f8.results.toList o8 = true := by decide +kernel

end Go.Proofs.Ytcmdlmcmefbkeaa.Rc

/- Parts of the proof, in order. -/
import Derived.Test.YtcmdlmcmefbkeaaProg
import Derived.WalkKit
import Derived.Test.YtcmdlmcmefbkeaaMUnknownLists1

/- The code of functions of the program, as the abstract machine has it. -/
namespace Go.Proofs.Ytcmdlmcmefbkeaa.Rc
open Go Am

/- wireschema/varint.Put -/
def g30_0 : List Am.Item := [
    ⟨(some 2), .val (.mov (.c (.str []))), none⟩]
def g30_1 : List Am.Item := [
    ⟨(some 3), .val (.mov (.c (.nils))), none⟩]
def g30_2 : List Am.Item := [
    ⟨(some 4), .val (.mov (.t 0)), none⟩,
    ⟨(some 5), .val (.bin .num .geq (.t 4) (.c (.int .u64 128))), none⟩]
def g30_3 : List Am.Item := [
    ⟨(some 6), .val (.mov (.t 3)), none⟩,
    ⟨(some 7), .val (.mov (.t 0)), none⟩,
    ⟨(some 8), .val (.cvi .u8 (.t 7)), none⟩,
    ⟨(some 9), .val (.bin .num .or (.t 8) (.c (.int .u8 128))), none⟩,
    ⟨(some 10), .bsl 1 1 [.int .u8 0] [(0, 1, (.t 9))], none⟩,
    ⟨(some 11), .app 1 1 5 (.t 6) (.t 10), none⟩,
    ⟨(some 3), .val (.mov (.t 11)), none⟩]
def g30_4 : List Am.Item := [
    ⟨(some 12), .val (.mov (.t 0)), none⟩,
    ⟨(some 13), .val (.bin .num .shr (.t 12) (.c (.int .u64 7))), none⟩,
    ⟨(some 0), .val (.mov (.t 13)), none⟩]
def l30_0 : RC := .seq (.seq (.reg g30_2) (.cond (.t 5) (.skip) (.exit 0))) (.block 1 (.seq (.reg g30_3) (.reg g30_4)))
def g30_5 : List Am.Item := [
    ⟨(some 14), .val (.mov (.t 3)), none⟩,
    ⟨(some 15), .val (.mov (.t 0)), none⟩,
    ⟨(some 16), .val (.cvi .u8 (.t 15)), none⟩,
    ⟨(some 17), .bsl 1 1 [.int .u8 0] [(0, 1, (.t 16))], none⟩,
    ⟨(some 18), .app 1 1 5 (.t 14) (.t 17), none⟩,
    ⟨(some 19), .val (.b2s (.t 18)), none⟩,
    ⟨(some 2), .val (.mov (.t 19)), none⟩]
def r30 : RC := .seq (.reg g30_0) (.seq (.reg g30_1) (.gho (.vec 3 3 1) (.seq (.block 0 (.loop l30_0)) (.seq (.reg g30_5) (.ret)))))
def o30 : List RR := [.tmp 2]
theorem k30 : chkC Try.prog 20 r30 (Try.f30.body.getD .skip) = true := by decide +kernel
theorem q30 : chkR Try.prog Try.f30.results.toList o30 = true := by decide +kernel

/- wireschema/wireschemaref01.Put -/
def g31_0 : List Am.Item := [
    ⟨(some 2), .val (.mov (.c (.str []))), none⟩]
def g31_1 : List Am.Item := [
    ⟨(some 3), .val (.mov (.c (.nils))), none⟩]
def g31_2 : List Am.Item := [
    ⟨(some 4), .val (.mov (.t 0)), none⟩,
    ⟨(some 5), .val (.bin .num .geq (.t 4) (.c (.int .u64 128))), none⟩]
def g31_3 : List Am.Item := [
    ⟨(some 6), .val (.mov (.t 3)), none⟩,
    ⟨(some 7), .val (.mov (.t 0)), none⟩,
    ⟨(some 8), .val (.bin .num .rem (.t 7) (.c (.int .u64 128))), none⟩,
    ⟨(some 9), .val (.bin .num .add (.t 8) (.c (.int .u64 128))), none⟩,
    ⟨(some 10), .val (.cvi .u8 (.t 9)), none⟩,
    ⟨(some 11), .bsl 1 1 [.int .u8 0] [(0, 1, (.t 10))], none⟩,
    ⟨(some 12), .app 1 1 5 (.t 6) (.t 11), none⟩,
    ⟨(some 3), .val (.mov (.t 12)), none⟩]
def g31_4 : List Am.Item := [
    ⟨(some 13), .val (.mov (.t 0)), none⟩,
    ⟨(some 14), .val (.bin .num .quo (.t 13) (.c (.int .u64 128))), none⟩,
    ⟨(some 0), .val (.mov (.t 14)), none⟩]
def l31_0 : RC := .seq (.seq (.reg g31_2) (.cond (.t 5) (.skip) (.exit 0))) (.block 1 (.seq (.reg g31_3) (.reg g31_4)))
def g31_5 : List Am.Item := [
    ⟨(some 15), .val (.mov (.t 3)), none⟩,
    ⟨(some 16), .val (.mov (.t 0)), none⟩,
    ⟨(some 17), .val (.cvi .u8 (.t 16)), none⟩,
    ⟨(some 18), .bsl 1 1 [.int .u8 0] [(0, 1, (.t 17))], none⟩,
    ⟨(some 19), .app 1 1 5 (.t 15) (.t 18), none⟩,
    ⟨(some 20), .val (.b2s (.t 19)), none⟩,
    ⟨(some 2), .val (.mov (.t 20)), none⟩]
def r31 : RC := .seq (.reg g31_0) (.seq (.reg g31_1) (.gho (.vec 3 3 1) (.seq (.block 0 (.loop l31_0)) (.seq (.reg g31_5) (.ret)))))
def o31 : List RR := [.tmp 2]
theorem k31 : chkC Try.prog 21 r31 (Try.f31.body.getD .skip) = true := by decide +kernel
theorem q31 : chkR Try.prog Try.f31.results.toList o31 = true := by decide +kernel

/- wireschema/varint.Take -/
def g52_0 : List Am.Item := [
    ⟨(some 2), .val (.mov (.c (.int .u64 0))), none⟩,
    ⟨(some 3), .val (.mov (.c (.int .i64 0))), none⟩,
    ⟨(some 4), .val (.mov (.c (.int .i64 0))), none⟩]
def g52_1 : List Am.Item := [
    ⟨(some 5), .val (.mov (.c (.int .u64 0))), none⟩]
def g52_2 : List Am.Item := [
    ⟨(some 6), .val (.mov (.c (.int .i64 0))), none⟩]
def g52_3 : List Am.Item := [
    ⟨(some 8), .val (.mov (.t 6)), none⟩,
    ⟨(some 9), .val (.mov (.t 0)), none⟩,
    ⟨(some 10), .val (.len 0 (.t 9)), none⟩,
    ⟨(some 11), .val (.bin .num .eql (.t 8) (.t 10)), none⟩]
def g52_4 : List Am.Item := [
    ⟨(some 2), .val (.mov (.c (.int .u64 0))), none⟩,
    ⟨(some 3), .val (.mov (.c (.int .i64 0))), none⟩,
    ⟨(some 4), .val (.mov (.c (.int .i64 4))), none⟩]
def g52_5 : List Am.Item := [
    ⟨(some 12), .val (.mov (.t 0)), none⟩,
    ⟨(some 13), .val (.mov (.t 6)), none⟩,
    ⟨(some 14), .val (.idx (.t 12) (.t 13)), none⟩,
    ⟨(some 7), .val (.mov (.t 14)), none⟩]
def g52_6 : List Am.Item := [
    ⟨(some 15), .val (.mov (.t 6)), none⟩,
    ⟨(some 16), .val (.bin .num .eql (.t 15) (.c (.int .i64 9))), none⟩,
    ⟨(some 17), .val (.mov (.t 16)), none⟩,
    ⟨(some 18), .val (.mov (.t 7)), (some (17, true))⟩,
    ⟨(some 19), .val (.bin .num .gtr (.t 18) (.c (.int .u8 1))), (some (17, true))⟩,
    ⟨(some 20), .val (.pick (.t 17) (.t 19) (.c (.bool false))), none⟩]
def g52_7 : List Am.Item := [
    ⟨(some 2), .val (.mov (.c (.int .u64 0))), none⟩,
    ⟨(some 3), .val (.mov (.c (.int .i64 0))), none⟩,
    ⟨(some 4), .val (.mov (.c (.int .i64 6))), none⟩]
def g52_8 : List Am.Item := [
    ⟨(some 21), .val (.mov (.t 5)), none⟩,
    ⟨(some 22), .val (.mov (.t 7)), none⟩,
    ⟨(some 23), .val (.bin .num .and (.t 22) (.c (.int .u8 127))), none⟩,
    ⟨(some 24), .val (.cvi .u64 (.t 23)), none⟩,
    ⟨(some 25), .val (.mov (.t 6)), none⟩,
    ⟨(some 26), .val (.bin .num .mul (.c (.int .i64 7)) (.t 25)), none⟩,
    ⟨(some 27), .val (.bin .num .shl (.t 24) (.t 26)), none⟩,
    ⟨(some 28), .val (.bin .num .or (.t 21) (.t 27)), none⟩,
    ⟨(some 5), .val (.mov (.t 28)), none⟩]
def g52_9 : List Am.Item := [
    ⟨(some 29), .val (.mov (.t 6)), none⟩,
    ⟨(some 30), .val (.bin .num .add (.t 29) (.c (.int .i64 1))), none⟩,
    ⟨(some 6), .val (.mov (.t 30)), none⟩]
def g52_10 : List Am.Item := [
    ⟨(some 32), .val (.mov (.t 7)), none⟩,
    ⟨(some 33), .val (.bin .num .lss (.t 32) (.c (.int .u8 128))), none⟩,
    ⟨(some 31), .val (.mov (.t 33)), none⟩]
def l52_0 : RC := .block 1 (.seq (.seq (.reg g52_3) (.cond (.t 11) (.seq (.reg g52_4) (.ret)) (.skip))) (.seq (.reg g52_5) (.seq (.seq (.reg g52_6) (.cond (.t 20) (.seq (.reg g52_7) (.ret)) (.skip))) (.seq (.reg g52_8) (.seq (.reg g52_9) (.block 2 (.seq (.reg g52_10) (.cond (.t 31) (.exit 0) (.skip)))))))))
def g52_11 : List Am.Item := [
    ⟨(some 34), .val (.mov (.t 5)), none⟩,
    ⟨(some 35), .val (.mov (.t 6)), none⟩,
    ⟨(some 2), .val (.mov (.t 34)), none⟩,
    ⟨(some 3), .val (.mov (.t 35)), none⟩,
    ⟨(some 4), .val (.mov (.c (.int .i64 0))), none⟩]
def r52 : RC := .seq (.reg g52_0) (.scope (.seq (.reg g52_1) (.seq (.reg g52_2) (.seq (.lab) (.seq (.block 0 (.loop l52_0)) (.seq (.reg g52_11) (.ret)))))))
def o52 : List RR := [.tmp 2, .tmp 3, .tmp 4]
theorem k52 : chkC Try.prog 36 r52 (Try.f52.body.getD .skip) = true := by decide +kernel
theorem q52 : chkR Try.prog Try.f52.results.toList o52 = true := by decide +kernel

/- wireschema/wireschemaref01.Take -/
def g55_0 : List Am.Item := [
    ⟨(some 2), .val (.mov (.c (.int .u64 0))), none⟩,
    ⟨(some 3), .val (.mov (.c (.int .i64 0))), none⟩,
    ⟨(some 4), .val (.mov (.c (.int .i64 0))), none⟩]
def g55_1 : List Am.Item := [
    ⟨(some 5), .val (.mov (.c (.int .u64 0))), none⟩,
    ⟨(some 6), .val (.mov (.c (.int .u64 1))), none⟩]
def g55_2 : List Am.Item := [
    ⟨(some 7), .val (.mov (.c (.int .i64 0))), none⟩]
def g55_3 : List Am.Item := [
    ⟨(some 9), .val (.mov (.t 7)), none⟩,
    ⟨(some 10), .val (.bin .num .lss (.t 9) (.c (.int .i64 10))), none⟩]
def g55_5 : List Am.Item := [
    ⟨(some 13), .val (.mov (.t 7)), none⟩,
    ⟨(some 14), .val (.mov (.t 0)), none⟩,
    ⟨(some 15), .val (.len 0 (.t 14)), none⟩,
    ⟨(some 16), .val (.bin .num .geq (.t 13) (.t 15)), none⟩]
def g55_6 : List Am.Item := [
    ⟨(some 2), .val (.mov (.c (.int .u64 0))), none⟩,
    ⟨(some 3), .val (.mov (.c (.int .i64 0))), none⟩,
    ⟨(some 4), .val (.mov (.c (.int .i64 4))), none⟩]
def g55_7 : List Am.Item := [
    ⟨(some 17), .val (.mov (.t 0)), none⟩,
    ⟨(some 18), .val (.mov (.t 7)), none⟩,
    ⟨(some 19), .val (.idx (.t 17) (.t 18)), none⟩,
    ⟨(some 20), .val (.cvi .u64 (.t 19)), none⟩,
    ⟨(some 8), .val (.mov (.t 20)), none⟩]
def g55_8 : List Am.Item := [
    ⟨(some 21), .val (.mov (.t 7)), none⟩,
    ⟨(some 22), .val (.bin .num .eql (.t 21) (.c (.int .i64 9))), none⟩,
    ⟨(some 23), .val (.mov (.t 22)), none⟩,
    ⟨(some 24), .val (.mov (.t 8)), (some (23, true))⟩,
    ⟨(some 25), .val (.bin .num .gtr (.t 24) (.c (.int .u64 1))), (some (23, true))⟩,
    ⟨(some 26), .val (.pick (.t 23) (.t 25) (.c (.bool false))), none⟩]
def g55_9 : List Am.Item := [
    ⟨(some 2), .val (.mov (.c (.int .u64 0))), none⟩,
    ⟨(some 3), .val (.mov (.c (.int .i64 0))), none⟩,
    ⟨(some 4), .val (.mov (.c (.int .i64 6))), none⟩]
def g55_10 : List Am.Item := [
    ⟨(some 27), .val (.mov (.t 5)), none⟩,
    ⟨(some 28), .val (.mov (.t 8)), none⟩,
    ⟨(some 29), .val (.bin .num .rem (.t 28) (.c (.int .u64 128))), none⟩,
    ⟨(some 30), .val (.mov (.t 6)), none⟩,
    ⟨(some 31), .val (.bin .num .mul (.t 29) (.t 30)), none⟩,
    ⟨(some 32), .val (.bin .num .add (.t 27) (.t 31)), none⟩,
    ⟨(some 5), .val (.mov (.t 32)), none⟩]
def g55_11 : List Am.Item := [
    ⟨(some 33), .val (.mov (.t 8)), none⟩,
    ⟨(some 34), .val (.bin .num .lss (.t 33) (.c (.int .u64 128))), none⟩]
def g55_12 : List Am.Item := [
    ⟨(some 35), .val (.mov (.t 5)), none⟩,
    ⟨(some 36), .val (.mov (.t 7)), none⟩,
    ⟨(some 37), .val (.bin .num .add (.t 36) (.c (.int .i64 1))), none⟩,
    ⟨(some 2), .val (.mov (.t 35)), none⟩,
    ⟨(some 3), .val (.mov (.t 37)), none⟩,
    ⟨(some 4), .val (.mov (.c (.int .i64 0))), none⟩]
def g55_13 : List Am.Item := [
    ⟨(some 38), .val (.mov (.t 6)), none⟩,
    ⟨(some 39), .val (.bin .num .mul (.t 38) (.c (.int .u64 128))), none⟩,
    ⟨(some 6), .val (.mov (.t 39)), none⟩]
def g55_4 : List Am.Item := [
    ⟨(some 11), .val (.mov (.t 7)), none⟩,
    ⟨(some 12), .val (.bin .num .add (.t 11) (.c (.int .i64 1))), none⟩,
    ⟨(some 7), .val (.mov (.t 12)), none⟩]
def l55_0 : RC := .seq (.seq (.reg g55_3) (.cond (.t 10) (.skip) (.exit 0))) (.seq (.block 1 (.seq (.seq (.reg g55_5) (.cond (.t 16) (.seq (.reg g55_6) (.ret)) (.skip))) (.seq (.reg g55_7) (.seq (.seq (.reg g55_8) (.cond (.t 26) (.seq (.reg g55_9) (.ret)) (.skip))) (.seq (.reg g55_10) (.seq (.seq (.reg g55_11) (.cond (.t 34) (.seq (.reg g55_12) (.ret)) (.skip))) (.reg g55_13))))))) (.reg g55_4))
def g55_14 : List Am.Item := [
    ⟨(some 2), .val (.mov (.c (.int .u64 0))), none⟩,
    ⟨(some 3), .val (.mov (.c (.int .i64 0))), none⟩,
    ⟨(some 4), .val (.mov (.c (.int .i64 6))), none⟩]
def r55 : RC := .seq (.reg g55_0) (.seq (.reg g55_1) (.seq (.seq (.reg g55_2) (.block 0 (.loop l55_0))) (.seq (.reg g55_14) (.ret))))
def o55 : List RR := [.tmp 2, .tmp 3, .tmp 4]
theorem k55 : chkC Try.prog 40 r55 (Try.f55.body.getD .skip) = true := by decide +kernel
theorem q55 : chkR Try.prog Try.f55.results.toList o55 = true := by decide +kernel

/- wireschema/varint.Fixed -/
def g44_0 : List Am.Item := [
    ⟨(some 2), .val (.mov (.c (.str []))), none⟩]
def g44_1 : List Am.Item := [
    ⟨(some 5), .mk 5 5 1 1 [.int .u8 0] (.c (.int .i64 8)) (.c (.int .i64 8)), none⟩,
    ⟨(some 3), .val (.mov (.t 5)), none⟩]
def g44_2 : List Am.Item := [
    ⟨(some 6), .val (.mov (.t 3)), none⟩,
    ⟨(some 7), .val (.len 1 (.t 6)), none⟩,
    ⟨(some 8), .val (.mov (.c (.int .i64 0))), none⟩]
def g44_3 : List Am.Item := [
    ⟨(some 9), .val (.bin .num .lss (.t 8) (.t 7)), none⟩]
def g44_4 : List Am.Item := [
    ⟨(some 10), .val (.mov (.t 8)), none⟩,
    ⟨(some 4), .val (.mov (.t 10)), none⟩]
def g44_5 : List Am.Item := [
    ⟨(some 11), .val (.mov (.t 3)), none⟩,
    ⟨(some 12), .val (.mov (.t 4)), none⟩,
    ⟨(some 13), .val (.mov (.t 0)), none⟩,
    ⟨(some 14), .val (.mov (.t 4)), none⟩,
    ⟨(some 15), .val (.bin .num .mul (.c (.int .i64 8)) (.t 14)), none⟩,
    ⟨(some 16), .val (.bin .num .shr (.t 13) (.t 15)), none⟩,
    ⟨(some 17), .val (.cvi .u8 (.t 16)), none⟩,
    ⟨(some 18), .val (.iaddr 1 none (.t 11) (.t 12)), none⟩,
    ⟨none, .store 1 (.t 18) (.t 17), none⟩]
def g44_6 : List Am.Item := [
    ⟨(some 19), .val (.bin .num .add (.t 8) (.c (.int .i64 1))), none⟩,
    ⟨(some 8), .val (.mov (.t 19)), none⟩]
def l44_0 : RC := .seq (.reg g44_3) (.seq (.cond (.t 9) (.skip) (.exit 0)) (.seq (.block 1 (.seq (.reg g44_4) (.reg g44_5))) (.reg g44_6)))
def g44_7 : List Am.Item := [
    ⟨(some 20), .val (.mov (.t 3)), none⟩,
    ⟨(some 21), .val (.b2s (.t 20)), none⟩,
    ⟨(some 2), .val (.mov (.t 21)), none⟩]
def r44 : RC := .seq (.reg g44_0) (.seq (.reg g44_1) (.seq (.seq (.reg g44_2) (.block 0 (.loop l44_0))) (.seq (.reg g44_7) (.ret))))
def o44 : List RR := [.tmp 2]
theorem k44 : chkC Try.prog 22 r44 (Try.f44.body.getD .skip) = true := by decide +kernel
theorem q44 : chkR Try.prog Try.f44.results.toList o44 = true := by decide +kernel

/- wireschema/wireschemaref01.Fixed -/
def g47_0 : List Am.Item := [
    ⟨(some 2), .val (.mov (.c (.str []))), none⟩]
def g47_1 : List Am.Item := [
    ⟨(some 3), .val (.mov (.c (.nils))), none⟩]
def g47_2 : List Am.Item := [
    ⟨(some 4), .val (.mov (.c (.int .i64 0))), none⟩]
def g47_3 : List Am.Item := [
    ⟨(some 5), .val (.mov (.t 4)), none⟩,
    ⟨(some 6), .val (.bin .num .lss (.t 5) (.c (.int .i64 8))), none⟩]
def g47_5 : List Am.Item := [
    ⟨(some 9), .val (.mov (.t 3)), none⟩,
    ⟨(some 10), .val (.mov (.t 0)), none⟩,
    ⟨(some 11), .val (.bin .num .rem (.t 10) (.c (.int .u64 256))), none⟩,
    ⟨(some 12), .val (.cvi .u8 (.t 11)), none⟩,
    ⟨(some 13), .bsl 1 1 [.int .u8 0] [(0, 1, (.t 12))], none⟩,
    ⟨(some 14), .app 1 1 5 (.t 9) (.t 13), none⟩,
    ⟨(some 3), .val (.mov (.t 14)), none⟩]
def g47_6 : List Am.Item := [
    ⟨(some 15), .val (.mov (.t 0)), none⟩,
    ⟨(some 16), .val (.bin .num .quo (.t 15) (.c (.int .u64 256))), none⟩,
    ⟨(some 0), .val (.mov (.t 16)), none⟩]
def g47_4 : List Am.Item := [
    ⟨(some 7), .val (.mov (.t 4)), none⟩,
    ⟨(some 8), .val (.bin .num .add (.t 7) (.c (.int .i64 1))), none⟩,
    ⟨(some 4), .val (.mov (.t 8)), none⟩]
def l47_0 : RC := .seq (.seq (.reg g47_3) (.cond (.t 6) (.skip) (.exit 0))) (.seq (.block 1 (.seq (.reg g47_5) (.reg g47_6))) (.reg g47_4))
def g47_7 : List Am.Item := [
    ⟨(some 17), .val (.mov (.t 3)), none⟩,
    ⟨(some 18), .val (.b2s (.t 17)), none⟩,
    ⟨(some 2), .val (.mov (.t 18)), none⟩]
def r47 : RC := .seq (.reg g47_0) (.seq (.reg g47_1) (.gho (.vec 3 3 1) (.seq (.seq (.reg g47_2) (.block 0 (.loop l47_0))) (.seq (.reg g47_7) (.ret)))))
def o47 : List RR := [.tmp 2]
theorem k47 : chkC Try.prog 19 r47 (Try.f47.body.getD .skip) = true := by decide +kernel
theorem q47 : chkR Try.prog Try.f47.results.toList o47 = true := by decide +kernel

/- wireschema/varint.TakeFixed -/
def g67_0 : List Am.Item := [
    ⟨(some 2), .val (.mov (.c (.int .u64 0))), none⟩,
    ⟨(some 3), .val (.mov (.c (.int .i64 0))), none⟩]
def g67_1 : List Am.Item := [
    ⟨(some 6), .val (.mov (.t 0)), none⟩,
    ⟨(some 7), .val (.len 0 (.t 6)), none⟩,
    ⟨(some 8), .val (.bin .num .lss (.t 7) (.c (.int .i64 8))), none⟩]
def g67_2 : List Am.Item := [
    ⟨(some 2), .val (.mov (.c (.int .u64 0))), none⟩,
    ⟨(some 3), .val (.mov (.c (.int .i64 4))), none⟩]
def g67_3 : List Am.Item := [
    ⟨(some 4), .val (.mov (.c (.int .u64 0))), none⟩]
def g67_4 : List Am.Item := [
    ⟨(some 9), .val (.mov (.c (.int .i64 0))), none⟩]
def g67_5 : List Am.Item := [
    ⟨(some 10), .val (.bin .num .lss (.t 9) (.c (.int .i64 8))), none⟩]
def g67_6 : List Am.Item := [
    ⟨(some 11), .val (.mov (.t 9)), none⟩,
    ⟨(some 5), .val (.mov (.t 11)), none⟩]
def g67_7 : List Am.Item := [
    ⟨(some 12), .val (.mov (.t 4)), none⟩,
    ⟨(some 13), .val (.mov (.t 0)), none⟩,
    ⟨(some 14), .val (.mov (.t 5)), none⟩,
    ⟨(some 15), .val (.idx (.t 13) (.t 14)), none⟩,
    ⟨(some 16), .val (.cvi .u64 (.t 15)), none⟩,
    ⟨(some 17), .val (.mov (.t 5)), none⟩,
    ⟨(some 18), .val (.bin .num .mul (.c (.int .i64 8)) (.t 17)), none⟩,
    ⟨(some 19), .val (.bin .num .shl (.t 16) (.t 18)), none⟩,
    ⟨(some 20), .val (.bin .num .or (.t 12) (.t 19)), none⟩,
    ⟨(some 4), .val (.mov (.t 20)), none⟩]
def g67_8 : List Am.Item := [
    ⟨(some 21), .val (.bin .num .add (.t 9) (.c (.int .i64 1))), none⟩,
    ⟨(some 9), .val (.mov (.t 21)), none⟩]
def l67_0 : RC := .seq (.reg g67_5) (.seq (.cond (.t 10) (.skip) (.exit 0)) (.seq (.block 1 (.seq (.reg g67_6) (.reg g67_7))) (.reg g67_8)))
def g67_9 : List Am.Item := [
    ⟨(some 22), .val (.mov (.t 4)), none⟩,
    ⟨(some 2), .val (.mov (.t 22)), none⟩,
    ⟨(some 3), .val (.mov (.c (.int .i64 0))), none⟩]
def r67 : RC := .seq (.reg g67_0) (.seq (.seq (.reg g67_1) (.cond (.t 8) (.seq (.reg g67_2) (.ret)) (.skip))) (.seq (.reg g67_3) (.seq (.seq (.reg g67_4) (.block 0 (.loop l67_0))) (.seq (.reg g67_9) (.ret)))))
def o67 : List RR := [.tmp 2, .tmp 3]
theorem k67 : chkC Try.prog 23 r67 (Try.f67.body.getD .skip) = true := by decide +kernel
theorem q67 : chkR Try.prog Try.f67.results.toList o67 = true := by decide +kernel

/- wireschema/cursor.Open -/
def g38_0 : List Am.Item := [
    ⟨(some 3), .boxN 3 (.t 1), none⟩,
    ⟨(some 4), .allocN 4 [.str [], .int .i64 0, .int .i64 0, .int .i64 0, .int .i64 0, .int .i64 0], none⟩,
    ⟨(some 5), .val (.mov (.c (.int .i64 0))), none⟩]
def g38_1 : List Am.Item := [
    ⟨(some 7), .val (.faddr 0 (.t 3)), none⟩,
    ⟨(some 8), .val (.load none (.t 7)), none⟩,
    ⟨(some 9), .val (.bin .num .lss (.t 8) (.c (.int .i64 0))), none⟩,
    ⟨(some 10), .val (.mov (.t 9)), none⟩,
    ⟨(some 11), .val (.faddr 1 (.t 3)), (some (10, false))⟩,
    ⟨(some 12), .val (.load none (.t 11)), (some (10, false))⟩,
    ⟨(some 13), .val (.bin .num .lss (.t 12) (.c (.int .i64 0))), (some (10, false))⟩,
    ⟨(some 14), .val (.pick (.t 10) (.c (.bool true)) (.t 13)), none⟩,
    ⟨(some 15), .val (.mov (.t 14)), none⟩,
    ⟨(some 16), .val (.faddr 2 (.t 3)), (some (15, false))⟩,
    ⟨(some 17), .val (.load none (.t 16)), (some (15, false))⟩,
    ⟨(some 18), .val (.bin .num .lss (.t 17) (.c (.int .i64 0))), (some (15, false))⟩,
    ⟨(some 19), .val (.pick (.t 15) (.c (.bool true)) (.t 18)), none⟩,
    ⟨(some 20), .val (.mov (.t 19)), none⟩,
    ⟨(some 21), .val (.faddr 3 (.t 3)), (some (20, false))⟩,
    ⟨(some 22), .val (.load none (.t 21)), (some (20, false))⟩,
    ⟨(some 23), .val (.bin .num .lss (.t 22) (.c (.int .i64 0))), (some (20, false))⟩,
    ⟨(some 24), .val (.pick (.t 20) (.c (.bool true)) (.t 23)), none⟩,
    ⟨(some 6), .val (.mov (.t 24)), none⟩]
def g38_2 : List Am.Item := [
    ⟨(some 25), .val (.build [.str [], .int .i64 0, .int .i64 0, .int .i64 0, .int .i64 0, .int .i64 0] []), none⟩,
    ⟨none, .store 6 (.t 4) (.t 25), none⟩,
    ⟨(some 5), .val (.mov (.c (.int .i64 1))), none⟩]
def g38_3 : List Am.Item := [
    ⟨(some 27), .val (.mov (.t 0)), none⟩,
    ⟨(some 28), .val (.len 0 (.t 27)), none⟩,
    ⟨(some 29), .val (.faddr 0 (.t 3)), none⟩,
    ⟨(some 30), .val (.load none (.t 29)), none⟩,
    ⟨(some 31), .val (.bin .num .gtr (.t 28) (.t 30)), none⟩,
    ⟨(some 26), .val (.mov (.t 31)), none⟩]
def g38_4 : List Am.Item := [
    ⟨(some 32), .val (.build [.str [], .int .i64 0, .int .i64 0, .int .i64 0, .int .i64 0, .int .i64 0] []), none⟩,
    ⟨none, .store 6 (.t 4) (.t 32), none⟩,
    ⟨(some 5), .val (.mov (.c (.int .i64 3))), none⟩]
def g38_5 : List Am.Item := [
    ⟨(some 33), .val (.mov (.t 0)), none⟩,
    ⟨(some 34), .val (.mov (.t 0)), none⟩,
    ⟨(some 35), .val (.len 0 (.t 34)), none⟩,
    ⟨(some 36), .val (.faddr 1 (.t 3)), none⟩,
    ⟨(some 37), .val (.load none (.t 36)), none⟩,
    ⟨(some 38), .val (.faddr 2 (.t 3)), none⟩,
    ⟨(some 39), .val (.load none (.t 38)), none⟩,
    ⟨(some 40), .val (.faddr 3 (.t 3)), none⟩,
    ⟨(some 41), .val (.load none (.t 40)), none⟩,
    ⟨(some 42), .val (.build [.str [], .int .i64 0, .int .i64 0, .int .i64 0, .int .i64 0, .int .i64 0] [(0, 1, (.t 33)), (2, 1, (.t 35)), (3, 1, (.t 37)), (4, 1, (.t 39)), (5, 1, (.t 41))]), none⟩,
    ⟨none, .store 6 (.t 4) (.t 42), none⟩,
    ⟨(some 5), .val (.mov (.c (.int .i64 0))), none⟩]
def r38 : RC := .seq (.reg g38_0) (.seq (.block 0 (.seq (.reg g38_1) (.cond (.t 6) (.seq (.reg g38_2) (.ret)) (.seq (.reg g38_3) (.cond (.t 26) (.seq (.reg g38_4) (.ret)) (.skip)))))) (.seq (.reg g38_5) (.ret)))
def o38 : List RR := [.cell 4 (some 6), .tmp 5]
theorem k38 : chkC Try.prog 43 r38 (Try.f38.body.getD .skip) = true := by decide +kernel
theorem q38 : chkR Try.prog Try.f38.results.toList o38 = true := by decide +kernel

/- wireschema/cursor.Sound -/
def g65_0 : List Am.Item := [
    ⟨(some 1), .boxN 1 (.t 0), none⟩,
    ⟨(some 2), .val (.mov (.c (.bool false))), none⟩]
def g65_1 : List Am.Item := [
    ⟨(some 3), .val (.faddr 1 (.t 1)), none⟩,
    ⟨(some 4), .val (.load none (.t 3)), none⟩,
    ⟨(some 5), .val (.bin .num .geq (.t 4) (.c (.int .i64 0))), none⟩,
    ⟨(some 6), .val (.mov (.t 5)), none⟩,
    ⟨(some 7), .val (.faddr 1 (.t 1)), (some (6, true))⟩,
    ⟨(some 8), .val (.load none (.t 7)), (some (6, true))⟩,
    ⟨(some 9), .val (.faddr 2 (.t 1)), (some (6, true))⟩,
    ⟨(some 10), .val (.load none (.t 9)), (some (6, true))⟩,
    ⟨(some 11), .val (.bin .num .leq (.t 8) (.t 10)), (some (6, true))⟩,
    ⟨(some 12), .val (.pick (.t 6) (.t 11) (.c (.bool false))), none⟩,
    ⟨(some 13), .val (.mov (.t 12)), none⟩,
    ⟨(some 14), .val (.faddr 2 (.t 1)), (some (13, true))⟩,
    ⟨(some 15), .val (.load none (.t 14)), (some (13, true))⟩,
    ⟨(some 16), .val (.faddr 0 (.t 1)), (some (13, true))⟩,
    ⟨(some 17), .val (.load none (.t 16)), (some (13, true))⟩,
    ⟨(some 18), .val (.len 0 (.t 17)), (some (13, true))⟩,
    ⟨(some 19), .val (.bin .num .leq (.t 15) (.t 18)), (some (13, true))⟩,
    ⟨(some 20), .val (.pick (.t 13) (.t 19) (.c (.bool false))), none⟩,
    ⟨(some 2), .val (.mov (.t 20)), none⟩]
def r65 : RC := .seq (.reg g65_0) (.seq (.reg g65_1) (.ret))
def o65 : List RR := [.tmp 2]
theorem k65 : chkC Try.prog 21 r65 (Try.f65.body.getD .skip) = true := by decide +kernel
theorem q65 : chkR Try.prog Try.f65.results.toList o65 = true := by decide +kernel

/- wireschema/cursor.Left -/
def g68_0 : List Am.Item := [
    ⟨(some 1), .boxN 1 (.t 0), none⟩,
    ⟨(some 2), .val (.mov (.c (.int .i64 0))), none⟩]
def g68_1 : List Am.Item := [
    ⟨(some 3), .val (.load (some 6) (.t 1)), none⟩,
    ⟨(some 4), .call (.f 65) [(.t 3)], none⟩,
    ⟨(some 5), .val (.un .not (.t 4)), none⟩]
def g68_2 : List Am.Item := [
    ⟨(some 2), .val (.mov (.c (.int .i64 0))), none⟩]
def g68_3 : List Am.Item := [
    ⟨(some 6), .val (.faddr 2 (.t 1)), none⟩,
    ⟨(some 7), .val (.load none (.t 6)), none⟩,
    ⟨(some 8), .val (.faddr 1 (.t 1)), none⟩,
    ⟨(some 9), .val (.load none (.t 8)), none⟩,
    ⟨(some 10), .val (.bin .num .sub (.t 7) (.t 9)), none⟩,
    ⟨(some 2), .val (.mov (.t 10)), none⟩]
def r68 : RC := .seq (.reg g68_0) (.seq (.seq (.reg g68_1) (.cond (.t 5) (.seq (.reg g68_2) (.ret)) (.skip))) (.seq (.reg g68_3) (.ret)))
def o68 : List RR := [.tmp 2]
theorem k68 : chkC Try.prog 11 r68 (Try.f68.body.getD .skip) = true := by decide +kernel
theorem q68 : chkR Try.prog Try.f68.results.toList o68 = true := by decide +kernel

/- wireschema/cursor.head -/
def g53_0 : List Am.Item := [
    ⟨(some 2), .boxN 2 (.t 0), none⟩,
    ⟨(some 4), .val (.mov (.c (.str []))), none⟩]
def g53_1 : List Am.Item := [
    ⟨(some 5), .val (.load (some 6) (.t 2)), none⟩,
    ⟨(some 6), .call (.f 65) [(.t 5)], none⟩,
    ⟨(some 7), .val (.un .not (.t 6)), none⟩]
def g53_2 : List Am.Item := [
    ⟨(some 4), .val (.mov (.c (.str []))), none⟩]
def g53_3 : List Am.Item := [
    ⟨(some 8), .val (.faddr 0 (.t 2)), none⟩,
    ⟨(some 9), .val (.load none (.t 8)), none⟩,
    ⟨(some 10), .val (.faddr 1 (.t 2)), none⟩,
    ⟨(some 11), .val (.load none (.t 10)), none⟩,
    ⟨(some 12), .val (.faddr 2 (.t 2)), none⟩,
    ⟨(some 13), .val (.load none (.t 12)), none⟩,
    ⟨(some 14), .val (.faddr 1 (.t 2)), none⟩,
    ⟨(some 15), .val (.load none (.t 14)), none⟩,
    ⟨(some 16), .val (.mov (.t 1)), none⟩,
    ⟨(some 17), .val (.bin .num .add (.t 15) (.t 16)), none⟩,
    ⟨(some 18), .val (.mnx false (.t 13) (.t 17)), none⟩,
    ⟨(some 19), .val (.slc none (.t 9) (some (.t 11)) (some (.t 18)) none), none⟩,
    ⟨(some 4), .val (.mov (.t 19)), none⟩]
def r53 : RC := .seq (.reg g53_0) (.seq (.seq (.reg g53_1) (.cond (.t 7) (.seq (.reg g53_2) (.ret)) (.skip))) (.seq (.reg g53_3) (.ret)))
def o53 : List RR := [.tmp 4]
theorem k53 : chkC Try.prog 20 r53 (Try.f53.body.getD .skip) = true := by decide +kernel
theorem q53 : chkR Try.prog Try.f53.results.toList o53 = true := by decide +kernel

/- wireschema/cursor.ahead -/
def g54_0 : List Am.Item := [
    ⟨(some 2), .boxN 2 (.t 0), none⟩,
    ⟨(some 4), .allocN 4 [.str [], .int .i64 0, .int .i64 0, .int .i64 0, .int .i64 0, .int .i64 0], none⟩]
def g54_1 : List Am.Item := [
    ⟨(some 5), .val (.faddr 1 (.t 2)), none⟩,
    ⟨(some 6), .val (.load none (.t 5)), none⟩,
    ⟨(some 7), .val (.mov (.t 1)), none⟩,
    ⟨(some 8), .val (.bin .num .add (.t 6) (.t 7)), none⟩,
    ⟨(some 9), .val (.faddr 1 (.t 2)), none⟩,
    ⟨none, .store 1 (.t 9) (.t 8), none⟩]
def g54_2 : List Am.Item := [
    ⟨(some 10), .val (.load (some 6) (.t 2)), none⟩,
    ⟨none, .store 6 (.t 4) (.t 10), none⟩]
def r54 : RC := .seq (.reg g54_0) (.seq (.reg g54_1) (.seq (.reg g54_2) (.ret)))
def o54 : List RR := [.cell 4 (some 6)]
theorem k54 : chkC Try.prog 11 r54 (Try.f54.body.getD .skip) = true := by decide +kernel
theorem q54 : chkR Try.prog Try.f54.results.toList o54 = true := by decide +kernel

/- wireschema/cursor.Varint -/
def g32_0 : List Am.Item := [
    ⟨(some 1), .boxN 1 (.t 0), none⟩,
    ⟨(some 2), .val (.mov (.c (.int .u64 0))), none⟩,
    ⟨(some 3), .allocN 3 [.str [], .int .i64 0, .int .i64 0, .int .i64 0, .int .i64 0, .int .i64 0], none⟩,
    ⟨(some 4), .val (.mov (.c (.int .i64 0))), none⟩]
def g32_1 : List Am.Item := [
    ⟨(some 9), .val (.load (some 6) (.t 1)), none⟩,
    ⟨(some 10), .call (.f 53) [(.t 9), (.c (.int .i64 10))], none⟩,
    ⟨(some 11), .call (.f 52) [(.t 10)], none⟩,
    ⟨(some 8), .val (.mov (.t 11)), none⟩,
    ⟨(some 12), .val (.ext (.t 8) 0), none⟩,
    ⟨(some 13), .val (.ext (.t 8) 1), none⟩,
    ⟨(some 14), .val (.ext (.t 8) 2), none⟩,
    ⟨(some 5), .val (.mov (.t 12)), none⟩,
    ⟨(some 6), .val (.mov (.t 13)), none⟩,
    ⟨(some 7), .val (.mov (.t 14)), none⟩]
def g32_2 : List Am.Item := [
    ⟨(some 15), .val (.mov (.t 7)), none⟩,
    ⟨(some 16), .val (.bin .num .neq (.t 15) (.c (.int .i64 0))), none⟩]
def g32_3 : List Am.Item := [
    ⟨(some 17), .val (.loadv 0 1 (some 6) (.t 1)), none⟩,
    ⟨(some 18), .val (.mov (.t 7)), none⟩,
    ⟨(some 2), .val (.mov (.c (.int .u64 0))), none⟩,
    ⟨none, .storev 0 3 6 (.t 3) (.t 17), none⟩,
    ⟨(some 4), .val (.mov (.t 18)), none⟩]
def g32_4 : List Am.Item := [
    ⟨(some 19), .val (.mov (.t 5)), none⟩,
    ⟨(some 20), .val (.load (some 6) (.t 1)), none⟩,
    ⟨(some 21), .val (.mov (.t 6)), none⟩,
    ⟨(some 22), .call (.f 54) [(.t 20), (.t 21)], none⟩,
    ⟨(some 2), .val (.mov (.t 19)), none⟩,
    ⟨none, .store 6 (.t 3) (.t 22), none⟩,
    ⟨(some 4), .val (.mov (.c (.int .i64 0))), none⟩]
def r32 : RC := .seq (.reg g32_0) (.seq (.reg g32_1) (.seq (.seq (.reg g32_2) (.cond (.t 16) (.seq (.draw g32_3) (.ret)) (.skip))) (.seq (.reg g32_4) (.ret))))
def o32 : List RR := [.tmp 2, .cell 3 (some 6), .tmp 4]
theorem k32 : chkC Try.prog 23 r32 (Try.f32.body.getD .skip) = true := by decide +kernel
theorem q32 : chkR Try.prog Try.f32.results.toList o32 = true := by decide +kernel

/- wireschema/cursor.Fixed -/
def g58_0 : List Am.Item := [
    ⟨(some 1), .boxN 1 (.t 0), none⟩,
    ⟨(some 2), .val (.mov (.c (.int .u64 0))), none⟩,
    ⟨(some 3), .allocN 3 [.str [], .int .i64 0, .int .i64 0, .int .i64 0, .int .i64 0, .int .i64 0], none⟩,
    ⟨(some 4), .val (.mov (.c (.int .i64 0))), none⟩]
def g58_1 : List Am.Item := [
    ⟨(some 8), .val (.load (some 6) (.t 1)), none⟩,
    ⟨(some 9), .call (.f 53) [(.t 8), (.c (.int .i64 8))], none⟩,
    ⟨(some 10), .call (.f 67) [(.t 9)], none⟩,
    ⟨(some 7), .val (.mov (.t 10)), none⟩,
    ⟨(some 11), .val (.ext (.t 7) 0), none⟩,
    ⟨(some 12), .val (.ext (.t 7) 1), none⟩,
    ⟨(some 5), .val (.mov (.t 11)), none⟩,
    ⟨(some 6), .val (.mov (.t 12)), none⟩]
def g58_2 : List Am.Item := [
    ⟨(some 13), .val (.mov (.t 6)), none⟩,
    ⟨(some 14), .val (.bin .num .neq (.t 13) (.c (.int .i64 0))), none⟩]
def g58_3 : List Am.Item := [
    ⟨(some 15), .val (.loadv 0 1 (some 6) (.t 1)), none⟩,
    ⟨(some 16), .val (.mov (.t 6)), none⟩,
    ⟨(some 2), .val (.mov (.c (.int .u64 0))), none⟩,
    ⟨none, .storev 0 3 6 (.t 3) (.t 15), none⟩,
    ⟨(some 4), .val (.mov (.t 16)), none⟩]
def g58_4 : List Am.Item := [
    ⟨(some 17), .val (.mov (.t 5)), none⟩,
    ⟨(some 18), .val (.load (some 6) (.t 1)), none⟩,
    ⟨(some 19), .call (.f 54) [(.t 18), (.c (.int .i64 8))], none⟩,
    ⟨(some 2), .val (.mov (.t 17)), none⟩,
    ⟨none, .store 6 (.t 3) (.t 19), none⟩,
    ⟨(some 4), .val (.mov (.c (.int .i64 0))), none⟩]
def r58 : RC := .seq (.reg g58_0) (.seq (.reg g58_1) (.seq (.seq (.reg g58_2) (.cond (.t 14) (.seq (.draw g58_3) (.ret)) (.skip))) (.seq (.reg g58_4) (.ret))))
def o58 : List RR := [.tmp 2, .cell 3 (some 6), .tmp 4]
theorem k58 : chkC Try.prog 20 r58 (Try.f58.body.getD .skip) = true := by decide +kernel
theorem q58 : chkR Try.prog Try.f58.results.toList o58 = true := by decide +kernel

/- wireschema/cursor.Spend -/
def g34_0 : List Am.Item := [
    ⟨(some 2), .boxN 2 (.t 0), none⟩,
    ⟨(some 4), .allocN 4 [.str [], .int .i64 0, .int .i64 0, .int .i64 0, .int .i64 0, .int .i64 0], none⟩,
    ⟨(some 5), .val (.mov (.c (.int .i64 0))), none⟩]
def g34_1 : List Am.Item := [
    ⟨(some 7), .val (.mov (.t 1)), none⟩,
    ⟨(some 8), .val (.bin .num .lss (.t 7) (.c (.int .i64 0))), none⟩,
    ⟨(some 6), .val (.mov (.t 8)), none⟩]
def g34_2 : List Am.Item := [
    ⟨(some 9), .val (.load (some 6) (.t 2)), none⟩,
    ⟨none, .store 6 (.t 4) (.t 9), none⟩,
    ⟨(some 5), .val (.mov (.c (.int .i64 1))), none⟩]
def g34_3 : List Am.Item := [
    ⟨(some 11), .val (.mov (.t 1)), none⟩,
    ⟨(some 12), .val (.faddr 4 (.t 2)), none⟩,
    ⟨(some 13), .val (.load none (.t 12)), none⟩,
    ⟨(some 14), .val (.bin .num .gtr (.t 11) (.t 13)), none⟩,
    ⟨(some 10), .val (.mov (.t 14)), none⟩]
def g34_4 : List Am.Item := [
    ⟨(some 15), .val (.load (some 6) (.t 2)), none⟩,
    ⟨none, .store 6 (.t 4) (.t 15), none⟩,
    ⟨(some 5), .val (.mov (.c (.int .i64 3))), none⟩]
def g34_5 : List Am.Item := [
    ⟨(some 16), .val (.faddr 4 (.t 2)), none⟩,
    ⟨(some 17), .val (.load none (.t 16)), none⟩,
    ⟨(some 18), .val (.mov (.t 1)), none⟩,
    ⟨(some 19), .val (.bin .num .sub (.t 17) (.t 18)), none⟩,
    ⟨(some 20), .val (.faddr 4 (.t 2)), none⟩,
    ⟨none, .store 1 (.t 20) (.t 19), none⟩]
def g34_6 : List Am.Item := [
    ⟨(some 21), .val (.load (some 6) (.t 2)), none⟩,
    ⟨none, .store 6 (.t 4) (.t 21), none⟩,
    ⟨(some 5), .val (.mov (.c (.int .i64 0))), none⟩]
def r34 : RC := .seq (.reg g34_0) (.seq (.block 0 (.seq (.reg g34_1) (.cond (.t 6) (.seq (.reg g34_2) (.ret)) (.seq (.reg g34_3) (.cond (.t 10) (.seq (.reg g34_4) (.ret)) (.skip)))))) (.seq (.reg g34_5) (.seq (.reg g34_6) (.ret))))
def o34 : List RR := [.cell 4 (some 6), .tmp 5]
theorem k34 : chkC Try.prog 22 r34 (Try.f34.body.getD .skip) = true := by decide +kernel
theorem q34 : chkR Try.prog Try.f34.results.toList o34 = true := by decide +kernel

/- wireschema/wireschemaref02.Open -/
def g40_0 : List Am.Item := [
    ⟨(some 3), .boxN 3 (.t 1), none⟩,
    ⟨(some 4), .allocN 4 [.str [], .int .i64 0, .int .i64 0, .int .i64 0, .int .i64 0, .int .i64 0], none⟩,
    ⟨(some 5), .val (.mov (.c (.int .i64 0))), none⟩]
def g40_1 : List Am.Item := [
    ⟨(some 6), .val (.faddr 0 (.t 3)), none⟩,
    ⟨(some 7), .val (.load none (.t 6)), none⟩,
    ⟨(some 8), .val (.bin .num .lss (.t 7) (.c (.int .i64 0))), none⟩,
    ⟨(some 9), .val (.mov (.t 8)), none⟩,
    ⟨(some 10), .val (.faddr 1 (.t 3)), (some (9, false))⟩,
    ⟨(some 11), .val (.load none (.t 10)), (some (9, false))⟩,
    ⟨(some 12), .val (.bin .num .lss (.t 11) (.c (.int .i64 0))), (some (9, false))⟩,
    ⟨(some 13), .val (.pick (.t 9) (.c (.bool true)) (.t 12)), none⟩,
    ⟨(some 14), .val (.mov (.t 13)), none⟩,
    ⟨(some 15), .val (.faddr 2 (.t 3)), (some (14, false))⟩,
    ⟨(some 16), .val (.load none (.t 15)), (some (14, false))⟩,
    ⟨(some 17), .val (.bin .num .lss (.t 16) (.c (.int .i64 0))), (some (14, false))⟩,
    ⟨(some 18), .val (.pick (.t 14) (.c (.bool true)) (.t 17)), none⟩,
    ⟨(some 19), .val (.mov (.t 18)), none⟩,
    ⟨(some 20), .val (.faddr 3 (.t 3)), (some (19, false))⟩,
    ⟨(some 21), .val (.load none (.t 20)), (some (19, false))⟩,
    ⟨(some 22), .val (.bin .num .lss (.t 21) (.c (.int .i64 0))), (some (19, false))⟩,
    ⟨(some 23), .val (.pick (.t 19) (.c (.bool true)) (.t 22)), none⟩]
def g40_2 : List Am.Item := [
    ⟨(some 24), .val (.build [.str [], .int .i64 0, .int .i64 0, .int .i64 0, .int .i64 0, .int .i64 0] []), none⟩,
    ⟨none, .store 6 (.t 4) (.t 24), none⟩,
    ⟨(some 5), .val (.mov (.c (.int .i64 1))), none⟩]
def g40_3 : List Am.Item := [
    ⟨(some 25), .val (.mov (.t 0)), none⟩,
    ⟨(some 26), .val (.len 0 (.t 25)), none⟩,
    ⟨(some 27), .val (.faddr 0 (.t 3)), none⟩,
    ⟨(some 28), .val (.load none (.t 27)), none⟩,
    ⟨(some 29), .val (.bin .num .gtr (.t 26) (.t 28)), none⟩]
def g40_4 : List Am.Item := [
    ⟨(some 30), .val (.build [.str [], .int .i64 0, .int .i64 0, .int .i64 0, .int .i64 0, .int .i64 0] []), none⟩,
    ⟨none, .store 6 (.t 4) (.t 30), none⟩,
    ⟨(some 5), .val (.mov (.c (.int .i64 3))), none⟩]
def g40_5 : List Am.Item := [
    ⟨(some 31), .val (.mov (.t 0)), none⟩,
    ⟨(some 32), .val (.mov (.t 0)), none⟩,
    ⟨(some 33), .val (.len 0 (.t 32)), none⟩,
    ⟨(some 34), .val (.faddr 1 (.t 3)), none⟩,
    ⟨(some 35), .val (.load none (.t 34)), none⟩,
    ⟨(some 36), .val (.faddr 2 (.t 3)), none⟩,
    ⟨(some 37), .val (.load none (.t 36)), none⟩,
    ⟨(some 38), .val (.faddr 3 (.t 3)), none⟩,
    ⟨(some 39), .val (.load none (.t 38)), none⟩,
    ⟨(some 40), .val (.build [.str [], .int .i64 0, .int .i64 0, .int .i64 0, .int .i64 0, .int .i64 0] [(0, 1, (.t 31)), (2, 1, (.t 33)), (3, 1, (.t 35)), (4, 1, (.t 37)), (5, 1, (.t 39))]), none⟩,
    ⟨none, .store 6 (.t 4) (.t 40), none⟩,
    ⟨(some 5), .val (.mov (.c (.int .i64 0))), none⟩]
def r40 : RC := .seq (.reg g40_0) (.seq (.seq (.reg g40_1) (.cond (.t 23) (.seq (.reg g40_2) (.ret)) (.skip))) (.seq (.seq (.reg g40_3) (.cond (.t 29) (.seq (.reg g40_4) (.ret)) (.skip))) (.seq (.reg g40_5) (.ret))))
def o40 : List RR := [.cell 4 (some 6), .tmp 5]
theorem k40 : chkC Try.prog 41 r40 (Try.f40.body.getD .skip) = true := by decide +kernel
theorem q40 : chkR Try.prog Try.f40.results.toList o40 = true := by decide +kernel

/- wireschema/wireschemaref02.Sound -/
def g66_0 : List Am.Item := [
    ⟨(some 1), .boxN 1 (.t 0), none⟩,
    ⟨(some 2), .val (.mov (.c (.bool false))), none⟩]
def g66_1 : List Am.Item := [
    ⟨(some 3), .val (.faddr 1 (.t 1)), none⟩,
    ⟨(some 4), .val (.load none (.t 3)), none⟩,
    ⟨(some 5), .val (.bin .num .leq (.c (.int .i64 0)) (.t 4)), none⟩,
    ⟨(some 6), .val (.mov (.t 5)), none⟩,
    ⟨(some 7), .val (.faddr 1 (.t 1)), (some (6, true))⟩,
    ⟨(some 8), .val (.load none (.t 7)), (some (6, true))⟩,
    ⟨(some 9), .val (.faddr 2 (.t 1)), (some (6, true))⟩,
    ⟨(some 10), .val (.load none (.t 9)), (some (6, true))⟩,
    ⟨(some 11), .val (.bin .num .leq (.t 8) (.t 10)), (some (6, true))⟩,
    ⟨(some 12), .val (.pick (.t 6) (.t 11) (.c (.bool false))), none⟩,
    ⟨(some 13), .val (.mov (.t 12)), none⟩,
    ⟨(some 14), .val (.faddr 2 (.t 1)), (some (13, true))⟩,
    ⟨(some 15), .val (.load none (.t 14)), (some (13, true))⟩,
    ⟨(some 16), .val (.faddr 0 (.t 1)), (some (13, true))⟩,
    ⟨(some 17), .val (.load none (.t 16)), (some (13, true))⟩,
    ⟨(some 18), .val (.len 0 (.t 17)), (some (13, true))⟩,
    ⟨(some 19), .val (.bin .num .leq (.t 15) (.t 18)), (some (13, true))⟩,
    ⟨(some 20), .val (.pick (.t 13) (.t 19) (.c (.bool false))), none⟩,
    ⟨(some 2), .val (.mov (.t 20)), none⟩]
def r66 : RC := .seq (.reg g66_0) (.seq (.reg g66_1) (.ret))
def o66 : List RR := [.tmp 2]
theorem k66 : chkC Try.prog 21 r66 (Try.f66.body.getD .skip) = true := by decide +kernel
theorem q66 : chkR Try.prog Try.f66.results.toList o66 = true := by decide +kernel

/- wireschema/wireschemaref02.rest -/
def g56_0 : List Am.Item := [
    ⟨(some 1), .boxN 1 (.t 0), none⟩,
    ⟨(some 2), .val (.mov (.c (.str []))), none⟩]
def g56_1 : List Am.Item := [
    ⟨(some 3), .val (.load (some 6) (.t 1)), none⟩,
    ⟨(some 4), .call (.f 66) [(.t 3)], none⟩,
    ⟨(some 5), .val (.un .not (.t 4)), none⟩]
def g56_2 : List Am.Item := [
    ⟨(some 2), .val (.mov (.c (.str []))), none⟩]
def g56_3 : List Am.Item := [
    ⟨(some 6), .val (.faddr 0 (.t 1)), none⟩,
    ⟨(some 7), .val (.load none (.t 6)), none⟩,
    ⟨(some 8), .val (.faddr 1 (.t 1)), none⟩,
    ⟨(some 9), .val (.load none (.t 8)), none⟩,
    ⟨(some 10), .val (.faddr 2 (.t 1)), none⟩,
    ⟨(some 11), .val (.load none (.t 10)), none⟩,
    ⟨(some 12), .val (.slc none (.t 7) (some (.t 9)) (some (.t 11)) none), none⟩,
    ⟨(some 2), .val (.mov (.t 12)), none⟩]
def r56 : RC := .seq (.reg g56_0) (.seq (.seq (.reg g56_1) (.cond (.t 5) (.seq (.reg g56_2) (.ret)) (.skip))) (.seq (.reg g56_3) (.ret)))
def o56 : List RR := [.tmp 2]
theorem k56 : chkC Try.prog 13 r56 (Try.f56.body.getD .skip) = true := by decide +kernel
theorem q56 : chkR Try.prog Try.f56.results.toList o56 = true := by decide +kernel

/- wireschema/wireschemaref02.Left -/
def g41_0 : List Am.Item := [
    ⟨(some 1), .boxN 1 (.t 0), none⟩,
    ⟨(some 2), .val (.mov (.c (.int .i64 0))), none⟩]
def g41_1 : List Am.Item := [
    ⟨(some 3), .val (.load (some 6) (.t 1)), none⟩,
    ⟨(some 4), .call (.f 56) [(.t 3)], none⟩,
    ⟨(some 5), .val (.len 0 (.t 4)), none⟩,
    ⟨(some 2), .val (.mov (.t 5)), none⟩]
def r41 : RC := .seq (.reg g41_0) (.seq (.reg g41_1) (.ret))
def o41 : List RR := [.tmp 2]
theorem k41 : chkC Try.prog 6 r41 (Try.f41.body.getD .skip) = true := by decide +kernel
theorem q41 : chkR Try.prog Try.f41.results.toList o41 = true := by decide +kernel

/- wireschema/wireschemaref02.behind -/
def g57_0 : List Am.Item := [
    ⟨(some 2), .boxN 2 (.t 0), none⟩,
    ⟨(some 4), .allocN 4 [.str [], .int .i64 0, .int .i64 0, .int .i64 0, .int .i64 0, .int .i64 0], none⟩]
def g57_1 : List Am.Item := [
    ⟨(some 5), .val (.faddr 1 (.t 2)), none⟩,
    ⟨(some 6), .val (.load none (.t 5)), none⟩,
    ⟨(some 7), .val (.mov (.t 1)), none⟩,
    ⟨(some 8), .val (.bin .num .add (.t 6) (.t 7)), none⟩,
    ⟨(some 9), .val (.faddr 1 (.t 2)), none⟩,
    ⟨none, .store 1 (.t 9) (.t 8), none⟩]
def g57_2 : List Am.Item := [
    ⟨(some 10), .val (.load (some 6) (.t 2)), none⟩,
    ⟨none, .store 6 (.t 4) (.t 10), none⟩]
def r57 : RC := .seq (.reg g57_0) (.seq (.reg g57_1) (.seq (.reg g57_2) (.ret)))
def o57 : List RR := [.cell 4 (some 6)]
theorem k57 : chkC Try.prog 11 r57 (Try.f57.body.getD .skip) = true := by decide +kernel
theorem q57 : chkR Try.prog Try.f57.results.toList o57 = true := by decide +kernel

/- wireschema/wireschemaref02.Varint -/
def g33_0 : List Am.Item := [
    ⟨(some 1), .boxN 1 (.t 0), none⟩,
    ⟨(some 2), .val (.mov (.c (.int .u64 0))), none⟩,
    ⟨(some 3), .allocN 3 [.str [], .int .i64 0, .int .i64 0, .int .i64 0, .int .i64 0, .int .i64 0], none⟩,
    ⟨(some 4), .val (.mov (.c (.int .i64 0))), none⟩]
def g33_1 : List Am.Item := [
    ⟨(some 9), .val (.load (some 6) (.t 1)), none⟩,
    ⟨(some 10), .call (.f 56) [(.t 9)], none⟩,
    ⟨(some 11), .call (.f 55) [(.t 10)], none⟩,
    ⟨(some 8), .val (.mov (.t 11)), none⟩,
    ⟨(some 12), .val (.ext (.t 8) 0), none⟩,
    ⟨(some 13), .val (.ext (.t 8) 1), none⟩,
    ⟨(some 14), .val (.ext (.t 8) 2), none⟩,
    ⟨(some 5), .val (.mov (.t 12)), none⟩,
    ⟨(some 6), .val (.mov (.t 13)), none⟩,
    ⟨(some 7), .val (.mov (.t 14)), none⟩]
def g33_2 : List Am.Item := [
    ⟨(some 15), .val (.mov (.t 7)), none⟩,
    ⟨(some 16), .val (.bin .num .neq (.t 15) (.c (.int .i64 0))), none⟩]
def g33_3 : List Am.Item := [
    ⟨(some 17), .val (.loadv 0 1 (some 6) (.t 1)), none⟩,
    ⟨(some 18), .val (.mov (.t 7)), none⟩,
    ⟨(some 2), .val (.mov (.c (.int .u64 0))), none⟩,
    ⟨none, .storev 0 3 6 (.t 3) (.t 17), none⟩,
    ⟨(some 4), .val (.mov (.t 18)), none⟩]
def g33_4 : List Am.Item := [
    ⟨(some 19), .val (.mov (.t 5)), none⟩,
    ⟨(some 20), .val (.load (some 6) (.t 1)), none⟩,
    ⟨(some 21), .val (.mov (.t 6)), none⟩,
    ⟨(some 22), .call (.f 57) [(.t 20), (.t 21)], none⟩,
    ⟨(some 2), .val (.mov (.t 19)), none⟩,
    ⟨none, .store 6 (.t 3) (.t 22), none⟩,
    ⟨(some 4), .val (.mov (.c (.int .i64 0))), none⟩]
def r33 : RC := .seq (.reg g33_0) (.seq (.reg g33_1) (.seq (.seq (.reg g33_2) (.cond (.t 16) (.seq (.draw g33_3) (.ret)) (.skip))) (.seq (.reg g33_4) (.ret))))
def o33 : List RR := [.tmp 2, .cell 3 (some 6), .tmp 4]
theorem k33 : chkC Try.prog 23 r33 (Try.f33.body.getD .skip) = true := by decide +kernel
theorem q33 : chkR Try.prog Try.f33.results.toList o33 = true := by decide +kernel

/- wireschema/wireschemaref02.Fixed -/
def g60_0 : List Am.Item := [
    ⟨(some 1), .boxN 1 (.t 0), none⟩,
    ⟨(some 2), .val (.mov (.c (.int .u64 0))), none⟩,
    ⟨(some 3), .allocN 3 [.str [], .int .i64 0, .int .i64 0, .int .i64 0, .int .i64 0, .int .i64 0], none⟩,
    ⟨(some 4), .val (.mov (.c (.int .i64 0))), none⟩]
def g60_1 : List Am.Item := [
    ⟨(some 8), .val (.load (some 6) (.t 1)), none⟩,
    ⟨(some 9), .call (.f 56) [(.t 8)], none⟩,
    ⟨(some 5), .val (.mov (.t 9)), none⟩]
def g60_2 : List Am.Item := [
    ⟨(some 10), .val (.mov (.t 5)), none⟩,
    ⟨(some 11), .val (.len 0 (.t 10)), none⟩,
    ⟨(some 12), .val (.bin .num .lss (.t 11) (.c (.int .i64 8))), none⟩]
def g60_3 : List Am.Item := [
    ⟨(some 13), .val (.loadv 0 1 (some 6) (.t 1)), none⟩,
    ⟨(some 2), .val (.mov (.c (.int .u64 0))), none⟩,
    ⟨none, .storev 0 3 6 (.t 3) (.t 13), none⟩,
    ⟨(some 4), .val (.mov (.c (.int .i64 4))), none⟩]
def g60_4 : List Am.Item := [
    ⟨(some 6), .val (.mov (.c (.int .u64 0))), none⟩]
def g60_5 : List Am.Item := [
    ⟨(some 7), .val (.mov (.c (.int .i64 7))), none⟩]
def g60_6 : List Am.Item := [
    ⟨(some 14), .val (.mov (.t 7)), none⟩,
    ⟨(some 15), .val (.bin .num .geq (.t 14) (.c (.int .i64 0))), none⟩]
def g60_8 : List Am.Item := [
    ⟨(some 18), .val (.mov (.t 6)), none⟩,
    ⟨(some 19), .val (.bin .num .mul (.t 18) (.c (.int .u64 256))), none⟩,
    ⟨(some 20), .val (.mov (.t 5)), none⟩,
    ⟨(some 21), .val (.mov (.t 7)), none⟩,
    ⟨(some 22), .val (.idx (.t 20) (.t 21)), none⟩,
    ⟨(some 23), .val (.cvi .u64 (.t 22)), none⟩,
    ⟨(some 24), .val (.bin .num .add (.t 19) (.t 23)), none⟩,
    ⟨(some 6), .val (.mov (.t 24)), none⟩]
def g60_7 : List Am.Item := [
    ⟨(some 16), .val (.mov (.t 7)), none⟩,
    ⟨(some 17), .val (.bin .num .sub (.t 16) (.c (.int .i64 1))), none⟩,
    ⟨(some 7), .val (.mov (.t 17)), none⟩]
def l60_0 : RC := .seq (.seq (.reg g60_6) (.cond (.t 15) (.skip) (.exit 0))) (.seq (.block 1 (.reg g60_8)) (.reg g60_7))
def g60_9 : List Am.Item := [
    ⟨(some 25), .val (.mov (.t 6)), none⟩,
    ⟨(some 26), .val (.load (some 6) (.t 1)), none⟩,
    ⟨(some 27), .call (.f 57) [(.t 26), (.c (.int .i64 8))], none⟩,
    ⟨(some 2), .val (.mov (.t 25)), none⟩,
    ⟨none, .store 6 (.t 3) (.t 27), none⟩,
    ⟨(some 4), .val (.mov (.c (.int .i64 0))), none⟩]
def r60 : RC := .seq (.reg g60_0) (.seq (.reg g60_1) (.seq (.seq (.reg g60_2) (.cond (.t 12) (.seq (.draw g60_3) (.ret)) (.skip))) (.seq (.reg g60_4) (.seq (.seq (.reg g60_5) (.block 0 (.loop l60_0))) (.seq (.reg g60_9) (.ret))))))
def o60 : List RR := [.tmp 2, .cell 3 (some 6), .tmp 4]
theorem k60 : chkC Try.prog 28 r60 (Try.f60.body.getD .skip) = true := by decide +kernel
theorem q60 : chkR Try.prog Try.f60.results.toList o60 = true := by decide +kernel

/- wireschema/wireschemaref02.Spend -/
def g36_0 : List Am.Item := [
    ⟨(some 2), .boxN 2 (.t 0), none⟩,
    ⟨(some 4), .allocN 4 [.str [], .int .i64 0, .int .i64 0, .int .i64 0, .int .i64 0, .int .i64 0], none⟩,
    ⟨(some 5), .val (.mov (.c (.int .i64 0))), none⟩]
def g36_1 : List Am.Item := [
    ⟨(some 6), .val (.mov (.t 1)), none⟩,
    ⟨(some 7), .val (.bin .num .lss (.t 6) (.c (.int .i64 0))), none⟩]
def g36_2 : List Am.Item := [
    ⟨(some 8), .val (.load (some 6) (.t 2)), none⟩,
    ⟨none, .store 6 (.t 4) (.t 8), none⟩,
    ⟨(some 5), .val (.mov (.c (.int .i64 1))), none⟩]
def g36_3 : List Am.Item := [
    ⟨(some 9), .val (.mov (.t 1)), none⟩,
    ⟨(some 10), .val (.faddr 4 (.t 2)), none⟩,
    ⟨(some 11), .val (.load none (.t 10)), none⟩,
    ⟨(some 12), .val (.bin .num .gtr (.t 9) (.t 11)), none⟩]
def g36_4 : List Am.Item := [
    ⟨(some 13), .val (.load (some 6) (.t 2)), none⟩,
    ⟨none, .store 6 (.t 4) (.t 13), none⟩,
    ⟨(some 5), .val (.mov (.c (.int .i64 3))), none⟩]
def g36_5 : List Am.Item := [
    ⟨(some 14), .val (.faddr 4 (.t 2)), none⟩,
    ⟨(some 15), .val (.load none (.t 14)), none⟩,
    ⟨(some 16), .val (.mov (.t 1)), none⟩,
    ⟨(some 17), .val (.bin .num .sub (.t 15) (.t 16)), none⟩,
    ⟨(some 18), .val (.faddr 4 (.t 2)), none⟩,
    ⟨none, .store 1 (.t 18) (.t 17), none⟩]
def g36_6 : List Am.Item := [
    ⟨(some 19), .val (.load (some 6) (.t 2)), none⟩,
    ⟨none, .store 6 (.t 4) (.t 19), none⟩,
    ⟨(some 5), .val (.mov (.c (.int .i64 0))), none⟩]
def r36 : RC := .seq (.reg g36_0) (.seq (.seq (.reg g36_1) (.cond (.t 7) (.seq (.reg g36_2) (.ret)) (.skip))) (.seq (.seq (.reg g36_3) (.cond (.t 12) (.seq (.reg g36_4) (.ret)) (.skip))) (.seq (.reg g36_5) (.seq (.reg g36_6) (.ret)))))
def o36 : List RR := [.cell 4 (some 6), .tmp 5]
theorem k36 : chkC Try.prog 20 r36 (Try.f36.body.getD .skip) = true := by decide +kernel
theorem q36 : chkR Try.prog Try.f36.results.toList o36 = true := by decide +kernel

/- wireschema/unknown.numeric -/
def g42_0 : List Am.Item := [
    ⟨(some 2), .val (.mov (.c (.bool false))), none⟩]
def g42_1 : List Am.Item := [
    ⟨(some 3), .val (.mov (.t 0)), none⟩,
    ⟨(some 4), .val (.bin .num .eql (.t 3) (.c (.int .i64 0))), none⟩,
    ⟨(some 5), .val (.mov (.t 4)), none⟩,
    ⟨(some 6), .val (.mov (.t 0)), (some (5, false))⟩,
    ⟨(some 7), .val (.bin .num .eql (.t 6) (.c (.int .i64 1))), (some (5, false))⟩,
    ⟨(some 8), .val (.pick (.t 5) (.c (.bool true)) (.t 7)), none⟩,
    ⟨(some 9), .val (.mov (.t 8)), none⟩,
    ⟨(some 10), .val (.mov (.t 0)), (some (9, false))⟩,
    ⟨(some 11), .val (.bin .num .eql (.t 10) (.c (.int .i64 2))), (some (9, false))⟩,
    ⟨(some 12), .val (.pick (.t 9) (.c (.bool true)) (.t 11)), none⟩,
    ⟨(some 2), .val (.mov (.t 12)), none⟩]
def r42 : RC := .seq (.reg g42_0) (.seq (.reg g42_1) (.ret))
def o42 : List RR := [.tmp 2]
theorem k42 : chkC Try.prog 13 r42 (Try.f42.body.getD .skip) = true := by decide +kernel
theorem q42 : chkR Try.prog Try.f42.results.toList o42 = true := by decide +kernel

/- wireschema/unknown.Tag -/
def g10_0 : List Am.Item := [
    ⟨(some 4), .val (.mov (.c (.str []))), none⟩,
    ⟨(some 5), .val (.mov (.c (.int .i64 0))), none⟩]
def g10_1 : List Am.Item := [
    ⟨(some 6), .val (.mov (.t 0)), none⟩,
    ⟨(some 7), .val (.bin .num .lss (.t 6) (.c (.int .i64 1))), none⟩,
    ⟨(some 8), .val (.mov (.t 7)), none⟩,
    ⟨(some 9), .val (.mov (.t 0)), (some (8, false))⟩,
    ⟨(some 10), .val (.bin .num .gtr (.t 9) (.c (.int .i64 65535))), (some (8, false))⟩,
    ⟨(some 11), .val (.pick (.t 8) (.c (.bool true)) (.t 10)), none⟩,
    ⟨(some 12), .val (.mov (.t 11)), none⟩,
    ⟨(some 13), .val (.mov (.t 1)), (some (12, false))⟩,
    ⟨(some 14), .val (.bin .num .lss (.t 13) (.c (.int .i64 0))), (some (12, false))⟩,
    ⟨(some 15), .val (.pick (.t 12) (.c (.bool true)) (.t 14)), none⟩,
    ⟨(some 16), .val (.mov (.t 15)), none⟩,
    ⟨(some 17), .val (.mov (.t 1)), (some (16, false))⟩,
    ⟨(some 18), .val (.bin .num .gtr (.t 17) (.c (.int .i64 6))), (some (16, false))⟩,
    ⟨(some 19), .val (.pick (.t 16) (.c (.bool true)) (.t 18)), none⟩]
def g10_2 : List Am.Item := [
    ⟨(some 4), .val (.mov (.c (.str []))), none⟩,
    ⟨(some 5), .val (.mov (.c (.int .i64 6))), none⟩]
def g10_3 : List Am.Item := [
    ⟨(some 20), .val (.mov (.t 0)), none⟩,
    ⟨(some 21), .val (.bin .num .mul (.t 20) (.c (.int .i64 8))), none⟩,
    ⟨(some 22), .val (.mov (.t 1)), none⟩,
    ⟨(some 23), .val (.bin .num .add (.t 21) (.t 22)), none⟩,
    ⟨(some 24), .val (.cvi .u64 (.t 23)), none⟩,
    ⟨(some 25), .call (.f 30) [(.t 24)], none⟩,
    ⟨(some 4), .val (.mov (.t 25)), none⟩,
    ⟨(some 5), .val (.mov (.c (.int .i64 0))), none⟩]
def r10 : RC := .seq (.reg g10_0) (.seq (.seq (.reg g10_1) (.cond (.t 19) (.seq (.reg g10_2) (.ret)) (.skip))) (.seq (.reg g10_3) (.ret)))
def o10 : List RR := [.tmp 4, .tmp 5]
theorem k10 : chkC Try.prog 26 r10 (Try.f10.body.getD .skip) = true := by decide +kernel
theorem q10 : chkR Try.prog Try.f10.results.toList o10 = true := by decide +kernel

/- wireschema/unknown.TakeTag -/
def g12_0 : List Am.Item := [
    ⟨(some 1), .boxN 1 (.t 0), none⟩,
    ⟨(some 2), .val (.mov (.c (.int .i64 0))), none⟩,
    ⟨(some 3), .val (.mov (.c (.int .i64 0))), none⟩,
    ⟨(some 4), .allocN 4 [.str [], .int .i64 0, .int .i64 0, .int .i64 0, .int .i64 0, .int .i64 0], none⟩,
    ⟨(some 5), .val (.mov (.c (.int .i64 0))), none⟩]
def g12_1 : List Am.Item := [
    ⟨(some 10), .val (.load (some 6) (.t 1)), none⟩,
    ⟨(some 11), .call (.f 32) [(.t 10)], none⟩,
    ⟨(some 9), .val (.mov (.t 11)), none⟩,
    ⟨(some 12), .val (.ext (.t 9) 0), none⟩,
    ⟨(some 13), .val (.ext (.t 9) 1), none⟩,
    ⟨(some 14), .val (.ext (.t 9) 2), none⟩,
    ⟨(some 7), .allocN 7 [.str [], .int .i64 0, .int .i64 0, .int .i64 0, .int .i64 0, .int .i64 0], none⟩,
    ⟨(some 6), .val (.mov (.t 12)), none⟩,
    ⟨none, .store 6 (.t 7) (.t 13), none⟩,
    ⟨(some 8), .val (.mov (.t 14)), none⟩]
def g12_2 : List Am.Item := [
    ⟨(some 16), .val (.mov (.t 8)), none⟩,
    ⟨(some 17), .val (.bin .num .neq (.t 16) (.c (.int .i64 0))), none⟩,
    ⟨(some 15), .val (.mov (.t 17)), none⟩]
def g12_3 : List Am.Item := [
    ⟨(some 18), .val (.loadv 0 1 (some 6) (.t 1)), none⟩,
    ⟨(some 19), .val (.mov (.t 8)), none⟩,
    ⟨(some 2), .val (.mov (.c (.int .i64 0))), none⟩,
    ⟨(some 3), .val (.mov (.c (.int .i64 0))), none⟩,
    ⟨none, .storev 0 4 6 (.t 4) (.t 18), none⟩,
    ⟨(some 5), .val (.mov (.t 19)), none⟩]
def g12_4 : List Am.Item := [
    ⟨(some 21), .val (.mov (.t 6)), none⟩,
    ⟨(some 22), .val (.bin .num .rem (.t 21) (.c (.int .u64 8))), none⟩,
    ⟨(some 23), .val (.bin .num .eql (.t 22) (.c (.int .u64 7))), none⟩,
    ⟨(some 20), .val (.mov (.t 23)), none⟩]
def g12_5 : List Am.Item := [
    ⟨(some 24), .val (.loadv 0 1 (some 6) (.t 1)), none⟩,
    ⟨(some 2), .val (.mov (.c (.int .i64 0))), none⟩,
    ⟨(some 3), .val (.mov (.c (.int .i64 0))), none⟩,
    ⟨none, .storev 0 4 6 (.t 4) (.t 24), none⟩,
    ⟨(some 5), .val (.mov (.c (.int .i64 5))), none⟩]
def g12_6 : List Am.Item := [
    ⟨(some 26), .val (.mov (.t 6)), none⟩,
    ⟨(some 27), .val (.bin .num .quo (.t 26) (.c (.int .u64 8))), none⟩,
    ⟨(some 28), .val (.bin .num .lss (.t 27) (.c (.int .u64 1))), none⟩,
    ⟨(some 29), .val (.mov (.t 28)), none⟩,
    ⟨(some 30), .val (.mov (.t 6)), (some (29, false))⟩,
    ⟨(some 31), .val (.bin .num .quo (.t 30) (.c (.int .u64 8))), (some (29, false))⟩,
    ⟨(some 32), .val (.bin .num .gtr (.t 31) (.c (.int .u64 65535))), (some (29, false))⟩,
    ⟨(some 33), .val (.pick (.t 29) (.c (.bool true)) (.t 32)), none⟩,
    ⟨(some 25), .val (.mov (.t 33)), none⟩]
def g12_7 : List Am.Item := [
    ⟨(some 34), .val (.loadv 0 1 (some 6) (.t 1)), none⟩,
    ⟨(some 2), .val (.mov (.c (.int .i64 0))), none⟩,
    ⟨(some 3), .val (.mov (.c (.int .i64 0))), none⟩,
    ⟨none, .storev 0 4 6 (.t 4) (.t 34), none⟩,
    ⟨(some 5), .val (.mov (.c (.int .i64 6))), none⟩]
def g12_8 : List Am.Item := [
    ⟨(some 35), .val (.mov (.t 6)), none⟩,
    ⟨(some 36), .val (.bin .num .quo (.t 35) (.c (.int .u64 8))), none⟩,
    ⟨(some 37), .val (.cvi .i64 (.t 36)), none⟩,
    ⟨(some 38), .val (.mov (.t 6)), none⟩,
    ⟨(some 39), .val (.bin .num .rem (.t 38) (.c (.int .u64 8))), none⟩,
    ⟨(some 40), .val (.cvi .i64 (.t 39)), none⟩,
    ⟨(some 41), .val (.loadv 0 7 (some 6) (.t 7)), none⟩,
    ⟨(some 2), .val (.mov (.t 37)), none⟩,
    ⟨(some 3), .val (.mov (.t 40)), none⟩,
    ⟨none, .storev 0 4 6 (.t 4) (.t 41), none⟩,
    ⟨(some 5), .val (.mov (.c (.int .i64 0))), none⟩]
def r12 : RC := .seq (.reg g12_0) (.seq (.reg g12_1) (.seq (.block 0 (.seq (.reg g12_2) (.cond (.t 15) (.seq (.draw g12_3) (.ret)) (.seq (.reg g12_4) (.cond (.t 20) (.seq (.draw g12_5) (.ret)) (.seq (.reg g12_6) (.cond (.t 25) (.seq (.draw g12_7) (.ret)) (.skip)))))))) (.seq (.draw g12_8) (.ret))))
def o12 : List RR := [.tmp 2, .tmp 3, .cell 4 (some 6), .tmp 5]
theorem k12 : chkC Try.prog 42 r12 (Try.f12.body.getD .skip) = true := by decide +kernel
theorem q12 : chkR Try.prog Try.f12.results.toList o12 = true := by decide +kernel

/- wireschema/unknown.data -/
def g59_0 : List Am.Item := [
    ⟨(some 2), .boxN 2 (.t 0), none⟩,
    ⟨(some 4), .val (.mov (.c (.str []))), none⟩,
    ⟨(some 5), .allocN 5 [.str [], .int .i64 0, .int .i64 0, .int .i64 0, .int .i64 0, .int .i64 0], none⟩,
    ⟨(some 6), .val (.mov (.c (.int .i64 0))), none⟩]
def g59_1 : List Am.Item := [
    ⟨(some 14), .val (.load (some 6) (.t 2)), none⟩,
    ⟨(some 15), .call (.f 32) [(.t 14)], none⟩,
    ⟨(some 13), .val (.mov (.t 15)), none⟩,
    ⟨(some 16), .val (.ext (.t 13) 0), none⟩,
    ⟨(some 17), .val (.ext (.t 13) 1), none⟩,
    ⟨(some 18), .val (.ext (.t 13) 2), none⟩,
    ⟨(some 8), .allocN 8 [.str [], .int .i64 0, .int .i64 0, .int .i64 0, .int .i64 0, .int .i64 0], none⟩,
    ⟨(some 7), .val (.mov (.t 16)), none⟩,
    ⟨none, .store 6 (.t 8) (.t 17), none⟩,
    ⟨(some 9), .val (.mov (.t 18)), none⟩]
def g59_2 : List Am.Item := [
    ⟨(some 19), .val (.mov (.t 9)), none⟩,
    ⟨(some 20), .val (.bin .num .neq (.t 19) (.c (.int .i64 0))), none⟩]
def g59_3 : List Am.Item := [
    ⟨(some 21), .val (.loadv 0 2 (some 6) (.t 2)), none⟩,
    ⟨(some 22), .val (.mov (.t 9)), none⟩,
    ⟨(some 4), .val (.mov (.c (.str []))), none⟩,
    ⟨none, .storev 0 5 6 (.t 5) (.t 21), none⟩,
    ⟨(some 6), .val (.mov (.t 22)), none⟩]
def g59_4 : List Am.Item := [
    ⟨(some 10), .val (.mov (.c (.int .i64 65536))), none⟩]
def g59_5 : List Am.Item := [
    ⟨(some 23), .val (.mov (.t 1)), none⟩,
    ⟨(some 24), .val (.bin .num .eql (.t 23) (.c (.int .i64 3))), none⟩]
def g59_6 : List Am.Item := [
    ⟨(some 25), .val (.faddr 5 (.t 2)), none⟩,
    ⟨(some 26), .val (.load none (.t 25)), none⟩,
    ⟨(some 10), .val (.mov (.t 26)), none⟩]
def g59_7 : List Am.Item := [
    ⟨(some 27), .val (.mov (.t 7)), none⟩,
    ⟨(some 28), .val (.load (some 6) (.t 8)), none⟩,
    ⟨(some 29), .call (.f 68) [(.t 28)], none⟩,
    ⟨(some 30), .val (.cvi .u64 (.t 29)), none⟩,
    ⟨(some 31), .val (.bin .num .gtr (.t 27) (.t 30)), none⟩]
def g59_8 : List Am.Item := [
    ⟨(some 32), .val (.loadv 0 2 (some 6) (.t 2)), none⟩,
    ⟨(some 4), .val (.mov (.c (.str []))), none⟩,
    ⟨none, .storev 0 5 6 (.t 5) (.t 32), none⟩,
    ⟨(some 6), .val (.mov (.c (.int .i64 4))), none⟩]
def g59_9 : List Am.Item := [
    ⟨(some 33), .val (.mov (.t 7)), none⟩,
    ⟨(some 34), .val (.cvi .i64 (.t 33)), none⟩,
    ⟨(some 11), .val (.mov (.t 34)), none⟩]
def g59_10 : List Am.Item := [
    ⟨(some 35), .val (.mov (.t 11)), none⟩,
    ⟨(some 36), .val (.mov (.t 10)), none⟩,
    ⟨(some 37), .val (.bin .num .gtr (.t 35) (.t 36)), none⟩]
def g59_11 : List Am.Item := [
    ⟨(some 38), .val (.loadv 0 2 (some 6) (.t 2)), none⟩,
    ⟨(some 4), .val (.mov (.c (.str []))), none⟩,
    ⟨none, .storev 0 5 6 (.t 5) (.t 38), none⟩,
    ⟨(some 6), .val (.mov (.c (.int .i64 3))), none⟩]
def g59_12 : List Am.Item := [
    ⟨(some 39), .val (.faddr 1 (.t 8)), none⟩,
    ⟨(some 40), .val (.load none (.t 39)), none⟩,
    ⟨(some 12), .val (.mov (.t 40)), none⟩]
def g59_13 : List Am.Item := [
    ⟨(some 41), .val (.faddr 1 (.t 8)), none⟩,
    ⟨(some 42), .val (.load none (.t 41)), none⟩,
    ⟨(some 43), .val (.mov (.t 11)), none⟩,
    ⟨(some 44), .val (.bin .num .add (.t 42) (.t 43)), none⟩,
    ⟨(some 45), .val (.faddr 1 (.t 8)), none⟩,
    ⟨none, .store 1 (.t 45) (.t 44), none⟩]
def g59_14 : List Am.Item := [
    ⟨(some 46), .val (.faddr 0 (.t 8)), none⟩,
    ⟨(some 47), .val (.loadv 0 8 none (.t 46)), none⟩,
    ⟨(some 48), .val (.mov (.t 12)), none⟩,
    ⟨(some 49), .val (.faddr 1 (.t 8)), none⟩,
    ⟨(some 50), .val (.loadv 0 8 none (.t 49)), none⟩,
    ⟨(some 51), .val (.slc none (.t 47) (some (.t 48)) (some (.t 50)) none), none⟩,
    ⟨(some 52), .val (.loadv 0 8 (some 6) (.t 8)), none⟩,
    ⟨(some 4), .val (.mov (.t 51)), none⟩,
    ⟨none, .storev 0 5 6 (.t 5) (.t 52), none⟩,
    ⟨(some 6), .val (.mov (.c (.int .i64 0))), none⟩]
def r59 : RC := .seq (.reg g59_0) (.seq (.reg g59_1) (.seq (.seq (.reg g59_2) (.cond (.t 20) (.seq (.draw g59_3) (.ret)) (.skip))) (.seq (.reg g59_4) (.seq (.seq (.reg g59_5) (.cond (.t 24) (.reg g59_6) (.skip))) (.seq (.seq (.reg g59_7) (.cond (.t 31) (.seq (.draw g59_8) (.ret)) (.skip))) (.seq (.reg g59_9) (.seq (.seq (.reg g59_10) (.cond (.t 37) (.seq (.draw g59_11) (.ret)) (.skip))) (.seq (.reg g59_12) (.seq (.reg g59_13) (.seq (.draw g59_14) (.ret)))))))))))
def o59 : List RR := [.tmp 4, .cell 5 (some 6), .tmp 6]
theorem k59 : chkC Try.prog 53 r59 (Try.f59.body.getD .skip) = true := by decide +kernel
theorem q59 : chkR Try.prog Try.f59.results.toList o59 = true := by decide +kernel

/- wireschema/unknown.contents -/
def g35_0 : List Am.Item := [
    ⟨(some 2), .boxN 2 (.t 0), none⟩,
    ⟨(some 4), .allocN 4 [.str [], .int .i64 0, .int .i64 0, .int .i64 0, .int .i64 0, .int .i64 0], none⟩,
    ⟨(some 5), .val (.mov (.c (.int .i64 0))), none⟩]
def g35_1 : List Am.Item := [
    ⟨(some 6), .val (.mov (.c (.int .i64 0))), none⟩]
def g35_2 : List Am.Item := [
    ⟨(some 7), .val (.mov (.t 1)), none⟩,
    ⟨(some 8), .val (.nilck (.t 7)), none⟩,
    ⟨(some 9), .val (.faddr 1 (.t 8)), none⟩,
    ⟨(some 10), .val (.load none (.t 9)), none⟩]
def g35_4 : List Am.Item := [
    ⟨(some 25), .val (.bin .num .eql (.t 10) (.c (.int .i64 0))), none⟩,
    ⟨(some 24), .val (.mov (.t 25)), none⟩]
def g35_5 : List Am.Item := [
    ⟨(some 26), .val (.bin .num .eql (.t 10) (.c (.int .i64 1))), none⟩,
    ⟨(some 24), .val (.mov (.t 26)), none⟩]
def g35_6 : List Am.Item := [
    ⟨(some 28), .val (.mov (.t 1)), none⟩,
    ⟨(some 29), .val (.load (some 6) (.t 2)), none⟩,
    ⟨(some 30), .call (.f 32) [(.t 29)], none⟩,
    ⟨(some 27), .val (.mov (.t 30)), none⟩,
    ⟨(some 31), .val (.ext (.t 27) 0), none⟩,
    ⟨(some 32), .val (.ext (.t 27) 1), none⟩,
    ⟨(some 33), .val (.ext (.t 27) 2), none⟩,
    ⟨(some 34), .val (.nilck (.t 28)), none⟩,
    ⟨(some 35), .val (.faddr 2 (.t 34)), none⟩,
    ⟨none, .store 1 (.t 35) (.t 31), none⟩,
    ⟨none, .store 6 (.t 2) (.t 32), none⟩,
    ⟨(some 6), .val (.mov (.t 33)), none⟩]
def g35_7 : List Am.Item := [
    ⟨(some 37), .val (.bin .num .eql (.t 10) (.c (.int .i64 2))), none⟩,
    ⟨(some 36), .val (.mov (.t 37)), none⟩]
def g35_8 : List Am.Item := [
    ⟨(some 39), .val (.mov (.t 1)), none⟩,
    ⟨(some 40), .val (.load (some 6) (.t 2)), none⟩,
    ⟨(some 41), .call (.f 58) [(.t 40)], none⟩,
    ⟨(some 38), .val (.mov (.t 41)), none⟩,
    ⟨(some 42), .val (.ext (.t 38) 0), none⟩,
    ⟨(some 43), .val (.ext (.t 38) 1), none⟩,
    ⟨(some 44), .val (.ext (.t 38) 2), none⟩,
    ⟨(some 45), .val (.nilck (.t 39)), none⟩,
    ⟨(some 46), .val (.faddr 2 (.t 45)), none⟩,
    ⟨none, .store 1 (.t 46) (.t 42), none⟩,
    ⟨none, .store 6 (.t 2) (.t 43), none⟩,
    ⟨(some 6), .val (.mov (.t 44)), none⟩]
def g35_3 : List Am.Item := [
    ⟨(some 12), .val (.mov (.t 1)), none⟩,
    ⟨(some 13), .val (.loadv 0 2 (some 6) (.t 2)), none⟩,
    ⟨(some 14), .val (.mov (.t 1)), none⟩,
    ⟨(some 15), .val (.nilck (.t 14)), none⟩,
    ⟨(some 16), .val (.faddr 1 (.t 15)), none⟩,
    ⟨(some 17), .val (.load none (.t 16)), none⟩,
    ⟨(some 18), .call (.f 59) [(.t 13), (.t 17)], none⟩,
    ⟨(some 11), .val (.mov (.t 18)), none⟩,
    ⟨(some 19), .val (.ext (.t 11) 0), none⟩,
    ⟨(some 20), .val (.ext (.t 11) 1), none⟩,
    ⟨(some 21), .val (.ext (.t 11) 2), none⟩,
    ⟨(some 22), .val (.nilck (.t 12)), none⟩,
    ⟨(some 23), .val (.faddr 3 (.t 22)), none⟩,
    ⟨none, .store 1 (.t 23) (.t 19), none⟩,
    ⟨none, .storev 0 2 6 (.t 2) (.t 20), none⟩,
    ⟨(some 6), .val (.mov (.t 21)), none⟩]
def g35_9 : List Am.Item := [
    ⟨(some 47), .val (.load (some 6) (.t 2)), none⟩,
    ⟨(some 48), .val (.mov (.t 6)), none⟩,
    ⟨none, .store 6 (.t 4) (.t 47), none⟩,
    ⟨(some 5), .val (.mov (.t 48)), none⟩]
def r35 : RC := .seq (.reg g35_0) (.seq (.reg g35_1) (.seq (.seq (.reg g35_2) (.block 0 (.seq (.seq (.reg g35_4) (.cond (.t 24) (.skip) (.reg g35_5))) (.cond (.t 24) (.reg g35_6) (.seq (.reg g35_7) (.cond (.t 36) (.reg g35_8) (.draw g35_3))))))) (.seq (.reg g35_9) (.ret))))
def o35 : List RR := [.cell 4 (some 6), .tmp 5]
theorem k35 : chkC Try.prog 49 r35 (Try.f35.body.getD .skip) = true := by decide +kernel
theorem q35 : chkR Try.prog Try.f35.results.toList o35 = true := by decide +kernel

/- wireschema/unknown.Next -/
def g15_0 : List Am.Item := [
    ⟨(some 1), .boxN 1 (.t 0), none⟩,
    ⟨(some 2), .allocN 2 [.int .i64 0, .int .i64 0, .int .u64 0, .str []], none⟩,
    ⟨(some 3), .allocN 3 [.str [], .int .i64 0, .int .i64 0, .int .i64 0, .int .i64 0, .int .i64 0], none⟩,
    ⟨(some 4), .val (.mov (.c (.int .i64 0))), none⟩]
def g15_1 : List Am.Item := [
    ⟨(some 11), .val (.load (some 6) (.t 1)), none⟩,
    ⟨(some 12), .call (.f 12) [(.t 11)], none⟩,
    ⟨(some 10), .val (.mov (.t 12)), none⟩,
    ⟨(some 13), .val (.ext (.t 10) 0), none⟩,
    ⟨(some 14), .val (.ext (.t 10) 1), none⟩,
    ⟨(some 15), .val (.ext (.t 10) 2), none⟩,
    ⟨(some 16), .val (.ext (.t 10) 3), none⟩,
    ⟨(some 7), .allocN 7 [.str [], .int .i64 0, .int .i64 0, .int .i64 0, .int .i64 0, .int .i64 0], none⟩,
    ⟨(some 5), .val (.mov (.t 13)), none⟩,
    ⟨(some 6), .val (.mov (.t 14)), none⟩,
    ⟨none, .store 6 (.t 7) (.t 15), none⟩,
    ⟨(some 8), .val (.mov (.t 16)), none⟩]
def g15_2 : List Am.Item := [
    ⟨(some 17), .val (.mov (.t 8)), none⟩,
    ⟨(some 18), .val (.bin .num .neq (.t 17) (.c (.int .i64 0))), none⟩]
def g15_3 : List Am.Item := [
    ⟨(some 19), .val (.build [.int .i64 0, .int .i64 0, .int .u64 0, .str []] []), none⟩,
    ⟨(some 20), .val (.loadv 0 1 (some 6) (.t 1)), none⟩,
    ⟨(some 21), .val (.mov (.t 8)), none⟩,
    ⟨none, .storev 0 2 4 (.t 2) (.t 19), none⟩,
    ⟨none, .storev 0 3 6 (.t 3) (.t 20), none⟩,
    ⟨(some 4), .val (.mov (.t 21)), none⟩]
def g15_4 : List Am.Item := [
    ⟨(some 23), .val (.load (some 6) (.t 7)), none⟩,
    ⟨(some 24), .call (.f 34) [(.t 23), (.c (.int .i64 1))], none⟩,
    ⟨(some 22), .val (.mov (.t 24)), none⟩,
    ⟨(some 25), .val (.ext (.t 22) 0), none⟩,
    ⟨(some 26), .val (.ext (.t 22) 1), none⟩,
    ⟨none, .store 6 (.t 7) (.t 25), none⟩,
    ⟨(some 8), .val (.mov (.t 26)), none⟩]
def g15_5 : List Am.Item := [
    ⟨(some 27), .val (.mov (.t 8)), none⟩,
    ⟨(some 28), .val (.bin .num .neq (.t 27) (.c (.int .i64 0))), none⟩]
def g15_6 : List Am.Item := [
    ⟨(some 29), .val (.build [.int .i64 0, .int .i64 0, .int .u64 0, .str []] []), none⟩,
    ⟨(some 30), .val (.loadv 0 1 (some 6) (.t 1)), none⟩,
    ⟨(some 31), .val (.mov (.t 8)), none⟩,
    ⟨none, .storev 0 2 4 (.t 2) (.t 29), none⟩,
    ⟨none, .storev 0 3 6 (.t 3) (.t 30), none⟩,
    ⟨(some 4), .val (.mov (.t 31)), none⟩]
def g15_7 : List Am.Item := [
    ⟨(some 32), .val (.mov (.t 5)), none⟩,
    ⟨(some 33), .val (.mov (.t 6)), none⟩,
    ⟨(some 34), .val (.build [.int .i64 0, .int .i64 0, .int .u64 0, .str []] [(0, 1, (.t 32)), (1, 1, (.t 33))]), none⟩,
    ⟨(some 9), .allocN 9 [.int .i64 0, .int .i64 0, .int .u64 0, .str []], none⟩,
    ⟨none, .store 4 (.t 9) (.t 34), none⟩]
def g15_8 : List Am.Item := [
    ⟨(some 36), .val (.load (some 6) (.t 7)), none⟩,
    ⟨(some 37), .callF (.f 35) [(.t 36), (.t 9)], none⟩,
    ⟨(some 35), .val (.mov (.t 37)), none⟩,
    ⟨(some 38), .val (.ext (.t 35) 0), none⟩,
    ⟨(some 39), .val (.ext (.t 35) 1), none⟩,
    ⟨none, .store 6 (.t 7) (.t 38), none⟩,
    ⟨(some 8), .val (.mov (.t 39)), none⟩]
def g15_9 : List Am.Item := [
    ⟨(some 40), .val (.mov (.t 8)), none⟩,
    ⟨(some 41), .val (.bin .num .neq (.t 40) (.c (.int .i64 0))), none⟩]
def g15_10 : List Am.Item := [
    ⟨(some 42), .val (.build [.int .i64 0, .int .i64 0, .int .u64 0, .str []] []), none⟩,
    ⟨(some 43), .val (.loadv 0 1 (some 6) (.t 1)), none⟩,
    ⟨(some 44), .val (.mov (.t 8)), none⟩,
    ⟨none, .storev 0 2 4 (.t 2) (.t 42), none⟩,
    ⟨none, .storev 0 3 6 (.t 3) (.t 43), none⟩,
    ⟨(some 4), .val (.mov (.t 44)), none⟩]
def g15_11 : List Am.Item := [
    ⟨(some 45), .val (.loadv 0 9 (some 4) (.t 9)), none⟩,
    ⟨(some 46), .val (.loadv 0 7 (some 6) (.t 7)), none⟩,
    ⟨none, .storev 0 2 4 (.t 2) (.t 45), none⟩,
    ⟨none, .storev 0 3 6 (.t 3) (.t 46), none⟩,
    ⟨(some 4), .val (.mov (.c (.int .i64 0))), none⟩]
def r15 : RC := .seq (.reg g15_0) (.seq (.reg g15_1) (.seq (.seq (.reg g15_2) (.cond (.t 18) (.seq (.draw g15_3) (.ret)) (.skip))) (.seq (.seq (.reg g15_4) (.seq (.reg g15_5) (.cond (.t 28) (.seq (.draw g15_6) (.ret)) (.skip)))) (.seq (.reg g15_7) (.seq (.seq (.reg g15_8) (.seq (.reg g15_9) (.cond (.t 41) (.seq (.draw g15_10) (.ret)) (.skip)))) (.seq (.draw g15_11) (.ret)))))))
def o15 : List RR := [.cell 2 (some 4), .cell 3 (some 6), .tmp 4]
theorem k15 : chkC Try.prog 47 r15 (Try.f15.body.getD .skip) = true := by decide +kernel
theorem q15 : chkR Try.prog Try.f15.results.toList o15 = true := by decide +kernel

/- (*wireschema/unknown.scanner).next -/
def g39_0 : List Am.Item := [
    ⟨(some 1), .boxN 1 (.t 0), none⟩,
    ⟨(some 2), .allocN 2 [.int .i64 0, .int .i64 0, .int .u64 0, .str []], none⟩,
    ⟨(some 3), .val (.mov (.c (.int .i64 0))), none⟩]
def g39_1 : List Am.Item := [
    ⟨(some 5), .val (.load none (.t 1)), none⟩,
    ⟨(some 6), .val (.nilck (.t 5)), none⟩,
    ⟨(some 7), .val (.faddr 0 (.t 6)), none⟩,
    ⟨(some 8), .val (.faddr 1 (.t 7)), none⟩,
    ⟨(some 9), .val (.load none (.t 8)), none⟩,
    ⟨(some 4), .allocN 4 [.int .i64 0], none⟩,
    ⟨none, .store 1 (.t 4) (.t 9), none⟩]
def g39_2 : List Am.Item := [
    ⟨(some 10), .val (.mkfn (.func 61) [] [(.t 1), (.t 4)]), none⟩,
    ⟨none, .dfr (.t 10) [], none⟩]
def g39_3 : List Am.Item := [
    ⟨(some 12), .val (.loadv 0 1 none (.t 1)), none⟩,
    ⟨(some 13), .val (.loadv 0 1 none (.t 1)), none⟩,
    ⟨(some 14), .val (.nilck (.t 13)), none⟩,
    ⟨(some 15), .val (.faddr 0 (.t 14)), none⟩,
    ⟨(some 16), .val (.load (some 6) (.t 15)), none⟩,
    ⟨(some 17), .call (.f 15) [(.t 16)], none⟩,
    ⟨(some 11), .val (.mov (.t 17)), none⟩,
    ⟨(some 18), .val (.ext (.t 11) 0), none⟩,
    ⟨(some 19), .val (.ext (.t 11) 1), none⟩,
    ⟨(some 20), .val (.ext (.t 11) 2), none⟩,
    ⟨none, .storev 0 2 4 (.t 2) (.t 18), none⟩,
    ⟨(some 21), .val (.nilck (.t 12)), none⟩,
    ⟨(some 22), .val (.faddr 0 (.t 21)), none⟩,
    ⟨none, .store 6 (.t 22) (.t 19), none⟩,
    ⟨(some 3), .val (.mov (.t 20)), none⟩]
def g39_4 : List Am.Item := [
    ⟨(some 23), .val (.load (some 4) (.t 2)), none⟩,
    ⟨(some 24), .val (.mov (.t 3)), none⟩,
    ⟨none, .store 4 (.t 2) (.t 23), none⟩,
    ⟨(some 3), .val (.mov (.t 24)), none⟩]
def r39 : RC := .seq (.reg g39_0) (.seq (.reg g39_1) (.seq (.reg g39_2) (.seq (.draw g39_3) (.seq (.reg g39_4) (.ret)))))
def o39 : List RR := [.cell 2 (some 4), .tmp 3]
theorem k39 : chkC Try.prog 25 r39 (Try.f39.body.getD .skip) = true := by decide +kernel
theorem q39 : chkR Try.prog Try.f39.results.toList o39 = true := by decide +kernel

/- (*wireschema/unknown.scanner).next$1 -/
def g61_0 : List Am.Item := [
    ⟨(some 2), .val (.load none (.t 0)), none⟩,
    ⟨(some 3), .val (.nilck (.t 2)), none⟩,
    ⟨(some 4), .val (.faddr 6 (.t 3)), none⟩,
    ⟨(some 5), .val (.load none (.t 4)), none⟩,
    ⟨(some 6), .val (.load none (.t 0)), none⟩,
    ⟨(some 7), .val (.nilck (.t 6)), none⟩,
    ⟨(some 8), .val (.faddr 0 (.t 7)), none⟩,
    ⟨(some 9), .val (.faddr 1 (.t 8)), none⟩,
    ⟨(some 10), .val (.load none (.t 9)), none⟩,
    ⟨(some 11), .val (.load none (.t 1)), none⟩,
    ⟨(some 12), .val (.bin .num .sub (.t 10) (.t 11)), none⟩,
    ⟨(some 13), .val (.bin .num .add (.t 5) (.t 12)), none⟩,
    ⟨(some 14), .val (.nilck (.t 2)), none⟩,
    ⟨(some 15), .val (.faddr 6 (.t 14)), none⟩,
    ⟨none, .store 1 (.t 15) (.t 13), none⟩]
def r61 : RC := .draw g61_0
def o61 : List RR := []
theorem k61 : chkC Try.prog 16 r61 (Try.f61.body.getD .skip) = true := by decide +kernel
theorem q61 : chkR Try.prog Try.f61.results.toList o61 = true := by decide +kernel

/- wireschema/unknown.Scan -/
def g17_0 : List Am.Item := [
    ⟨(some 3), .boxN 3 (.t 1), none⟩,
    ⟨(some 4), .val (.mov (.c (.nils))), none⟩,
    ⟨(some 5), .val (.mov (.c (.int .i64 0))), none⟩]
def g17_1 : List Am.Item := [
    ⟨(some 13), .val (.mov (.t 0)), none⟩,
    ⟨(some 14), .val (.load (some 4) (.t 3)), none⟩,
    ⟨(some 15), .call (.f 38) [(.t 13), (.t 14)], none⟩,
    ⟨(some 12), .val (.mov (.t 15)), none⟩,
    ⟨(some 16), .val (.ext (.t 12) 0), none⟩,
    ⟨(some 17), .val (.ext (.t 12) 1), none⟩,
    ⟨(some 6), .allocN 6 [.str [], .int .i64 0, .int .i64 0, .int .i64 0, .int .i64 0, .int .i64 0], none⟩,
    ⟨none, .store 6 (.t 6) (.t 16), none⟩,
    ⟨(some 7), .val (.mov (.t 17)), none⟩]
def g17_2 : List Am.Item := [
    ⟨(some 18), .val (.mov (.t 7)), none⟩,
    ⟨(some 19), .val (.bin .num .neq (.t 18) (.c (.int .i64 0))), none⟩]
def g17_3 : List Am.Item := [
    ⟨(some 20), .val (.mov (.t 7)), none⟩,
    ⟨(some 4), .val (.mov (.c (.nils))), none⟩,
    ⟨(some 5), .val (.mov (.t 20)), none⟩]
def g17_4 : List Am.Item := [
    ⟨(some 21), .val (.load (some 6) (.t 6)), none⟩,
    ⟨(some 22), .val (.build [.str [], .int .i64 0, .int .i64 0, .int .i64 0, .int .i64 0, .int .i64 0, .int .i64 0] [(0, 6, (.t 21))]), none⟩,
    ⟨(some 23), .boxN 23 (.t 22), none⟩,
    ⟨(some 8), .val (.mov (.t 23)), none⟩]
def g17_5 : List Am.Item := [
    ⟨(some 9), .val (.mov (.c (.nils))), none⟩]
def g17_6 : List Am.Item := [
    ⟨(some 24), .val (.mov (.t 8)), none⟩,
    ⟨(some 25), .val (.nilck (.t 24)), none⟩,
    ⟨(some 26), .val (.faddr 6 (.t 25)), none⟩,
    ⟨(some 27), .val (.load none (.t 26)), none⟩,
    ⟨(some 28), .val (.mov (.t 0)), none⟩,
    ⟨(some 29), .val (.len 0 (.t 28)), none⟩,
    ⟨(some 30), .val (.bin .num .lss (.t 27) (.t 29)), none⟩]
def g17_7 : List Am.Item := [
    ⟨(some 32), .val (.mov (.t 8)), none⟩,
    ⟨(some 33), .callF (.f 39) [(.t 32)], none⟩,
    ⟨(some 31), .val (.mov (.t 33)), none⟩,
    ⟨(some 34), .val (.ext (.t 31) 0), none⟩,
    ⟨(some 35), .val (.ext (.t 31) 1), none⟩,
    ⟨(some 10), .allocN 10 [.int .i64 0, .int .i64 0, .int .u64 0, .str []], none⟩,
    ⟨none, .store 4 (.t 10) (.t 34), none⟩,
    ⟨(some 11), .val (.mov (.t 35)), none⟩]
def g17_8 : List Am.Item := [
    ⟨(some 36), .val (.mov (.t 11)), none⟩,
    ⟨(some 37), .val (.bin .num .neq (.t 36) (.c (.int .i64 0))), none⟩]
def g17_9 : List Am.Item := [
    ⟨(some 38), .val (.mov (.t 11)), none⟩,
    ⟨(some 4), .val (.mov (.c (.nils))), none⟩,
    ⟨(some 5), .val (.mov (.t 38)), none⟩]
def g17_10 : List Am.Item := [
    ⟨(some 39), .val (.mov (.t 9)), none⟩,
    ⟨(some 40), .val (.load (some 4) (.t 10)), none⟩,
    ⟨(some 41), .bsl 4 1 [.int .i64 0, .int .i64 0, .int .u64 0, .str []] [(0, 4, (.t 40))], none⟩,
    ⟨(some 42), .app 4 40 33 (.t 39) (.t 41), none⟩,
    ⟨(some 9), .val (.mov (.t 42)), none⟩]
def l17_0 : RC := .gho (.drop 10) (.seq (.seq (.reg g17_6) (.cond (.t 30) (.skip) (.exit 0))) (.block 1 (.seq (.reg g17_7) (.seq (.seq (.reg g17_8) (.cond (.t 37) (.seq (.reg g17_9) (.ret)) (.skip))) (.reg g17_10)))))
def g17_11 : List Am.Item := [
    ⟨(some 43), .val (.mov (.t 9)), none⟩,
    ⟨(some 4), .val (.mov (.t 43)), none⟩,
    ⟨(some 5), .val (.mov (.c (.int .i64 0))), none⟩]
def r17 : RC := .seq (.reg g17_0) (.seq (.reg g17_1) (.seq (.seq (.reg g17_2) (.cond (.t 19) (.seq (.reg g17_3) (.ret)) (.skip))) (.seq (.reg g17_4) (.seq (.reg g17_5) (.gho (.vec 9 9 4) (.seq (.block 0 (.loop l17_0)) (.seq (.reg g17_11) (.ret))))))))
def o17 : List RR := [.tmp 4, .tmp 5]
theorem k17 : chkC Try.prog 44 r17 (Try.f17.body.getD .skip) = true := by decide +kernel
theorem q17 : chkR Try.prog Try.f17.results.toList o17 = true := by decide +kernel

/- wireschema/unknown.Valid -/
def g21_0 : List Am.Item := [
    ⟨(some 1), .boxN 1 (.t 0), none⟩,
    ⟨(some 2), .val (.mov (.c (.bool false))), none⟩]
def g21_1 : List Am.Item := [
    ⟨(some 6), .val (.faddr 0 (.t 1)), none⟩,
    ⟨(some 7), .val (.load none (.t 6)), none⟩,
    ⟨(some 8), .val (.faddr 1 (.t 1)), none⟩,
    ⟨(some 9), .val (.load none (.t 8)), none⟩,
    ⟨(some 10), .call (.f 10) [(.t 7), (.t 9)], none⟩,
    ⟨(some 5), .val (.mov (.t 10)), none⟩,
    ⟨(some 11), .val (.ext (.t 5) 0), none⟩,
    ⟨(some 12), .val (.ext (.t 5) 1), none⟩,
    ⟨(some 3), .val (.mov (.t 11)), none⟩,
    ⟨(some 4), .val (.mov (.t 12)), none⟩]
def g21_2 : List Am.Item := [
    ⟨(some 13), .val (.mov (.t 4)), none⟩,
    ⟨(some 14), .val (.bin .num .neq (.t 13) (.c (.int .i64 0))), none⟩]
def g21_3 : List Am.Item := [
    ⟨(some 2), .val (.mov (.c (.bool false))), none⟩]
def g21_4 : List Am.Item := [
    ⟨(some 15), .val (.faddr 1 (.t 1)), none⟩,
    ⟨(some 16), .val (.load none (.t 15)), none⟩,
    ⟨(some 17), .call (.f 42) [(.t 16)], none⟩]
def g21_5 : List Am.Item := [
    ⟨(some 18), .val (.faddr 3 (.t 1)), none⟩,
    ⟨(some 19), .val (.load none (.t 18)), none⟩,
    ⟨(some 20), .val (.bin .str .eql (.t 19) (.c (.str []))), none⟩,
    ⟨(some 2), .val (.mov (.t 20)), none⟩]
def g21_6 : List Am.Item := [
    ⟨(some 21), .val (.faddr 2 (.t 1)), none⟩,
    ⟨(some 22), .val (.load none (.t 21)), none⟩,
    ⟨(some 23), .val (.bin .num .eql (.t 22) (.c (.int .u64 0))), none⟩,
    ⟨(some 2), .val (.mov (.t 23)), none⟩]
def r21 : RC := .seq (.reg g21_0) (.seq (.seq (.reg g21_1) (.seq (.reg g21_2) (.cond (.t 14) (.seq (.reg g21_3) (.ret)) (.skip)))) (.seq (.seq (.reg g21_4) (.cond (.t 17) (.seq (.reg g21_5) (.ret)) (.skip))) (.seq (.reg g21_6) (.ret))))
def o21 : List RR := [.tmp 2]
theorem k21 : chkC Try.prog 24 r21 (Try.f21.body.getD .skip) = true := by decide +kernel
theorem q21 : chkR Try.prog Try.f21.results.toList o21 = true := by decide +kernel

/- wireschema/unknown.Put -/
def g22_0 : List Am.Item := [
    ⟨(some 2), .val (.mov (.c (.str []))), none⟩]
def g22_1 : List Am.Item := [
    ⟨(some 3), .allocN 2071 [.nilp, .nils], none⟩]
def g22_2 : List Am.Item := [
    ⟨(some 8), .val (.mov (.t 0)), none⟩,
    ⟨(some 9), .val (.len 1 (.t 8)), none⟩,
    ⟨(some 10), .val (.mov (.c (.int .i64 0))), none⟩]
def g22_3 : List Am.Item := [
    ⟨(some 11), .val (.bin .num .lss (.t 10) (.t 9)), none⟩]
def g22_4 : List Am.Item := [
    ⟨(some 12), .val (.iaddr 4 none (.t 8) (.t 10)), none⟩,
    ⟨(some 13), .val (.load (some 4) (.t 12)), none⟩,
    ⟨(some 5), .allocN 5 [.int .i64 0, .int .i64 0, .int .u64 0, .str []], none⟩,
    ⟨none, .store 4 (.t 5) (.t 13), none⟩]
def g22_5 : List Am.Item := [
    ⟨(some 14), .val (.load (some 4) (.t 5)), none⟩,
    ⟨(some 15), .call (.f 21) [(.t 14)], none⟩,
    ⟨(some 16), .val (.un .not (.t 15)), none⟩]
def g22_6 : List Am.Item := [
    ⟨(some 18), .val (.faddr 0 (.t 5)), none⟩,
    ⟨(some 19), .val (.load none (.t 18)), none⟩,
    ⟨(some 20), .val (.faddr 1 (.t 5)), none⟩,
    ⟨(some 21), .val (.load none (.t 20)), none⟩,
    ⟨(some 22), .call (.f 10) [(.t 19), (.t 21)], none⟩,
    ⟨(some 17), .val (.mov (.t 22)), none⟩,
    ⟨(some 23), .val (.ext (.t 17) 0), none⟩,
    ⟨(some 24), .val (.ext (.t 17) 1), none⟩,
    ⟨(some 6), .val (.mov (.t 23)), none⟩,
    ⟨(some 7), .val (.mov (.t 24)), none⟩]
def g22_7 : List Am.Item := [
    ⟨(some 25), .val (.mov (.t 6)), none⟩,
    ⟨(some 26), .callF (.f 43) [(.t 3), (.t 25)], none⟩]
def g22_10 : List Am.Item := [
    ⟨(some 37), .val (.faddr 1 (.t 5)), none⟩,
    ⟨(some 38), .val (.load none (.t 37)), none⟩,
    ⟨(some 39), .val (.bin .num .eql (.t 38) (.c (.int .i64 2))), none⟩,
    ⟨(some 36), .val (.mov (.t 39)), none⟩]
def g22_11 : List Am.Item := [
    ⟨(some 40), .val (.faddr 2 (.t 5)), none⟩,
    ⟨(some 41), .val (.load none (.t 40)), none⟩,
    ⟨(some 42), .call (.f 44) [(.t 41)], none⟩,
    ⟨(some 43), .callF (.f 43) [(.t 3), (.t 42)], none⟩]
def g22_12 : List Am.Item := [
    ⟨(some 45), .val (.faddr 1 (.t 5)), none⟩,
    ⟨(some 46), .val (.load none (.t 45)), none⟩,
    ⟨(some 47), .call (.f 42) [(.t 46)], none⟩,
    ⟨(some 44), .val (.mov (.t 47)), none⟩]
def g22_13 : List Am.Item := [
    ⟨(some 48), .val (.faddr 2 (.t 5)), none⟩,
    ⟨(some 49), .val (.load none (.t 48)), none⟩,
    ⟨(some 50), .call (.f 30) [(.t 49)], none⟩,
    ⟨(some 51), .callF (.f 43) [(.t 3), (.t 50)], none⟩]
def g22_8 : List Am.Item := [
    ⟨(some 27), .val (.faddr 3 (.t 5)), none⟩,
    ⟨(some 28), .val (.load none (.t 27)), none⟩,
    ⟨(some 29), .val (.len 0 (.t 28)), none⟩,
    ⟨(some 30), .val (.cvi .u64 (.t 29)), none⟩,
    ⟨(some 31), .call (.f 30) [(.t 30)], none⟩,
    ⟨(some 32), .callF (.f 43) [(.t 3), (.t 31)], none⟩]
def g22_9 : List Am.Item := [
    ⟨(some 33), .val (.faddr 3 (.t 5)), none⟩,
    ⟨(some 34), .val (.load none (.t 33)), none⟩,
    ⟨(some 35), .callF (.f 43) [(.t 3), (.t 34)], none⟩]
def g22_14 : List Am.Item := [
    ⟨(some 52), .val (.bin .num .add (.t 10) (.c (.int .i64 1))), none⟩,
    ⟨(some 10), .val (.mov (.t 52)), none⟩]
def l22_0 : RC := .gho (.drop 5) (.seq (.reg g22_3) (.seq (.cond (.t 11) (.skip) (.exit 0)) (.seq (.block 1 (.seq (.reg g22_4) (.seq (.seq (.reg g22_5) (.cond (.t 16) (.exit 1) (.skip))) (.seq (.reg g22_6) (.seq (.reg g22_7) (.block 2 (.seq (.reg g22_10) (.cond (.t 36) (.reg g22_11) (.seq (.reg g22_12) (.cond (.t 44) (.reg g22_13) (.seq (.reg g22_8) (.reg g22_9)))))))))))) (.reg g22_14))))
def g22_15 : List Am.Item := [
    ⟨(some 53), .callF (.f 45) [(.t 3)], none⟩,
    ⟨(some 2), .val (.mov (.t 53)), none⟩]
def r22 : RC := .seq (.reg g22_0) (.seq (.reg g22_1) (.gho (.vecc 2071 1 2005 1) (.seq (.seq (.reg g22_2) (.block 0 (.loop l22_0))) (.seq (.reg g22_15) (.ret)))))
def o22 : List RR := [.tmp 2]
theorem k22 : chkC Try.prog 54 r22 (Try.f22.body.getD .skip) = true := by decide +kernel
theorem q22 : chkR Try.prog Try.f22.results.toList o22 = true := by decide +kernel

/- wireschema/wireschemaref23.number -/
def g46_0 : List Am.Item := [
    ⟨(some 2), .val (.mov (.c (.bool false))), none⟩]
def g46_1 : List Am.Item := [
    ⟨(some 3), .val (.mov (.t 0)), none⟩,
    ⟨(some 4), .val (.bin .num .eql (.t 3) (.c (.int .i64 0))), none⟩,
    ⟨(some 5), .val (.mov (.t 4)), none⟩,
    ⟨(some 6), .val (.mov (.t 0)), (some (5, false))⟩,
    ⟨(some 7), .val (.bin .num .eql (.t 6) (.c (.int .i64 1))), (some (5, false))⟩,
    ⟨(some 8), .val (.pick (.t 5) (.c (.bool true)) (.t 7)), none⟩,
    ⟨(some 9), .val (.mov (.t 8)), none⟩,
    ⟨(some 10), .val (.mov (.t 0)), (some (9, false))⟩,
    ⟨(some 11), .val (.bin .num .eql (.t 10) (.c (.int .i64 2))), (some (9, false))⟩,
    ⟨(some 12), .val (.pick (.t 9) (.c (.bool true)) (.t 11)), none⟩,
    ⟨(some 2), .val (.mov (.t 12)), none⟩]
def r46 : RC := .seq (.reg g46_0) (.seq (.reg g46_1) (.ret))
def o46 : List RR := [.tmp 2]
theorem k46 : chkC Try.prog 13 r46 (Try.f46.body.getD .skip) = true := by decide +kernel
theorem q46 : chkR Try.prog Try.f46.results.toList o46 = true := by decide +kernel

/- wireschema/wireschemaref23.Tag -/
def g11_0 : List Am.Item := [
    ⟨(some 4), .val (.mov (.c (.str []))), none⟩,
    ⟨(some 5), .val (.mov (.c (.int .i64 0))), none⟩]
def g11_1 : List Am.Item := [
    ⟨(some 6), .val (.mov (.t 0)), none⟩,
    ⟨(some 7), .val (.bin .num .lss (.t 6) (.c (.int .i64 1))), none⟩,
    ⟨(some 8), .val (.mov (.t 7)), none⟩,
    ⟨(some 9), .val (.mov (.t 0)), (some (8, false))⟩,
    ⟨(some 10), .val (.bin .num .gtr (.t 9) (.c (.int .i64 65535))), (some (8, false))⟩,
    ⟨(some 11), .val (.pick (.t 8) (.c (.bool true)) (.t 10)), none⟩,
    ⟨(some 12), .val (.mov (.t 11)), none⟩,
    ⟨(some 13), .val (.mov (.t 1)), (some (12, false))⟩,
    ⟨(some 14), .val (.bin .num .lss (.t 13) (.c (.int .i64 0))), (some (12, false))⟩,
    ⟨(some 15), .val (.pick (.t 12) (.c (.bool true)) (.t 14)), none⟩,
    ⟨(some 16), .val (.mov (.t 15)), none⟩,
    ⟨(some 17), .val (.mov (.t 1)), (some (16, false))⟩,
    ⟨(some 18), .val (.bin .num .gtr (.t 17) (.c (.int .i64 6))), (some (16, false))⟩,
    ⟨(some 19), .val (.pick (.t 16) (.c (.bool true)) (.t 18)), none⟩]
def g11_2 : List Am.Item := [
    ⟨(some 4), .val (.mov (.c (.str []))), none⟩,
    ⟨(some 5), .val (.mov (.c (.int .i64 6))), none⟩]
def g11_3 : List Am.Item := [
    ⟨(some 20), .val (.mov (.t 0)), none⟩,
    ⟨(some 21), .val (.bin .num .mul (.t 20) (.c (.int .i64 8))), none⟩,
    ⟨(some 22), .val (.mov (.t 1)), none⟩,
    ⟨(some 23), .val (.bin .num .add (.t 21) (.t 22)), none⟩,
    ⟨(some 24), .val (.cvi .u64 (.t 23)), none⟩,
    ⟨(some 25), .call (.f 31) [(.t 24)], none⟩,
    ⟨(some 4), .val (.mov (.t 25)), none⟩,
    ⟨(some 5), .val (.mov (.c (.int .i64 0))), none⟩]
def r11 : RC := .seq (.reg g11_0) (.seq (.seq (.reg g11_1) (.cond (.t 19) (.seq (.reg g11_2) (.ret)) (.skip))) (.seq (.reg g11_3) (.ret)))
def o11 : List RR := [.tmp 4, .tmp 5]
theorem k11 : chkC Try.prog 26 r11 (Try.f11.body.getD .skip) = true := by decide +kernel
theorem q11 : chkR Try.prog Try.f11.results.toList o11 = true := by decide +kernel

/- wireschema/wireschemaref23.TakeTag -/
def g13_0 : List Am.Item := [
    ⟨(some 1), .boxN 1 (.t 0), none⟩,
    ⟨(some 2), .val (.mov (.c (.int .i64 0))), none⟩,
    ⟨(some 3), .val (.mov (.c (.int .i64 0))), none⟩,
    ⟨(some 4), .allocN 4 [.str [], .int .i64 0, .int .i64 0, .int .i64 0, .int .i64 0, .int .i64 0], none⟩,
    ⟨(some 5), .val (.mov (.c (.int .i64 0))), none⟩]
def g13_1 : List Am.Item := [
    ⟨(some 10), .val (.load (some 6) (.t 1)), none⟩,
    ⟨(some 11), .call (.f 33) [(.t 10)], none⟩,
    ⟨(some 9), .val (.mov (.t 11)), none⟩,
    ⟨(some 12), .val (.ext (.t 9) 0), none⟩,
    ⟨(some 13), .val (.ext (.t 9) 1), none⟩,
    ⟨(some 14), .val (.ext (.t 9) 2), none⟩,
    ⟨(some 7), .allocN 7 [.str [], .int .i64 0, .int .i64 0, .int .i64 0, .int .i64 0, .int .i64 0], none⟩,
    ⟨(some 6), .val (.mov (.t 12)), none⟩,
    ⟨none, .store 6 (.t 7) (.t 13), none⟩,
    ⟨(some 8), .val (.mov (.t 14)), none⟩]
def g13_2 : List Am.Item := [
    ⟨(some 15), .val (.mov (.t 8)), none⟩,
    ⟨(some 16), .val (.bin .num .neq (.t 15) (.c (.int .i64 0))), none⟩]
def g13_3 : List Am.Item := [
    ⟨(some 17), .val (.loadv 0 1 (some 6) (.t 1)), none⟩,
    ⟨(some 18), .val (.mov (.t 8)), none⟩,
    ⟨(some 2), .val (.mov (.c (.int .i64 0))), none⟩,
    ⟨(some 3), .val (.mov (.c (.int .i64 0))), none⟩,
    ⟨none, .storev 0 4 6 (.t 4) (.t 17), none⟩,
    ⟨(some 5), .val (.mov (.t 18)), none⟩]
def g13_4 : List Am.Item := [
    ⟨(some 19), .val (.mov (.t 6)), none⟩,
    ⟨(some 20), .val (.bin .num .rem (.t 19) (.c (.int .u64 8))), none⟩,
    ⟨(some 21), .val (.bin .num .eql (.t 20) (.c (.int .u64 7))), none⟩]
def g13_5 : List Am.Item := [
    ⟨(some 22), .val (.loadv 0 1 (some 6) (.t 1)), none⟩,
    ⟨(some 2), .val (.mov (.c (.int .i64 0))), none⟩,
    ⟨(some 3), .val (.mov (.c (.int .i64 0))), none⟩,
    ⟨none, .storev 0 4 6 (.t 4) (.t 22), none⟩,
    ⟨(some 5), .val (.mov (.c (.int .i64 5))), none⟩]
def g13_6 : List Am.Item := [
    ⟨(some 23), .val (.mov (.t 6)), none⟩,
    ⟨(some 24), .val (.bin .num .quo (.t 23) (.c (.int .u64 8))), none⟩,
    ⟨(some 25), .val (.bin .num .lss (.t 24) (.c (.int .u64 1))), none⟩,
    ⟨(some 26), .val (.mov (.t 25)), none⟩,
    ⟨(some 27), .val (.mov (.t 6)), (some (26, false))⟩,
    ⟨(some 28), .val (.bin .num .quo (.t 27) (.c (.int .u64 8))), (some (26, false))⟩,
    ⟨(some 29), .val (.bin .num .gtr (.t 28) (.c (.int .u64 65535))), (some (26, false))⟩,
    ⟨(some 30), .val (.pick (.t 26) (.c (.bool true)) (.t 29)), none⟩]
def g13_7 : List Am.Item := [
    ⟨(some 31), .val (.loadv 0 1 (some 6) (.t 1)), none⟩,
    ⟨(some 2), .val (.mov (.c (.int .i64 0))), none⟩,
    ⟨(some 3), .val (.mov (.c (.int .i64 0))), none⟩,
    ⟨none, .storev 0 4 6 (.t 4) (.t 31), none⟩,
    ⟨(some 5), .val (.mov (.c (.int .i64 6))), none⟩]
def g13_8 : List Am.Item := [
    ⟨(some 32), .val (.mov (.t 6)), none⟩,
    ⟨(some 33), .val (.bin .num .quo (.t 32) (.c (.int .u64 8))), none⟩,
    ⟨(some 34), .val (.cvi .i64 (.t 33)), none⟩,
    ⟨(some 35), .val (.mov (.t 6)), none⟩,
    ⟨(some 36), .val (.bin .num .rem (.t 35) (.c (.int .u64 8))), none⟩,
    ⟨(some 37), .val (.cvi .i64 (.t 36)), none⟩,
    ⟨(some 38), .val (.loadv 0 7 (some 6) (.t 7)), none⟩,
    ⟨(some 2), .val (.mov (.t 34)), none⟩,
    ⟨(some 3), .val (.mov (.t 37)), none⟩,
    ⟨none, .storev 0 4 6 (.t 4) (.t 38), none⟩,
    ⟨(some 5), .val (.mov (.c (.int .i64 0))), none⟩]
def r13 : RC := .seq (.reg g13_0) (.seq (.reg g13_1) (.seq (.seq (.reg g13_2) (.cond (.t 16) (.seq (.draw g13_3) (.ret)) (.skip))) (.seq (.seq (.reg g13_4) (.cond (.t 21) (.seq (.draw g13_5) (.ret)) (.skip))) (.seq (.seq (.reg g13_6) (.cond (.t 30) (.seq (.draw g13_7) (.ret)) (.skip))) (.seq (.draw g13_8) (.ret))))))
def o13 : List RR := [.tmp 2, .tmp 3, .cell 4 (some 6), .tmp 5]
theorem k13 : chkC Try.prog 39 r13 (Try.f13.body.getD .skip) = true := by decide +kernel
theorem q13 : chkR Try.prog Try.f13.results.toList o13 = true := by decide +kernel

/- wireschema/wireschemaref23.contents -/
def g37_0 : List Am.Item := [
    ⟨(some 2), .boxN 2 (.t 0), none⟩,
    ⟨(some 3), .boxN 3 (.t 1), none⟩,
    ⟨(some 4), .allocN 4 [.int .i64 0, .int .i64 0, .int .u64 0, .str []], none⟩,
    ⟨(some 5), .allocN 5 [.str [], .int .i64 0, .int .i64 0, .int .i64 0, .int .i64 0, .int .i64 0], none⟩,
    ⟨(some 6), .val (.mov (.c (.int .i64 0))), none⟩]
def g37_1 : List Am.Item := [
    ⟨(some 13), .val (.faddr 1 (.t 2)), none⟩,
    ⟨(some 14), .val (.load none (.t 13)), none⟩,
    ⟨(some 15), .val (.bin .num .eql (.t 14) (.c (.int .i64 2))), none⟩]
def g37_2 : List Am.Item := [
    ⟨(some 17), .val (.load (some 6) (.t 3)), none⟩,
    ⟨(some 18), .call (.f 60) [(.t 17)], none⟩,
    ⟨(some 16), .val (.mov (.t 18)), none⟩,
    ⟨(some 19), .val (.ext (.t 16) 0), none⟩,
    ⟨(some 20), .val (.ext (.t 16) 1), none⟩,
    ⟨(some 21), .val (.ext (.t 16) 2), none⟩,
    ⟨(some 8), .allocN 8 [.str [], .int .i64 0, .int .i64 0, .int .i64 0, .int .i64 0, .int .i64 0], none⟩,
    ⟨(some 7), .val (.mov (.t 19)), none⟩,
    ⟨none, .store 6 (.t 8) (.t 20), none⟩,
    ⟨(some 9), .val (.mov (.t 21)), none⟩]
def g37_3 : List Am.Item := [
    ⟨(some 22), .val (.mov (.t 7)), none⟩,
    ⟨(some 23), .val (.faddr 2 (.t 2)), none⟩,
    ⟨none, .store 1 (.t 23) (.t 22), none⟩]
def g37_4 : List Am.Item := [
    ⟨(some 24), .val (.loadv 0 2 (some 4) (.t 2)), none⟩,
    ⟨(some 25), .val (.loadv 0 8 (some 6) (.t 8)), none⟩,
    ⟨(some 26), .val (.mov (.t 9)), none⟩,
    ⟨none, .storev 0 4 4 (.t 4) (.t 24), none⟩,
    ⟨none, .storev 0 5 6 (.t 5) (.t 25), none⟩,
    ⟨(some 6), .val (.mov (.t 26)), none⟩]
def g37_5 : List Am.Item := [
    ⟨(some 28), .val (.load (some 6) (.t 3)), none⟩,
    ⟨(some 29), .call (.f 33) [(.t 28)], none⟩,
    ⟨(some 27), .val (.mov (.t 29)), none⟩,
    ⟨(some 30), .val (.ext (.t 27) 0), none⟩,
    ⟨(some 31), .val (.ext (.t 27) 1), none⟩,
    ⟨(some 32), .val (.ext (.t 27) 2), none⟩,
    ⟨(some 11), .allocN 11 [.str [], .int .i64 0, .int .i64 0, .int .i64 0, .int .i64 0, .int .i64 0], none⟩,
    ⟨(some 10), .val (.mov (.t 30)), none⟩,
    ⟨none, .store 6 (.t 11) (.t 31), none⟩,
    ⟨(some 12), .val (.mov (.t 32)), none⟩]
def g37_6 : List Am.Item := [
    ⟨(some 33), .val (.mov (.t 12)), none⟩,
    ⟨(some 34), .val (.bin .num .neq (.t 33) (.c (.int .i64 0))), none⟩,
    ⟨(some 35), .val (.mov (.t 34)), none⟩,
    ⟨(some 36), .val (.faddr 1 (.t 2)), (some (35, false))⟩,
    ⟨(some 37), .val (.load none (.t 36)), (some (35, false))⟩,
    ⟨(some 38), .call (.f 46) [(.t 37)], (some (35, false))⟩,
    ⟨(some 39), .val (.pick (.t 35) (.c (.bool true)) (.t 38)), none⟩]
def g37_7 : List Am.Item := [
    ⟨(some 40), .val (.mov (.t 10)), none⟩,
    ⟨(some 41), .val (.faddr 2 (.t 2)), none⟩,
    ⟨none, .store 1 (.t 41) (.t 40), none⟩]
def g37_8 : List Am.Item := [
    ⟨(some 42), .val (.loadv 0 2 (some 4) (.t 2)), none⟩,
    ⟨(some 43), .val (.loadv 0 11 (some 6) (.t 11)), none⟩,
    ⟨(some 44), .val (.mov (.t 12)), none⟩,
    ⟨none, .storev 0 4 4 (.t 4) (.t 42), none⟩,
    ⟨none, .storev 0 5 6 (.t 5) (.t 43), none⟩,
    ⟨(some 6), .val (.mov (.t 44)), none⟩]
def g37_9 : List Am.Item := [
    ⟨(some 45), .val (.mov (.t 10)), none⟩,
    ⟨(some 46), .val (.load (some 6) (.t 11)), none⟩,
    ⟨(some 47), .call (.f 41) [(.t 46)], none⟩,
    ⟨(some 48), .val (.cvi .u64 (.t 47)), none⟩,
    ⟨(some 49), .val (.bin .num .gtr (.t 45) (.t 48)), none⟩]
def g37_10 : List Am.Item := [
    ⟨(some 50), .val (.loadv 0 2 (some 4) (.t 2)), none⟩,
    ⟨(some 51), .val (.loadv 0 3 (some 6) (.t 3)), none⟩,
    ⟨none, .storev 0 4 4 (.t 4) (.t 50), none⟩,
    ⟨none, .storev 0 5 6 (.t 5) (.t 51), none⟩,
    ⟨(some 6), .val (.mov (.c (.int .i64 4))), none⟩]
def g37_11 : List Am.Item := [
    ⟨(some 52), .val (.faddr 1 (.t 2)), none⟩,
    ⟨(some 53), .val (.load none (.t 52)), none⟩,
    ⟨(some 54), .val (.bin .num .eql (.t 53) (.c (.int .i64 3))), none⟩,
    ⟨(some 55), .val (.mov (.t 54)), none⟩,
    ⟨(some 56), .val (.mov (.t 10)), (some (55, true))⟩,
    ⟨(some 57), .val (.cvi .i64 (.t 56)), (some (55, true))⟩,
    ⟨(some 58), .val (.faddr 5 (.t 11)), (some (55, true))⟩,
    ⟨(some 59), .val (.load none (.t 58)), (some (55, true))⟩,
    ⟨(some 60), .val (.bin .num .gtr (.t 57) (.t 59)), (some (55, true))⟩,
    ⟨(some 61), .val (.pick (.t 55) (.t 60) (.c (.bool false))), none⟩,
    ⟨(some 62), .val (.mov (.t 61)), none⟩,
    ⟨(some 63), .val (.faddr 1 (.t 2)), (some (62, false))⟩,
    ⟨(some 64), .val (.load none (.t 63)), (some (62, false))⟩,
    ⟨(some 65), .val (.bin .num .neq (.t 64) (.c (.int .i64 3))), (some (62, false))⟩,
    ⟨(some 66), .val (.mov (.t 65)), (some (62, false))⟩,
    ⟨(some 67), .val (.mov (.t 10)), (some (66, true))⟩,
    ⟨(some 68), .val (.bin .num .gtr (.t 67) (.c (.int .u64 65536))), (some (66, true))⟩,
    ⟨(some 69), .val (.pick (.t 66) (.t 68) (.c (.bool false))), (some (62, false))⟩,
    ⟨(some 70), .val (.pick (.t 62) (.c (.bool true)) (.t 69)), none⟩]
def g37_12 : List Am.Item := [
    ⟨(some 71), .val (.loadv 0 2 (some 4) (.t 2)), none⟩,
    ⟨(some 72), .val (.loadv 0 3 (some 6) (.t 3)), none⟩,
    ⟨none, .storev 0 4 4 (.t 4) (.t 71), none⟩,
    ⟨none, .storev 0 5 6 (.t 5) (.t 72), none⟩,
    ⟨(some 6), .val (.mov (.c (.int .i64 3))), none⟩]
def g37_13 : List Am.Item := [
    ⟨(some 73), .val (.faddr 0 (.t 11)), none⟩,
    ⟨(some 74), .val (.load none (.t 73)), none⟩,
    ⟨(some 75), .val (.faddr 1 (.t 11)), none⟩,
    ⟨(some 76), .val (.load none (.t 75)), none⟩,
    ⟨(some 77), .val (.faddr 1 (.t 11)), none⟩,
    ⟨(some 78), .val (.load none (.t 77)), none⟩,
    ⟨(some 79), .val (.mov (.t 10)), none⟩,
    ⟨(some 80), .val (.cvi .i64 (.t 79)), none⟩,
    ⟨(some 81), .val (.bin .num .add (.t 78) (.t 80)), none⟩,
    ⟨(some 82), .val (.slc none (.t 74) (some (.t 76)) (some (.t 81)) none), none⟩,
    ⟨(some 83), .val (.faddr 3 (.t 2)), none⟩,
    ⟨none, .store 1 (.t 83) (.t 82), none⟩]
def g37_14 : List Am.Item := [
    ⟨(some 84), .val (.faddr 1 (.t 11)), none⟩,
    ⟨(some 85), .val (.load none (.t 84)), none⟩,
    ⟨(some 86), .val (.mov (.t 10)), none⟩,
    ⟨(some 87), .val (.cvi .i64 (.t 86)), none⟩,
    ⟨(some 88), .val (.bin .num .add (.t 85) (.t 87)), none⟩,
    ⟨(some 89), .val (.faddr 1 (.t 11)), none⟩,
    ⟨none, .store 1 (.t 89) (.t 88), none⟩]
def g37_15 : List Am.Item := [
    ⟨(some 90), .val (.loadv 0 2 (some 4) (.t 2)), none⟩,
    ⟨(some 91), .val (.loadv 0 11 (some 6) (.t 11)), none⟩,
    ⟨none, .storev 0 4 4 (.t 4) (.t 90), none⟩,
    ⟨none, .storev 0 5 6 (.t 5) (.t 91), none⟩,
    ⟨(some 6), .val (.mov (.c (.int .i64 0))), none⟩]
def r37 : RC := .seq (.reg g37_0) (.seq (.seq (.reg g37_1) (.cond (.t 15) (.seq (.reg g37_2) (.seq (.reg g37_3) (.seq (.draw g37_4) (.ret)))) (.skip))) (.seq (.reg g37_5) (.seq (.seq (.reg g37_6) (.cond (.t 39) (.seq (.reg g37_7) (.seq (.draw g37_8) (.ret))) (.skip))) (.seq (.seq (.reg g37_9) (.cond (.t 49) (.seq (.draw g37_10) (.ret)) (.skip))) (.seq (.seq (.reg g37_11) (.cond (.t 70) (.seq (.draw g37_12) (.ret)) (.skip))) (.seq (.reg g37_13) (.seq (.reg g37_14) (.seq (.draw g37_15) (.ret)))))))))
def o37 : List RR := [.cell 4 (some 4), .cell 5 (some 6), .tmp 6]
theorem k37 : chkC Try.prog 92 r37 (Try.f37.body.getD .skip) = true := by decide +kernel
theorem q37 : chkR Try.prog Try.f37.results.toList o37 = true := by decide +kernel

/- wireschema/wireschemaref23.Next -/
def g16_0 : List Am.Item := [
    ⟨(some 1), .boxN 1 (.t 0), none⟩,
    ⟨(some 2), .allocN 2 [.int .i64 0, .int .i64 0, .int .u64 0, .str []], none⟩,
    ⟨(some 3), .allocN 3 [.str [], .int .i64 0, .int .i64 0, .int .i64 0, .int .i64 0, .int .i64 0], none⟩,
    ⟨(some 4), .val (.mov (.c (.int .i64 0))), none⟩]
def g16_1 : List Am.Item := [
    ⟨(some 11), .val (.load (some 6) (.t 1)), none⟩,
    ⟨(some 12), .call (.f 13) [(.t 11)], none⟩,
    ⟨(some 10), .val (.mov (.t 12)), none⟩,
    ⟨(some 13), .val (.ext (.t 10) 0), none⟩,
    ⟨(some 14), .val (.ext (.t 10) 1), none⟩,
    ⟨(some 15), .val (.ext (.t 10) 2), none⟩,
    ⟨(some 16), .val (.ext (.t 10) 3), none⟩,
    ⟨(some 7), .allocN 7 [.str [], .int .i64 0, .int .i64 0, .int .i64 0, .int .i64 0, .int .i64 0], none⟩,
    ⟨(some 5), .val (.mov (.t 13)), none⟩,
    ⟨(some 6), .val (.mov (.t 14)), none⟩,
    ⟨none, .store 6 (.t 7) (.t 15), none⟩,
    ⟨(some 8), .val (.mov (.t 16)), none⟩]
def g16_2 : List Am.Item := [
    ⟨(some 17), .val (.mov (.t 8)), none⟩,
    ⟨(some 18), .val (.bin .num .neq (.t 17) (.c (.int .i64 0))), none⟩]
def g16_3 : List Am.Item := [
    ⟨(some 19), .val (.build [.int .i64 0, .int .i64 0, .int .u64 0, .str []] []), none⟩,
    ⟨(some 20), .val (.loadv 0 1 (some 6) (.t 1)), none⟩,
    ⟨(some 21), .val (.mov (.t 8)), none⟩,
    ⟨none, .storev 0 2 4 (.t 2) (.t 19), none⟩,
    ⟨none, .storev 0 3 6 (.t 3) (.t 20), none⟩,
    ⟨(some 4), .val (.mov (.t 21)), none⟩]
def g16_4 : List Am.Item := [
    ⟨(some 23), .val (.load (some 6) (.t 7)), none⟩,
    ⟨(some 24), .call (.f 36) [(.t 23), (.c (.int .i64 1))], none⟩,
    ⟨(some 22), .val (.mov (.t 24)), none⟩,
    ⟨(some 25), .val (.ext (.t 22) 0), none⟩,
    ⟨(some 26), .val (.ext (.t 22) 1), none⟩,
    ⟨none, .store 6 (.t 7) (.t 25), none⟩,
    ⟨(some 8), .val (.mov (.t 26)), none⟩]
def g16_5 : List Am.Item := [
    ⟨(some 27), .val (.mov (.t 8)), none⟩,
    ⟨(some 28), .val (.bin .num .neq (.t 27) (.c (.int .i64 0))), none⟩]
def g16_6 : List Am.Item := [
    ⟨(some 29), .val (.build [.int .i64 0, .int .i64 0, .int .u64 0, .str []] []), none⟩,
    ⟨(some 30), .val (.loadv 0 1 (some 6) (.t 1)), none⟩,
    ⟨(some 31), .val (.mov (.t 8)), none⟩,
    ⟨none, .storev 0 2 4 (.t 2) (.t 29), none⟩,
    ⟨none, .storev 0 3 6 (.t 3) (.t 30), none⟩,
    ⟨(some 4), .val (.mov (.t 31)), none⟩]
def g16_7 : List Am.Item := [
    ⟨(some 33), .val (.mov (.t 5)), none⟩,
    ⟨(some 34), .val (.mov (.t 6)), none⟩,
    ⟨(some 35), .val (.build [.int .i64 0, .int .i64 0, .int .u64 0, .str []] [(0, 1, (.t 33)), (1, 1, (.t 34))]), none⟩,
    ⟨(some 36), .val (.load (some 6) (.t 7)), none⟩,
    ⟨(some 37), .call (.f 37) [(.t 35), (.t 36)], none⟩,
    ⟨(some 32), .val (.mov (.t 37)), none⟩,
    ⟨(some 38), .val (.ext (.t 32) 0), none⟩,
    ⟨(some 39), .val (.ext (.t 32) 1), none⟩,
    ⟨(some 40), .val (.ext (.t 32) 2), none⟩,
    ⟨(some 9), .allocN 9 [.int .i64 0, .int .i64 0, .int .u64 0, .str []], none⟩,
    ⟨none, .store 4 (.t 9) (.t 38), none⟩,
    ⟨none, .store 6 (.t 7) (.t 39), none⟩,
    ⟨(some 8), .val (.mov (.t 40)), none⟩]
def g16_8 : List Am.Item := [
    ⟨(some 41), .val (.mov (.t 8)), none⟩,
    ⟨(some 42), .val (.bin .num .neq (.t 41) (.c (.int .i64 0))), none⟩]
def g16_9 : List Am.Item := [
    ⟨(some 43), .val (.build [.int .i64 0, .int .i64 0, .int .u64 0, .str []] []), none⟩,
    ⟨(some 44), .val (.loadv 0 1 (some 6) (.t 1)), none⟩,
    ⟨(some 45), .val (.mov (.t 8)), none⟩,
    ⟨none, .storev 0 2 4 (.t 2) (.t 43), none⟩,
    ⟨none, .storev 0 3 6 (.t 3) (.t 44), none⟩,
    ⟨(some 4), .val (.mov (.t 45)), none⟩]
def g16_10 : List Am.Item := [
    ⟨(some 46), .val (.loadv 0 9 (some 4) (.t 9)), none⟩,
    ⟨(some 47), .val (.loadv 0 7 (some 6) (.t 7)), none⟩,
    ⟨none, .storev 0 2 4 (.t 2) (.t 46), none⟩,
    ⟨none, .storev 0 3 6 (.t 3) (.t 47), none⟩,
    ⟨(some 4), .val (.mov (.c (.int .i64 0))), none⟩]
def r16 : RC := .seq (.reg g16_0) (.seq (.reg g16_1) (.seq (.seq (.reg g16_2) (.cond (.t 18) (.seq (.draw g16_3) (.ret)) (.skip))) (.seq (.reg g16_4) (.seq (.seq (.reg g16_5) (.cond (.t 28) (.seq (.draw g16_6) (.ret)) (.skip))) (.seq (.reg g16_7) (.seq (.seq (.reg g16_8) (.cond (.t 42) (.seq (.draw g16_9) (.ret)) (.skip))) (.seq (.draw g16_10) (.ret))))))))
def o16 : List RR := [.cell 2 (some 4), .cell 3 (some 6), .tmp 4]
theorem k16 : chkC Try.prog 48 r16 (Try.f16.body.getD .skip) = true := by decide +kernel
theorem q16 : chkR Try.prog Try.f16.results.toList o16 = true := by decide +kernel

/- wireschema/wireschemaref23.Scan -/
def g18_0 : List Am.Item := [
    ⟨(some 3), .boxN 3 (.t 1), none⟩,
    ⟨(some 4), .val (.mov (.c (.nils))), none⟩,
    ⟨(some 5), .val (.mov (.c (.int .i64 0))), none⟩]
def g18_1 : List Am.Item := [
    ⟨(some 13), .val (.mov (.t 0)), none⟩,
    ⟨(some 14), .val (.load (some 4) (.t 3)), none⟩,
    ⟨(some 15), .call (.f 40) [(.t 13), (.t 14)], none⟩,
    ⟨(some 12), .val (.mov (.t 15)), none⟩,
    ⟨(some 16), .val (.ext (.t 12) 0), none⟩,
    ⟨(some 17), .val (.ext (.t 12) 1), none⟩,
    ⟨(some 6), .allocN 6 [.str [], .int .i64 0, .int .i64 0, .int .i64 0, .int .i64 0, .int .i64 0], none⟩,
    ⟨none, .store 6 (.t 6) (.t 16), none⟩,
    ⟨(some 7), .val (.mov (.t 17)), none⟩]
def g18_2 : List Am.Item := [
    ⟨(some 18), .val (.mov (.t 7)), none⟩,
    ⟨(some 19), .val (.bin .num .neq (.t 18) (.c (.int .i64 0))), none⟩]
def g18_3 : List Am.Item := [
    ⟨(some 20), .val (.mov (.t 7)), none⟩,
    ⟨(some 4), .val (.mov (.c (.nils))), none⟩,
    ⟨(some 5), .val (.mov (.t 20)), none⟩]
def g18_4 : List Am.Item := [
    ⟨(some 8), .val (.mov (.c (.nils))), none⟩]
def g18_5 : List Am.Item := [
    ⟨(some 21), .val (.load (some 6) (.t 6)), none⟩,
    ⟨(some 22), .call (.f 41) [(.t 21)], none⟩,
    ⟨(some 23), .val (.bin .num .gtr (.t 22) (.c (.int .i64 0))), none⟩]
def g18_6 : List Am.Item := [
    ⟨(some 25), .val (.load (some 6) (.t 6)), none⟩,
    ⟨(some 26), .call (.f 16) [(.t 25)], none⟩,
    ⟨(some 24), .val (.mov (.t 26)), none⟩,
    ⟨(some 27), .val (.ext (.t 24) 0), none⟩,
    ⟨(some 28), .val (.ext (.t 24) 1), none⟩,
    ⟨(some 29), .val (.ext (.t 24) 2), none⟩,
    ⟨(some 9), .allocN 9 [.int .i64 0, .int .i64 0, .int .u64 0, .str []], none⟩,
    ⟨(some 10), .allocN 10 [.str [], .int .i64 0, .int .i64 0, .int .i64 0, .int .i64 0, .int .i64 0], none⟩,
    ⟨none, .store 4 (.t 9) (.t 27), none⟩,
    ⟨none, .store 6 (.t 10) (.t 28), none⟩,
    ⟨(some 11), .val (.mov (.t 29)), none⟩]
def g18_7 : List Am.Item := [
    ⟨(some 30), .val (.mov (.t 11)), none⟩,
    ⟨(some 31), .val (.bin .num .neq (.t 30) (.c (.int .i64 0))), none⟩]
def g18_8 : List Am.Item := [
    ⟨(some 32), .val (.mov (.t 11)), none⟩,
    ⟨(some 4), .val (.mov (.c (.nils))), none⟩,
    ⟨(some 5), .val (.mov (.t 32)), none⟩]
def g18_9 : List Am.Item := [
    ⟨(some 33), .val (.mov (.t 8)), none⟩,
    ⟨(some 34), .val (.load (some 4) (.t 9)), none⟩,
    ⟨(some 35), .bsl 4 1 [.int .i64 0, .int .i64 0, .int .u64 0, .str []] [(0, 4, (.t 34))], none⟩,
    ⟨(some 36), .app 4 40 33 (.t 33) (.t 35), none⟩,
    ⟨(some 8), .val (.mov (.t 36)), none⟩]
def g18_10 : List Am.Item := [
    ⟨(some 37), .val (.load (some 6) (.t 10)), none⟩,
    ⟨none, .store 6 (.t 6) (.t 37), none⟩]
def l18_0 : RC := .gho (.drop 10) (.gho (.drop 9) (.seq (.seq (.reg g18_5) (.cond (.t 23) (.skip) (.exit 0))) (.block 1 (.seq (.reg g18_6) (.seq (.seq (.reg g18_7) (.cond (.t 31) (.seq (.reg g18_8) (.ret)) (.skip))) (.seq (.reg g18_9) (.reg g18_10)))))))
def g18_11 : List Am.Item := [
    ⟨(some 38), .val (.mov (.t 8)), none⟩,
    ⟨(some 4), .val (.mov (.t 38)), none⟩,
    ⟨(some 5), .val (.mov (.c (.int .i64 0))), none⟩]
def r18 : RC := .seq (.reg g18_0) (.seq (.reg g18_1) (.seq (.seq (.reg g18_2) (.cond (.t 19) (.seq (.reg g18_3) (.ret)) (.skip))) (.seq (.reg g18_4) (.gho (.vec 8 8 4) (.seq (.block 0 (.loop l18_0)) (.seq (.reg g18_11) (.ret)))))))
def o18 : List RR := [.tmp 4, .tmp 5]
theorem k18 : chkC Try.prog 39 r18 (Try.f18.body.getD .skip) = true := by decide +kernel
theorem q18 : chkR Try.prog Try.f18.results.toList o18 = true := by decide +kernel

/- wireschema/wireschemaref23.Same -/
def g19_0 : List Am.Item := [
    ⟨(some 4), .val (.mov (.c (.bool false))), none⟩]
def g19_1 : List Am.Item := [
    ⟨(some 6), .val (.mov (.t 0)), none⟩,
    ⟨(some 7), .val (.len 1 (.t 6)), none⟩,
    ⟨(some 8), .val (.mov (.t 1)), none⟩,
    ⟨(some 9), .val (.len 1 (.t 8)), none⟩,
    ⟨(some 10), .val (.bin .num .neq (.t 7) (.t 9)), none⟩]
def g19_2 : List Am.Item := [
    ⟨(some 4), .val (.mov (.c (.bool false))), none⟩]
def g19_3 : List Am.Item := [
    ⟨(some 5), .val (.mov (.c (.int .i64 0))), none⟩]
def g19_4 : List Am.Item := [
    ⟨(some 11), .val (.mov (.t 5)), none⟩,
    ⟨(some 12), .val (.mov (.t 0)), none⟩,
    ⟨(some 13), .val (.len 1 (.t 12)), none⟩,
    ⟨(some 14), .val (.bin .num .lss (.t 11) (.t 13)), none⟩]
def g19_6 : List Am.Item := [
    ⟨(some 17), .val (.mov (.t 0)), none⟩,
    ⟨(some 18), .val (.mov (.t 5)), none⟩,
    ⟨(some 19), .val (.iaddr 4 none (.t 17) (.t 18)), none⟩,
    ⟨(some 20), .val (.loadr (some 4) (.t 19)), none⟩,
    ⟨(some 21), .val (.mov (.t 1)), none⟩,
    ⟨(some 22), .val (.mov (.t 5)), none⟩,
    ⟨(some 23), .val (.iaddr 4 none (.t 21) (.t 22)), none⟩,
    ⟨(some 24), .val (.loadr (some 4) (.t 23)), none⟩,
    ⟨(some 25), .val (.eqs true [.num, .num, .num, .str] (.t 20) (.t 24)), none⟩]
def g19_7 : List Am.Item := [
    ⟨(some 4), .val (.mov (.c (.bool false))), none⟩]
def g19_5 : List Am.Item := [
    ⟨(some 15), .val (.mov (.t 5)), none⟩,
    ⟨(some 16), .val (.bin .num .add (.t 15) (.c (.int .i64 1))), none⟩,
    ⟨(some 5), .val (.mov (.t 16)), none⟩]
def l19_0 : RC := .seq (.seq (.reg g19_4) (.cond (.t 14) (.skip) (.exit 0))) (.seq (.block 1 (.seq (.draw g19_6) (.cond (.t 25) (.seq (.reg g19_7) (.ret)) (.skip)))) (.reg g19_5))
def g19_8 : List Am.Item := [
    ⟨(some 4), .val (.mov (.c (.bool true))), none⟩]
def r19 : RC := .seq (.reg g19_0) (.seq (.seq (.reg g19_1) (.cond (.t 10) (.seq (.reg g19_2) (.ret)) (.skip))) (.seq (.seq (.reg g19_3) (.block 0 (.loop l19_0))) (.seq (.reg g19_8) (.ret))))
def o19 : List RR := [.tmp 4]
theorem k19 : chkC Try.prog 26 r19 (Try.f19.body.getD .skip) = true := by decide +kernel
theorem q19 : chkR Try.prog Try.f19.results.toList o19 = true := by decide +kernel

/- wireschema/wireschemaref23.Valid -/
def g24_0 : List Am.Item := [
    ⟨(some 1), .boxN 1 (.t 0), none⟩,
    ⟨(some 2), .val (.mov (.c (.bool false))), none⟩]
def g24_1 : List Am.Item := [
    ⟨(some 6), .val (.faddr 0 (.t 1)), none⟩,
    ⟨(some 7), .val (.load none (.t 6)), none⟩,
    ⟨(some 8), .val (.faddr 1 (.t 1)), none⟩,
    ⟨(some 9), .val (.load none (.t 8)), none⟩,
    ⟨(some 10), .call (.f 11) [(.t 7), (.t 9)], none⟩,
    ⟨(some 5), .val (.mov (.t 10)), none⟩,
    ⟨(some 11), .val (.ext (.t 5) 0), none⟩,
    ⟨(some 12), .val (.ext (.t 5) 1), none⟩,
    ⟨(some 3), .val (.mov (.t 11)), none⟩,
    ⟨(some 4), .val (.mov (.t 12)), none⟩]
def g24_2 : List Am.Item := [
    ⟨(some 13), .val (.faddr 1 (.t 1)), none⟩,
    ⟨(some 14), .val (.load none (.t 13)), none⟩,
    ⟨(some 15), .call (.f 46) [(.t 14)], none⟩]
def g24_3 : List Am.Item := [
    ⟨(some 16), .val (.mov (.t 4)), none⟩,
    ⟨(some 17), .val (.bin .num .eql (.t 16) (.c (.int .i64 0))), none⟩,
    ⟨(some 18), .val (.mov (.t 17)), none⟩,
    ⟨(some 19), .val (.faddr 3 (.t 1)), (some (18, true))⟩,
    ⟨(some 20), .val (.load none (.t 19)), (some (18, true))⟩,
    ⟨(some 21), .val (.bin .str .eql (.t 20) (.c (.str []))), (some (18, true))⟩,
    ⟨(some 22), .val (.pick (.t 18) (.t 21) (.c (.bool false))), none⟩,
    ⟨(some 2), .val (.mov (.t 22)), none⟩]
def g24_4 : List Am.Item := [
    ⟨(some 23), .val (.mov (.t 4)), none⟩,
    ⟨(some 24), .val (.bin .num .eql (.t 23) (.c (.int .i64 0))), none⟩,
    ⟨(some 25), .val (.mov (.t 24)), none⟩,
    ⟨(some 26), .val (.faddr 2 (.t 1)), (some (25, true))⟩,
    ⟨(some 27), .val (.load none (.t 26)), (some (25, true))⟩,
    ⟨(some 28), .val (.bin .num .eql (.t 27) (.c (.int .u64 0))), (some (25, true))⟩,
    ⟨(some 29), .val (.pick (.t 25) (.t 28) (.c (.bool false))), none⟩,
    ⟨(some 2), .val (.mov (.t 29)), none⟩]
def r24 : RC := .seq (.reg g24_0) (.seq (.reg g24_1) (.seq (.seq (.reg g24_2) (.cond (.t 15) (.seq (.reg g24_3) (.ret)) (.skip))) (.seq (.reg g24_4) (.ret))))
def o24 : List RR := [.tmp 2]
theorem k24 : chkC Try.prog 30 r24 (Try.f24.body.getD .skip) = true := by decide +kernel
theorem q24 : chkR Try.prog Try.f24.results.toList o24 = true := by decide +kernel

/- wireschema/wireschemaref23.Put -/
def g25_0 : List Am.Item := [
    ⟨(some 2), .val (.mov (.c (.str []))), none⟩]
def g25_1 : List Am.Item := [
    ⟨(some 3), .val (.mov (.c (.str []))), none⟩]
def g25_2 : List Am.Item := [
    ⟨(some 4), .val (.mov (.c (.int .i64 0))), none⟩]
def g25_3 : List Am.Item := [
    ⟨(some 8), .val (.mov (.t 4)), none⟩,
    ⟨(some 9), .val (.mov (.t 0)), none⟩,
    ⟨(some 10), .val (.len 1 (.t 9)), none⟩,
    ⟨(some 11), .val (.bin .num .lss (.t 8) (.t 10)), none⟩]
def g25_5 : List Am.Item := [
    ⟨(some 14), .val (.mov (.t 0)), none⟩,
    ⟨(some 15), .val (.mov (.t 4)), none⟩,
    ⟨(some 16), .val (.iaddr 4 none (.t 14) (.t 15)), none⟩,
    ⟨(some 17), .val (.load (some 4) (.t 16)), none⟩,
    ⟨(some 5), .allocN 5 [.int .i64 0, .int .i64 0, .int .u64 0, .str []], none⟩,
    ⟨none, .store 4 (.t 5) (.t 17), none⟩]
def g25_6 : List Am.Item := [
    ⟨(some 18), .val (.load (some 4) (.t 5)), none⟩,
    ⟨(some 19), .call (.f 24) [(.t 18)], none⟩,
    ⟨(some 20), .val (.un .not (.t 19)), none⟩]
def g25_7 : List Am.Item := [
    ⟨(some 22), .val (.faddr 0 (.t 5)), none⟩,
    ⟨(some 23), .val (.load none (.t 22)), none⟩,
    ⟨(some 24), .val (.faddr 1 (.t 5)), none⟩,
    ⟨(some 25), .val (.load none (.t 24)), none⟩,
    ⟨(some 26), .call (.f 11) [(.t 23), (.t 25)], none⟩,
    ⟨(some 21), .val (.mov (.t 26)), none⟩,
    ⟨(some 27), .val (.ext (.t 21) 0), none⟩,
    ⟨(some 28), .val (.ext (.t 21) 1), none⟩,
    ⟨(some 6), .val (.mov (.t 27)), none⟩,
    ⟨(some 7), .val (.mov (.t 28)), none⟩]
def g25_8 : List Am.Item := [
    ⟨(some 29), .val (.mov (.t 3)), none⟩,
    ⟨(some 30), .val (.mov (.t 6)), none⟩,
    ⟨(some 31), .val (.bin .str .add (.t 29) (.t 30)), none⟩,
    ⟨(some 3), .val (.mov (.t 31)), none⟩]
def g25_9 : List Am.Item := [
    ⟨(some 32), .val (.faddr 1 (.t 5)), none⟩,
    ⟨(some 33), .val (.load none (.t 32)), none⟩,
    ⟨(some 34), .val (.bin .num .eql (.t 33) (.c (.int .i64 2))), none⟩]
def g25_10 : List Am.Item := [
    ⟨(some 35), .val (.mov (.t 3)), none⟩,
    ⟨(some 36), .val (.faddr 2 (.t 5)), none⟩,
    ⟨(some 37), .val (.load none (.t 36)), none⟩,
    ⟨(some 38), .call (.f 47) [(.t 37)], none⟩,
    ⟨(some 39), .val (.bin .str .add (.t 35) (.t 38)), none⟩,
    ⟨(some 3), .val (.mov (.t 39)), none⟩]
def g25_11 : List Am.Item := [
    ⟨(some 40), .val (.faddr 1 (.t 5)), none⟩,
    ⟨(some 41), .val (.load none (.t 40)), none⟩,
    ⟨(some 42), .call (.f 46) [(.t 41)], none⟩]
def g25_12 : List Am.Item := [
    ⟨(some 43), .val (.mov (.t 3)), none⟩,
    ⟨(some 44), .val (.faddr 2 (.t 5)), none⟩,
    ⟨(some 45), .val (.load none (.t 44)), none⟩,
    ⟨(some 46), .call (.f 31) [(.t 45)], none⟩,
    ⟨(some 47), .val (.bin .str .add (.t 43) (.t 46)), none⟩,
    ⟨(some 3), .val (.mov (.t 47)), none⟩]
def g25_13 : List Am.Item := [
    ⟨(some 48), .val (.mov (.t 3)), none⟩,
    ⟨(some 49), .val (.faddr 3 (.t 5)), none⟩,
    ⟨(some 50), .val (.loadv 0 5 none (.t 49)), none⟩,
    ⟨(some 51), .val (.len 0 (.t 50)), none⟩,
    ⟨(some 52), .val (.cvi .u64 (.t 51)), none⟩,
    ⟨(some 53), .call (.f 31) [(.t 52)], none⟩,
    ⟨(some 54), .val (.faddr 3 (.t 5)), none⟩,
    ⟨(some 55), .val (.loadv 0 5 none (.t 54)), none⟩,
    ⟨(some 56), .val (.bin .str .add (.t 53) (.t 55)), none⟩,
    ⟨(some 57), .val (.bin .str .add (.t 48) (.t 56)), none⟩,
    ⟨(some 3), .val (.mov (.t 57)), none⟩]
def g25_4 : List Am.Item := [
    ⟨(some 12), .val (.mov (.t 4)), none⟩,
    ⟨(some 13), .val (.bin .num .add (.t 12) (.c (.int .i64 1))), none⟩,
    ⟨(some 4), .val (.mov (.t 13)), none⟩]
def l25_0 : RC := .gho (.drop 5) (.seq (.seq (.reg g25_3) (.cond (.t 11) (.skip) (.exit 0))) (.seq (.block 1 (.seq (.reg g25_5) (.seq (.seq (.reg g25_6) (.cond (.t 20) (.exit 1) (.skip))) (.seq (.reg g25_7) (.seq (.reg g25_8) (.seq (.reg g25_9) (.cond (.t 34) (.reg g25_10) (.seq (.reg g25_11) (.cond (.t 42) (.reg g25_12) (.draw g25_13)))))))))) (.reg g25_4)))
def g25_14 : List Am.Item := [
    ⟨(some 58), .val (.mov (.t 3)), none⟩,
    ⟨(some 2), .val (.mov (.t 58)), none⟩]
def r25 : RC := .seq (.reg g25_0) (.seq (.reg g25_1) (.seq (.seq (.reg g25_2) (.block 0 (.loop l25_0))) (.seq (.reg g25_14) (.ret))))
def o25 : List RR := [.tmp 2]
theorem k25 : chkC Try.prog 59 r25 (Try.f25.body.getD .skip) = true := by decide +kernel
theorem q25 : chkR Try.prog Try.f25.results.toList o25 = true := by decide +kernel

/- (*strings.Builder).copyCheck -/
def g62_0 : List Am.Item := [
    ⟨(some 2), .val (.mov (.t 0)), none⟩,
    ⟨(some 3), .val (.nilck (.t 2)), none⟩,
    ⟨(some 4), .val (.faddr 0 (.t 3)), none⟩,
    ⟨(some 5), .val (.load none (.t 4)), none⟩,
    ⟨(some 6), .val (.bin .ptr .eql (.t 5) (.c (.nilp))), none⟩]
def g62_1 : List Am.Item := [
    ⟨(some 7), .val (.mov (.t 0)), none⟩,
    ⟨(some 8), .val (.mov (.t 0)), none⟩,
    ⟨(some 9), .val (.toU (.t 8)), none⟩,
    ⟨(some 10), .val (.same (.t 9)), none⟩,
    ⟨(some 11), .val (.ofU 71 2 (.t 10)), none⟩,
    ⟨(some 12), .val (.nilck (.t 7)), none⟩,
    ⟨(some 13), .val (.faddr 0 (.t 12)), none⟩,
    ⟨none, .store 1 (.t 13) (.t 11), none⟩]
def g62_2 : List Am.Item := [
    ⟨(some 14), .val (.mov (.t 0)), none⟩,
    ⟨(some 15), .val (.nilck (.t 14)), none⟩,
    ⟨(some 16), .val (.faddr 0 (.t 15)), none⟩,
    ⟨(some 17), .val (.load none (.t 16)), none⟩,
    ⟨(some 18), .val (.mov (.t 0)), none⟩,
    ⟨(some 19), .val (.bin .ptr .neq (.t 17) (.t 18)), none⟩]
def r62 : RC := .seq (.reg g62_0) (.cond (.t 6) (.reg g62_1) (.seq (.reg g62_2) (.cond (.t 19) (.no) (.skip))))
def o62 : List RR := []
theorem k62 : chkC Try.prog 20 r62 (Try.f62.body.getD .skip) = true := by decide +kernel
theorem q62 : chkR Try.prog Try.f62.results.toList o62 = true := by decide +kernel

/- (*strings.Builder).WriteString -/
def g43_0 : List Am.Item := [
    ⟨(some 4), .val (.mov (.c (.int .i64 0))), none⟩,
    ⟨(some 5), .val (.mov (.c (.nili))), none⟩]
def g43_1 : List Am.Item := [
    ⟨(some 6), .val (.mov (.t 0)), none⟩,
    ⟨(some 7), .callF (.f 62) [(.t 6)], none⟩]
def g43_2 : List Am.Item := [
    ⟨(some 8), .val (.mov (.t 0)), none⟩,
    ⟨(some 9), .val (.mov (.t 0)), none⟩,
    ⟨(some 10), .val (.nilck (.t 9)), none⟩,
    ⟨(some 11), .val (.faddr 1 (.t 10)), none⟩,
    ⟨(some 12), .val (.load none (.t 11)), none⟩,
    ⟨(some 13), .val (.mov (.t 1)), none⟩,
    ⟨(some 14), .appS 5 (.t 12) (.t 13), none⟩,
    ⟨(some 15), .val (.nilck (.t 8)), none⟩,
    ⟨(some 16), .val (.faddr 1 (.t 15)), none⟩,
    ⟨none, .store 1 (.t 16) (.t 14), none⟩]
def g43_3 : List Am.Item := [
    ⟨(some 17), .val (.mov (.t 1)), none⟩,
    ⟨(some 18), .val (.len 0 (.t 17)), none⟩,
    ⟨(some 4), .val (.mov (.t 18)), none⟩,
    ⟨(some 5), .val (.mov (.c (.nili))), none⟩]
def r43 : RC := .seq (.reg g43_0) (.seq (.reg g43_1) (.seq (.reg g43_2) (.seq (.reg g43_3) (.ret))))
def o43 : List RR := [.tmp 4, .tmp 5]
theorem k43 : chkC Try.prog 19 r43 (Try.f43.body.getD .skip) = true := by decide +kernel
theorem q43 : chkR Try.prog Try.f43.results.toList o43 = true := by decide +kernel

/- (*strings.Builder).String -/
def g45_0 : List Am.Item := [
    ⟨(some 2), .val (.mov (.c (.str []))), none⟩]
def g45_1 : List Am.Item := [
    ⟨(some 3), .val (.mov (.t 0)), none⟩,
    ⟨(some 4), .val (.nilck (.t 3)), none⟩,
    ⟨(some 5), .val (.faddr 1 (.t 4)), none⟩,
    ⟨(some 6), .val (.load none (.t 5)), none⟩,
    ⟨(some 7), .usd (.t 6), none⟩,
    ⟨(some 8), .val (.mov (.t 0)), none⟩,
    ⟨(some 9), .val (.nilck (.t 8)), none⟩,
    ⟨(some 10), .val (.faddr 1 (.t 9)), none⟩,
    ⟨(some 11), .val (.load none (.t 10)), none⟩,
    ⟨(some 12), .val (.len 1 (.t 11)), none⟩,
    ⟨(some 13), .ustr 5 (.t 7) (.t 12), none⟩,
    ⟨(some 2), .val (.mov (.t 13)), none⟩]
def r45 : RC := .seq (.reg g45_0) (.seq (.draw g45_1) (.ret))
def o45 : List RR := [.tmp 2]
theorem k45 : chkC Try.prog 14 r45 (Try.f45.body.getD .skip) = true := by decide +kernel
theorem q45 : chkR Try.prog Try.f45.results.toList o45 = true := by decide +kernel

/- wireschema/wireschemalaw23.wide -/
def g23_0 : List Am.Item := [
    ⟨(some 0), .allocN 0 [.int .i64 0, .int .i64 0, .int .i64 0, .int .i64 0], none⟩]
def g23_1 : List Am.Item := [
    ⟨(some 1), .val (.build [.int .i64 0, .int .i64 0, .int .i64 0, .int .i64 0] [(0, 1, (.c (.int .i64 1073741824))), (2, 1, (.c (.int .i64 1073741824))), (3, 1, (.c (.int .i64 1073741824)))]), none⟩,
    ⟨none, .store 4 (.t 0) (.t 1), none⟩]
def r23 : RC := .seq (.reg g23_0) (.seq (.reg g23_1) (.ret))
def o23 : List RR := [.cell 0 (some 4)]
theorem k23 : chkC Try.prog 2 r23 (Try.f23.body.getD .skip) = true := by decide +kernel
theorem q23 : chkR Try.prog Try.f23.results.toList o23 = true := by decide +kernel

/- wireschema/wireschemalaw23.awake -/
def g14_0 : List Am.Item := [
    ⟨(some 0), .val (.mov (.c (.bool false))), none⟩]
def g14_1 : List Am.Item := [
    ⟨(some 4), .call (.f 23) [], none⟩,
    ⟨(some 5), .call (.f 17) [(.c (.str [8, 5, 19, 1, 97])), (.t 4)], none⟩,
    ⟨(some 3), .val (.mov (.t 5)), none⟩,
    ⟨(some 6), .val (.ext (.t 3) 0), none⟩,
    ⟨(some 7), .val (.ext (.t 3) 1), none⟩,
    ⟨(some 1), .val (.mov (.t 6)), none⟩,
    ⟨(some 2), .val (.mov (.t 7)), none⟩]
def g14_2 : List Am.Item := [
    ⟨(some 8), .val (.mov (.t 2)), none⟩,
    ⟨(some 9), .val (.bin .num .eql (.t 8) (.c (.int .i64 0))), none⟩,
    ⟨(some 10), .val (.mov (.t 9)), none⟩,
    ⟨(some 11), .val (.mov (.t 1)), (some (10, true))⟩,
    ⟨(some 12), .val (.len 1 (.t 11)), (some (10, true))⟩,
    ⟨(some 13), .val (.bin .num .eql (.t 12) (.c (.int .i64 2))), (some (10, true))⟩,
    ⟨(some 14), .val (.pick (.t 10) (.t 13) (.c (.bool false))), none⟩,
    ⟨(some 15), .val (.mov (.t 14)), none⟩,
    ⟨(some 16), .val (.mov (.t 1)), (some (15, true))⟩,
    ⟨(some 17), .val (.iaddr 4 none (.t 16) (.c (.int .i64 0))), (some (15, true))⟩,
    ⟨(some 18), .val (.load (some 4) (.t 17)), (some (15, true))⟩,
    ⟨(some 19), .val (.build [.int .i64 0, .int .i64 0, .int .u64 0, .str []] [(0, 1, (.c (.int .i64 1))), (1, 1, (.c (.int .i64 0))), (2, 1, (.c (.int .u64 5)))]), (some (15, true))⟩,
    ⟨(some 20), .val (.eqs false [.num, .num, .num, .str] (.t 18) (.t 19)), (some (15, true))⟩,
    ⟨(some 21), .val (.pick (.t 15) (.t 20) (.c (.bool false))), none⟩,
    ⟨(some 22), .val (.mov (.t 21)), none⟩,
    ⟨(some 23), .val (.mov (.t 1)), (some (22, true))⟩,
    ⟨(some 24), .val (.iaddr 4 none (.t 23) (.c (.int .i64 1))), (some (22, true))⟩,
    ⟨(some 25), .val (.load (some 4) (.t 24)), (some (22, true))⟩,
    ⟨(some 26), .val (.build [.int .i64 0, .int .i64 0, .int .u64 0, .str []] [(0, 1, (.c (.int .i64 2))), (1, 1, (.c (.int .i64 3))), (3, 1, (.c (.str [97])))]), (some (22, true))⟩,
    ⟨(some 27), .val (.eqs false [.num, .num, .num, .str] (.t 25) (.t 26)), (some (22, true))⟩,
    ⟨(some 28), .val (.pick (.t 22) (.t 27) (.c (.bool false))), none⟩,
    ⟨(some 29), .val (.mov (.t 28)), none⟩,
    ⟨(some 30), .val (.build [.int .i64 0, .int .i64 0, .int .u64 0, .str []] [(0, 1, (.c (.int .i64 1))), (2, 1, (.c (.int .u64 300)))]), (some (29, true))⟩,
    ⟨(some 31), .bsl 4 1 [.int .i64 0, .int .i64 0, .int .u64 0, .str []] [(0, 4, (.t 30))], (some (29, true))⟩,
    ⟨(some 32), .call (.f 22) [(.t 31)], (some (29, true))⟩,
    ⟨(some 33), .val (.bin .str .eql (.t 32) (.c (.str [8, 172, 2]))), (some (29, true))⟩,
    ⟨(some 34), .val (.pick (.t 29) (.t 33) (.c (.bool false))), none⟩,
    ⟨(some 0), .val (.mov (.t 34)), none⟩]
def r14 : RC := .seq (.reg g14_0) (.seq (.reg g14_1) (.seq (.reg g14_2) (.ret)))
def o14 : List RR := [.tmp 0]
theorem k14 : chkC Try.prog 35 r14 (Try.f14.body.getD .skip) = true := by decide +kernel
theorem q14 : chkR Try.prog Try.f14.results.toList o14 = true := by decide +kernel

/- wireschema/wireschemalaw23.long -/
def g20_0 : List Am.Item := [
    ⟨(some 2), .val (.mov (.c (.bool false))), none⟩]
def g20_1 : List Am.Item := [
    ⟨(some 4), .val (.mov (.t 0)), none⟩,
    ⟨(some 5), .val (.len 1 (.t 4)), none⟩,
    ⟨(some 6), .val (.bin .num .gtr (.t 5) (.c (.int .i64 300))), none⟩]
def g20_2 : List Am.Item := [
    ⟨(some 2), .val (.mov (.c (.bool true))), none⟩]
def g20_3 : List Am.Item := [
    ⟨(some 3), .val (.mov (.c (.int .i64 0))), none⟩]
def g20_4 : List Am.Item := [
    ⟨(some 7), .val (.mov (.t 3)), none⟩,
    ⟨(some 8), .val (.mov (.t 0)), none⟩,
    ⟨(some 9), .val (.len 1 (.t 8)), none⟩,
    ⟨(some 10), .val (.bin .num .lss (.t 7) (.t 9)), none⟩]
def g20_6 : List Am.Item := [
    ⟨(some 13), .val (.mov (.t 0)), none⟩,
    ⟨(some 14), .val (.mov (.t 3)), none⟩,
    ⟨(some 15), .val (.iaddr 4 none (.t 13) (.t 14)), none⟩,
    ⟨(some 16), .val (.faddr 3 (.t 15)), none⟩,
    ⟨(some 17), .val (.load none (.t 16)), none⟩,
    ⟨(some 18), .val (.len 0 (.t 17)), none⟩,
    ⟨(some 19), .val (.bin .num .gtr (.t 18) (.c (.int .i64 3000))), none⟩]
def g20_7 : List Am.Item := [
    ⟨(some 2), .val (.mov (.c (.bool true))), none⟩]
def g20_5 : List Am.Item := [
    ⟨(some 11), .val (.mov (.t 3)), none⟩,
    ⟨(some 12), .val (.bin .num .add (.t 11) (.c (.int .i64 1))), none⟩,
    ⟨(some 3), .val (.mov (.t 12)), none⟩]
def l20_0 : RC := .seq (.seq (.reg g20_4) (.cond (.t 10) (.skip) (.exit 0))) (.seq (.block 1 (.seq (.reg g20_6) (.cond (.t 19) (.seq (.reg g20_7) (.ret)) (.skip)))) (.reg g20_5))
def g20_8 : List Am.Item := [
    ⟨(some 2), .val (.mov (.c (.bool false))), none⟩]
def r20 : RC := .seq (.reg g20_0) (.seq (.seq (.reg g20_1) (.cond (.t 6) (.seq (.reg g20_2) (.ret)) (.skip))) (.seq (.seq (.reg g20_3) (.block 0 (.loop l20_0))) (.seq (.reg g20_8) (.ret))))
def o20 : List RR := [.tmp 2]
theorem k20 : chkC Try.prog 20 r20 (Try.f20.body.getD .skip) = true := by decide +kernel
theorem q20 : chkR Try.prog Try.f20.results.toList o20 = true := by decide +kernel

/- wireschema/wireschemalaw23.UnknownTags -/
def g3_0 : List Am.Item := [
    ⟨(some 5), .boxN 5 (.t 2), none⟩,
    ⟨(some 6), .val (.mov (.c (.bool false))), none⟩]
def g3_1 : List Am.Item := [
    ⟨(some 20), .val (.mov (.t 0)), none⟩,
    ⟨(some 21), .val (.mov (.t 1)), none⟩,
    ⟨(some 22), .call (.f 10) [(.t 20), (.t 21)], none⟩,
    ⟨(some 19), .val (.mov (.t 22)), none⟩,
    ⟨(some 23), .val (.ext (.t 19) 0), none⟩,
    ⟨(some 24), .val (.ext (.t 19) 1), none⟩,
    ⟨(some 7), .val (.mov (.t 23)), none⟩,
    ⟨(some 8), .val (.mov (.t 24)), none⟩]
def g3_2 : List Am.Item := [
    ⟨(some 26), .val (.mov (.t 0)), none⟩,
    ⟨(some 27), .val (.mov (.t 1)), none⟩,
    ⟨(some 28), .call (.f 11) [(.t 26), (.t 27)], none⟩,
    ⟨(some 25), .val (.mov (.t 28)), none⟩,
    ⟨(some 29), .val (.ext (.t 25) 0), none⟩,
    ⟨(some 30), .val (.ext (.t 25) 1), none⟩,
    ⟨(some 9), .val (.mov (.t 29)), none⟩,
    ⟨(some 10), .val (.mov (.t 30)), none⟩]
def g3_3 : List Am.Item := [
    ⟨(some 32), .val (.load (some 6) (.t 5)), none⟩,
    ⟨(some 33), .call (.f 12) [(.t 32)], none⟩,
    ⟨(some 31), .val (.mov (.t 33)), none⟩,
    ⟨(some 34), .val (.ext (.t 31) 0), none⟩,
    ⟨(some 35), .val (.ext (.t 31) 1), none⟩,
    ⟨(some 36), .val (.ext (.t 31) 2), none⟩,
    ⟨(some 37), .val (.ext (.t 31) 3), none⟩,
    ⟨(some 13), .allocN 13 [.str [], .int .i64 0, .int .i64 0, .int .i64 0, .int .i64 0, .int .i64 0], none⟩,
    ⟨(some 11), .val (.mov (.t 34)), none⟩,
    ⟨(some 12), .val (.mov (.t 35)), none⟩,
    ⟨none, .store 6 (.t 13) (.t 36), none⟩,
    ⟨(some 14), .val (.mov (.t 37)), none⟩]
def g3_4 : List Am.Item := [
    ⟨(some 39), .val (.load (some 6) (.t 5)), none⟩,
    ⟨(some 40), .call (.f 13) [(.t 39)], none⟩,
    ⟨(some 38), .val (.mov (.t 40)), none⟩,
    ⟨(some 41), .val (.ext (.t 38) 0), none⟩,
    ⟨(some 42), .val (.ext (.t 38) 1), none⟩,
    ⟨(some 43), .val (.ext (.t 38) 2), none⟩,
    ⟨(some 44), .val (.ext (.t 38) 3), none⟩,
    ⟨(some 17), .allocN 17 [.str [], .int .i64 0, .int .i64 0, .int .i64 0, .int .i64 0, .int .i64 0], none⟩,
    ⟨(some 15), .val (.mov (.t 41)), none⟩,
    ⟨(some 16), .val (.mov (.t 42)), none⟩,
    ⟨none, .store 6 (.t 17) (.t 43), none⟩,
    ⟨(some 18), .val (.mov (.t 44)), none⟩]
def g3_5 : List Am.Item := [
    ⟨(some 45), .val (.mov (.t 7)), none⟩,
    ⟨(some 46), .val (.mov (.t 9)), none⟩,
    ⟨(some 47), .val (.bin .str .eql (.t 45) (.t 46)), none⟩,
    ⟨(some 48), .val (.mov (.t 47)), none⟩,
    ⟨(some 49), .val (.mov (.t 8)), (some (48, true))⟩,
    ⟨(some 50), .val (.mov (.t 10)), (some (48, true))⟩,
    ⟨(some 51), .val (.bin .num .eql (.t 49) (.t 50)), (some (48, true))⟩,
    ⟨(some 52), .val (.pick (.t 48) (.t 51) (.c (.bool false))), none⟩,
    ⟨(some 53), .val (.mov (.t 52)), none⟩,
    ⟨(some 54), .val (.mov (.t 11)), (some (53, true))⟩,
    ⟨(some 55), .val (.mov (.t 15)), (some (53, true))⟩,
    ⟨(some 56), .val (.bin .num .eql (.t 54) (.t 55)), (some (53, true))⟩,
    ⟨(some 57), .val (.pick (.t 53) (.t 56) (.c (.bool false))), none⟩,
    ⟨(some 58), .val (.mov (.t 57)), none⟩,
    ⟨(some 59), .val (.mov (.t 12)), (some (58, true))⟩,
    ⟨(some 60), .val (.mov (.t 16)), (some (58, true))⟩,
    ⟨(some 61), .val (.bin .num .eql (.t 59) (.t 60)), (some (58, true))⟩,
    ⟨(some 62), .val (.pick (.t 58) (.t 61) (.c (.bool false))), none⟩,
    ⟨(some 63), .val (.mov (.t 62)), none⟩,
    ⟨(some 64), .val (.load (some 6) (.t 13)), (some (63, true))⟩,
    ⟨(some 65), .val (.load (some 6) (.t 17)), (some (63, true))⟩,
    ⟨(some 66), .val (.eqs false [.str, .num, .num, .num, .num, .num] (.t 64) (.t 65)), (some (63, true))⟩,
    ⟨(some 67), .val (.pick (.t 63) (.t 66) (.c (.bool false))), none⟩,
    ⟨(some 68), .val (.mov (.t 67)), none⟩,
    ⟨(some 69), .val (.mov (.t 14)), (some (68, true))⟩,
    ⟨(some 70), .val (.mov (.t 18)), (some (68, true))⟩,
    ⟨(some 71), .val (.bin .num .eql (.t 69) (.t 70)), (some (68, true))⟩,
    ⟨(some 72), .val (.pick (.t 68) (.t 71) (.c (.bool false))), none⟩,
    ⟨(some 73), .val (.mov (.t 72)), none⟩,
    ⟨(some 74), .call (.f 14) [], (some (73, true))⟩,
    ⟨(some 75), .val (.pick (.t 73) (.t 74) (.c (.bool false))), none⟩,
    ⟨(some 6), .val (.mov (.t 75)), none⟩]
def r3 : RC := .seq (.reg g3_0) (.seq (.reg g3_1) (.seq (.reg g3_2) (.seq (.reg g3_3) (.seq (.reg g3_4) (.seq (.reg g3_5) (.ret))))))
def o3 : List RR := [.tmp 6]
theorem k3 : chkC Try.prog 76 r3 (Try.f3.body.getD .skip) = true := by decide +kernel
theorem q3 : chkR Try.prog Try.f3.results.toList o3 = true := by decide +kernel

/- wireschema/wireschemalaw23.UnknownNext -/
def g4_0 : List Am.Item := [
    ⟨(some 1), .boxN 1 (.t 0), none⟩,
    ⟨(some 2), .val (.mov (.c (.bool false))), none⟩]
def g4_1 : List Am.Item := [
    ⟨(some 10), .val (.load (some 6) (.t 1)), none⟩,
    ⟨(some 11), .call (.f 15) [(.t 10)], none⟩,
    ⟨(some 9), .val (.mov (.t 11)), none⟩,
    ⟨(some 12), .val (.ext (.t 9) 0), none⟩,
    ⟨(some 13), .val (.ext (.t 9) 1), none⟩,
    ⟨(some 14), .val (.ext (.t 9) 2), none⟩,
    ⟨(some 3), .allocN 3 [.int .i64 0, .int .i64 0, .int .u64 0, .str []], none⟩,
    ⟨(some 4), .allocN 4 [.str [], .int .i64 0, .int .i64 0, .int .i64 0, .int .i64 0, .int .i64 0], none⟩,
    ⟨none, .store 4 (.t 3) (.t 12), none⟩,
    ⟨none, .store 6 (.t 4) (.t 13), none⟩,
    ⟨(some 5), .val (.mov (.t 14)), none⟩]
def g4_2 : List Am.Item := [
    ⟨(some 16), .val (.load (some 6) (.t 1)), none⟩,
    ⟨(some 17), .call (.f 16) [(.t 16)], none⟩,
    ⟨(some 15), .val (.mov (.t 17)), none⟩,
    ⟨(some 18), .val (.ext (.t 15) 0), none⟩,
    ⟨(some 19), .val (.ext (.t 15) 1), none⟩,
    ⟨(some 20), .val (.ext (.t 15) 2), none⟩,
    ⟨(some 6), .allocN 6 [.int .i64 0, .int .i64 0, .int .u64 0, .str []], none⟩,
    ⟨(some 7), .allocN 7 [.str [], .int .i64 0, .int .i64 0, .int .i64 0, .int .i64 0, .int .i64 0], none⟩,
    ⟨none, .store 4 (.t 6) (.t 18), none⟩,
    ⟨none, .store 6 (.t 7) (.t 19), none⟩,
    ⟨(some 8), .val (.mov (.t 20)), none⟩]
def g4_3 : List Am.Item := [
    ⟨(some 21), .val (.load (some 4) (.t 3)), none⟩,
    ⟨(some 22), .val (.load (some 4) (.t 6)), none⟩,
    ⟨(some 23), .val (.eqs false [.num, .num, .num, .str] (.t 21) (.t 22)), none⟩,
    ⟨(some 24), .val (.mov (.t 23)), none⟩,
    ⟨(some 25), .val (.load (some 6) (.t 4)), (some (24, true))⟩,
    ⟨(some 26), .val (.load (some 6) (.t 7)), (some (24, true))⟩,
    ⟨(some 27), .val (.eqs false [.str, .num, .num, .num, .num, .num] (.t 25) (.t 26)), (some (24, true))⟩,
    ⟨(some 28), .val (.pick (.t 24) (.t 27) (.c (.bool false))), none⟩,
    ⟨(some 29), .val (.mov (.t 28)), none⟩,
    ⟨(some 30), .val (.mov (.t 5)), (some (29, true))⟩,
    ⟨(some 31), .val (.mov (.t 8)), (some (29, true))⟩,
    ⟨(some 32), .val (.bin .num .eql (.t 30) (.t 31)), (some (29, true))⟩,
    ⟨(some 33), .val (.pick (.t 29) (.t 32) (.c (.bool false))), none⟩,
    ⟨(some 34), .val (.mov (.t 33)), none⟩,
    ⟨(some 35), .call (.f 14) [], (some (34, true))⟩,
    ⟨(some 36), .val (.pick (.t 34) (.t 35) (.c (.bool false))), none⟩,
    ⟨(some 2), .val (.mov (.t 36)), none⟩]
def r4 : RC := .seq (.reg g4_0) (.seq (.reg g4_1) (.seq (.reg g4_2) (.seq (.reg g4_3) (.ret))))
def o4 : List RR := [.tmp 2]
theorem k4 : chkC Try.prog 37 r4 (Try.f4.body.getD .skip) = true := by decide +kernel
theorem q4 : chkR Try.prog Try.f4.results.toList o4 = true := by decide +kernel

/- wireschema/wireschemalaw23.UnknownScans -/
def g5_0 : List Am.Item := [
    ⟨(some 3), .boxN 3 (.t 1), none⟩,
    ⟨(some 4), .val (.mov (.c (.bool false))), none⟩]
def g5_1 : List Am.Item := [
    ⟨(some 10), .val (.mov (.t 0)), none⟩,
    ⟨(some 11), .val (.load (some 4) (.t 3)), none⟩,
    ⟨(some 12), .call (.f 17) [(.t 10), (.t 11)], none⟩,
    ⟨(some 9), .val (.mov (.t 12)), none⟩,
    ⟨(some 13), .val (.ext (.t 9) 0), none⟩,
    ⟨(some 14), .val (.ext (.t 9) 1), none⟩,
    ⟨(some 5), .val (.mov (.t 13)), none⟩,
    ⟨(some 6), .val (.mov (.t 14)), none⟩]
def g5_2 : List Am.Item := [
    ⟨(some 16), .val (.mov (.t 0)), none⟩,
    ⟨(some 17), .val (.load (some 4) (.t 3)), none⟩,
    ⟨(some 18), .call (.f 18) [(.t 16), (.t 17)], none⟩,
    ⟨(some 15), .val (.mov (.t 18)), none⟩,
    ⟨(some 19), .val (.ext (.t 15) 0), none⟩,
    ⟨(some 20), .val (.ext (.t 15) 1), none⟩,
    ⟨(some 7), .val (.mov (.t 19)), none⟩,
    ⟨(some 8), .val (.mov (.t 20)), none⟩]
def g5_3 : List Am.Item := [
    ⟨(some 21), .val (.mov (.t 5)), none⟩,
    ⟨(some 22), .val (.mov (.t 7)), none⟩,
    ⟨(some 23), .call (.f 19) [(.t 21), (.t 22)], none⟩,
    ⟨(some 24), .val (.mov (.t 23)), none⟩,
    ⟨(some 25), .val (.mov (.t 6)), (some (24, true))⟩,
    ⟨(some 26), .val (.mov (.t 8)), (some (24, true))⟩,
    ⟨(some 27), .val (.bin .num .eql (.t 25) (.t 26)), (some (24, true))⟩,
    ⟨(some 28), .val (.pick (.t 24) (.t 27) (.c (.bool false))), none⟩,
    ⟨(some 29), .val (.mov (.t 28)), none⟩,
    ⟨(some 30), .call (.f 14) [], (some (29, true))⟩,
    ⟨(some 31), .val (.pick (.t 29) (.t 30) (.c (.bool false))), none⟩,
    ⟨(some 4), .val (.mov (.t 31)), none⟩]
def r5 : RC := .seq (.reg g5_0) (.seq (.reg g5_1) (.seq (.reg g5_2) (.seq (.reg g5_3) (.ret))))
def o5 : List RR := [.tmp 4]
theorem k5 : chkC Try.prog 32 r5 (Try.f5.body.getD .skip) = true := by decide +kernel
theorem q5 : chkR Try.prog Try.f5.results.toList o5 = true := by decide +kernel

/- wireschema/wireschemalaw23.UnknownRoundTrips -/
def g6_0 : List Am.Item := [
    ⟨(some 2), .val (.mov (.c (.bool false))), none⟩]
def g6_1 : List Am.Item := [
    ⟨(some 8), .val (.mov (.t 0)), none⟩,
    ⟨(some 9), .call (.f 20) [(.t 8)], none⟩]
def g6_2 : List Am.Item := [
    ⟨(some 10), .call (.f 14) [], none⟩,
    ⟨(some 2), .val (.mov (.t 10)), none⟩]
def g6_3 : List Am.Item := [
    ⟨(some 3), .val (.mov (.c (.nils))), none⟩]
def g6_4 : List Am.Item := [
    ⟨(some 4), .val (.mov (.c (.int .i64 0))), none⟩]
def g6_5 : List Am.Item := [
    ⟨(some 11), .val (.mov (.t 4)), none⟩,
    ⟨(some 12), .val (.mov (.t 0)), none⟩,
    ⟨(some 13), .val (.len 1 (.t 12)), none⟩,
    ⟨(some 14), .val (.bin .num .lss (.t 11) (.t 13)), none⟩]
def g6_7 : List Am.Item := [
    ⟨(some 17), .val (.mov (.t 0)), none⟩,
    ⟨(some 18), .val (.mov (.t 4)), none⟩,
    ⟨(some 19), .val (.iaddr 4 none (.t 17) (.t 18)), none⟩,
    ⟨(some 20), .val (.load (some 4) (.t 19)), none⟩,
    ⟨(some 21), .call (.f 21) [(.t 20)], none⟩]
def g6_8 : List Am.Item := [
    ⟨(some 22), .val (.mov (.t 3)), none⟩,
    ⟨(some 23), .val (.mov (.t 0)), none⟩,
    ⟨(some 24), .val (.mov (.t 4)), none⟩,
    ⟨(some 25), .val (.iaddr 4 none (.t 23) (.t 24)), none⟩,
    ⟨(some 26), .val (.load (some 4) (.t 25)), none⟩,
    ⟨(some 27), .bsl 4 1 [.int .i64 0, .int .i64 0, .int .u64 0, .str []] [(0, 4, (.t 26))], none⟩,
    ⟨(some 28), .app 4 40 33 (.t 22) (.t 27), none⟩,
    ⟨(some 3), .val (.mov (.t 28)), none⟩]
def g6_6 : List Am.Item := [
    ⟨(some 15), .val (.mov (.t 4)), none⟩,
    ⟨(some 16), .val (.bin .num .add (.t 15) (.c (.int .i64 1))), none⟩,
    ⟨(some 4), .val (.mov (.t 16)), none⟩]
def l6_0 : RC := .seq (.seq (.reg g6_5) (.cond (.t 14) (.skip) (.exit 0))) (.seq (.block 1 (.seq (.reg g6_7) (.cond (.t 21) (.reg g6_8) (.skip)))) (.reg g6_6))
def g6_9 : List Am.Item := [
    ⟨(some 29), .val (.mov (.t 0)), none⟩,
    ⟨(some 30), .call (.f 22) [(.t 29)], none⟩,
    ⟨(some 5), .val (.mov (.t 30)), none⟩]
def g6_10 : List Am.Item := [
    ⟨(some 32), .val (.mov (.t 5)), none⟩,
    ⟨(some 33), .call (.f 23) [], none⟩,
    ⟨(some 34), .call (.f 17) [(.t 32), (.t 33)], none⟩,
    ⟨(some 31), .val (.mov (.t 34)), none⟩,
    ⟨(some 35), .val (.ext (.t 31) 0), none⟩,
    ⟨(some 36), .val (.ext (.t 31) 1), none⟩,
    ⟨(some 6), .val (.mov (.t 35)), none⟩,
    ⟨(some 7), .val (.mov (.t 36)), none⟩]
def g6_11 : List Am.Item := [
    ⟨(some 37), .val (.mov (.t 7)), none⟩,
    ⟨(some 38), .val (.bin .num .eql (.t 37) (.c (.int .i64 0))), none⟩,
    ⟨(some 39), .val (.mov (.t 38)), none⟩,
    ⟨(some 40), .val (.mov (.t 6)), (some (39, true))⟩,
    ⟨(some 41), .val (.mov (.t 3)), (some (39, true))⟩,
    ⟨(some 42), .call (.f 19) [(.t 40), (.t 41)], (some (39, true))⟩,
    ⟨(some 43), .val (.pick (.t 39) (.t 42) (.c (.bool false))), none⟩,
    ⟨(some 44), .val (.mov (.t 43)), none⟩,
    ⟨(some 45), .val (.mov (.t 3)), (some (44, true))⟩,
    ⟨(some 46), .call (.f 22) [(.t 45)], (some (44, true))⟩,
    ⟨(some 47), .val (.mov (.t 5)), (some (44, true))⟩,
    ⟨(some 48), .val (.bin .str .eql (.t 46) (.t 47)), (some (44, true))⟩,
    ⟨(some 49), .val (.pick (.t 44) (.t 48) (.c (.bool false))), none⟩,
    ⟨(some 50), .val (.mov (.t 49)), none⟩,
    ⟨(some 51), .call (.f 14) [], (some (50, true))⟩,
    ⟨(some 52), .val (.pick (.t 50) (.t 51) (.c (.bool false))), none⟩,
    ⟨(some 2), .val (.mov (.t 52)), none⟩]
def r6 : RC := .seq (.reg g6_0) (.seq (.seq (.reg g6_1) (.cond (.t 9) (.seq (.reg g6_2) (.ret)) (.skip))) (.seq (.reg g6_3) (.gho (.vec 3 3 4) (.seq (.seq (.reg g6_4) (.block 0 (.loop l6_0))) (.seq (.reg g6_9) (.seq (.reg g6_10) (.seq (.reg g6_11) (.ret))))))))
def o6 : List RR := [.tmp 2]
theorem k6 : chkC Try.prog 53 r6 (Try.f6.body.getD .skip) = true := by decide +kernel
theorem q6 : chkR Try.prog Try.f6.results.toList o6 = true := by decide +kernel

/- wireschema/wireschemalaw23.UnknownKeeps -/
def g7_0 : List Am.Item := [
    ⟨(some 3), .boxN 3 (.t 1), none⟩,
    ⟨(some 4), .val (.mov (.c (.bool false))), none⟩]
def g7_1 : List Am.Item := [
    ⟨(some 11), .val (.mov (.t 0)), none⟩,
    ⟨(some 12), .val (.len 0 (.t 11)), none⟩,
    ⟨(some 13), .val (.bin .num .gtr (.t 12) (.c (.int .i64 3000))), none⟩]
def g7_2 : List Am.Item := [
    ⟨(some 14), .call (.f 14) [], none⟩,
    ⟨(some 4), .val (.mov (.t 14)), none⟩]
def g7_3 : List Am.Item := [
    ⟨(some 16), .val (.mov (.t 0)), none⟩,
    ⟨(some 17), .val (.load (some 4) (.t 3)), none⟩,
    ⟨(some 18), .call (.f 17) [(.t 16), (.t 17)], none⟩,
    ⟨(some 15), .val (.mov (.t 18)), none⟩,
    ⟨(some 19), .val (.ext (.t 15) 0), none⟩,
    ⟨(some 20), .val (.ext (.t 15) 1), none⟩,
    ⟨(some 5), .val (.mov (.t 19)), none⟩,
    ⟨(some 6), .val (.mov (.t 20)), none⟩]
def g7_4 : List Am.Item := [
    ⟨(some 21), .val (.mov (.t 6)), none⟩,
    ⟨(some 22), .val (.bin .num .neq (.t 21) (.c (.int .i64 0))), none⟩]
def g7_5 : List Am.Item := [
    ⟨(some 23), .val (.mov (.t 5)), none⟩,
    ⟨(some 24), .val (.len 1 (.t 23)), none⟩,
    ⟨(some 25), .val (.bin .num .eql (.t 24) (.c (.int .i64 0))), none⟩,
    ⟨(some 26), .val (.mov (.t 25)), none⟩,
    ⟨(some 27), .call (.f 14) [], (some (26, true))⟩,
    ⟨(some 28), .val (.pick (.t 26) (.t 27) (.c (.bool false))), none⟩,
    ⟨(some 4), .val (.mov (.t 28)), none⟩]
def g7_6 : List Am.Item := [
    ⟨(some 7), .val (.mov (.c (.int .i64 0))), none⟩]
def g7_7 : List Am.Item := [
    ⟨(some 29), .val (.mov (.t 7)), none⟩,
    ⟨(some 30), .val (.mov (.t 5)), none⟩,
    ⟨(some 31), .val (.len 1 (.t 30)), none⟩,
    ⟨(some 32), .val (.bin .num .lss (.t 29) (.t 31)), none⟩]
def g7_9 : List Am.Item := [
    ⟨(some 35), .val (.mov (.t 5)), none⟩,
    ⟨(some 36), .val (.mov (.t 7)), none⟩,
    ⟨(some 37), .val (.iaddr 4 none (.t 35) (.t 36)), none⟩,
    ⟨(some 38), .val (.load (some 4) (.t 37)), none⟩,
    ⟨(some 39), .call (.f 21) [(.t 38)], none⟩,
    ⟨(some 40), .val (.un .not (.t 39)), none⟩]
def g7_10 : List Am.Item := [
    ⟨(some 4), .val (.mov (.c (.bool false))), none⟩]
def g7_8 : List Am.Item := [
    ⟨(some 33), .val (.mov (.t 7)), none⟩,
    ⟨(some 34), .val (.bin .num .add (.t 33) (.c (.int .i64 1))), none⟩,
    ⟨(some 7), .val (.mov (.t 34)), none⟩]
def l7_0 : RC := .seq (.seq (.reg g7_7) (.cond (.t 32) (.skip) (.exit 0))) (.seq (.block 1 (.seq (.reg g7_9) (.cond (.t 40) (.seq (.reg g7_10) (.ret)) (.skip)))) (.reg g7_8))
def g7_11 : List Am.Item := [
    ⟨(some 41), .val (.mov (.t 5)), none⟩,
    ⟨(some 42), .call (.f 22) [(.t 41)], none⟩,
    ⟨(some 8), .val (.mov (.t 42)), none⟩]
def g7_12 : List Am.Item := [
    ⟨(some 44), .val (.mov (.t 8)), none⟩,
    ⟨(some 45), .val (.load (some 4) (.t 3)), none⟩,
    ⟨(some 46), .call (.f 17) [(.t 44), (.t 45)], none⟩,
    ⟨(some 43), .val (.mov (.t 46)), none⟩,
    ⟨(some 47), .val (.ext (.t 43) 0), none⟩,
    ⟨(some 48), .val (.ext (.t 43) 1), none⟩,
    ⟨(some 9), .val (.mov (.t 47)), none⟩,
    ⟨(some 10), .val (.mov (.t 48)), none⟩]
def g7_13 : List Am.Item := [
    ⟨(some 49), .val (.mov (.t 8)), none⟩,
    ⟨(some 50), .val (.len 0 (.t 49)), none⟩,
    ⟨(some 51), .val (.mov (.t 0)), none⟩,
    ⟨(some 52), .val (.len 0 (.t 51)), none⟩,
    ⟨(some 53), .val (.bin .num .leq (.t 50) (.t 52)), none⟩,
    ⟨(some 54), .val (.mov (.t 53)), none⟩,
    ⟨(some 55), .val (.mov (.t 5)), (some (54, true))⟩,
    ⟨(some 56), .val (.len 1 (.t 55)), (some (54, true))⟩,
    ⟨(some 57), .val (.faddr 2 (.t 3)), (some (54, true))⟩,
    ⟨(some 58), .val (.load none (.t 57)), (some (54, true))⟩,
    ⟨(some 59), .val (.bin .num .leq (.t 56) (.t 58)), (some (54, true))⟩,
    ⟨(some 60), .val (.pick (.t 54) (.t 59) (.c (.bool false))), none⟩,
    ⟨(some 61), .val (.mov (.t 60)), none⟩,
    ⟨(some 62), .val (.mov (.t 10)), (some (61, true))⟩,
    ⟨(some 63), .val (.bin .num .eql (.t 62) (.c (.int .i64 0))), (some (61, true))⟩,
    ⟨(some 64), .val (.pick (.t 61) (.t 63) (.c (.bool false))), none⟩,
    ⟨(some 65), .val (.mov (.t 64)), none⟩,
    ⟨(some 66), .val (.mov (.t 5)), (some (65, true))⟩,
    ⟨(some 67), .val (.mov (.t 9)), (some (65, true))⟩,
    ⟨(some 68), .call (.f 19) [(.t 66), (.t 67)], (some (65, true))⟩,
    ⟨(some 69), .val (.pick (.t 65) (.t 68) (.c (.bool false))), none⟩,
    ⟨(some 70), .val (.mov (.t 69)), none⟩,
    ⟨(some 71), .call (.f 14) [], (some (70, true))⟩,
    ⟨(some 72), .val (.pick (.t 70) (.t 71) (.c (.bool false))), none⟩,
    ⟨(some 4), .val (.mov (.t 72)), none⟩]
def r7 : RC := .seq (.reg g7_0) (.seq (.seq (.reg g7_1) (.cond (.t 13) (.seq (.reg g7_2) (.ret)) (.skip))) (.seq (.reg g7_3) (.seq (.seq (.reg g7_4) (.cond (.t 22) (.seq (.reg g7_5) (.ret)) (.skip))) (.seq (.seq (.reg g7_6) (.block 0 (.loop l7_0))) (.seq (.reg g7_11) (.seq (.reg g7_12) (.seq (.reg g7_13) (.ret))))))))
def o7 : List RR := [.tmp 4]
theorem k7 : chkC Try.prog 73 r7 (Try.f7.body.getD .skip) = true := by decide +kernel
theorem q7 : chkR Try.prog Try.f7.results.toList o7 = true := by decide +kernel

/- wireschema/wireschemalaw23.UnknownJoins -/
def g8_0 : List Am.Item := [
    ⟨(some 4), .val (.mov (.c (.bool false))), none⟩]
def g8_1 : List Am.Item := [
    ⟨(some 12), .val (.mov (.t 0)), none⟩,
    ⟨(some 13), .val (.len 0 (.t 12)), none⟩,
    ⟨(some 14), .val (.bin .num .gtr (.t 13) (.c (.int .i64 3000))), none⟩,
    ⟨(some 15), .val (.mov (.t 14)), none⟩,
    ⟨(some 16), .val (.mov (.t 1)), (some (15, false))⟩,
    ⟨(some 17), .val (.len 0 (.t 16)), (some (15, false))⟩,
    ⟨(some 18), .val (.bin .num .gtr (.t 17) (.c (.int .i64 3000))), (some (15, false))⟩,
    ⟨(some 19), .val (.pick (.t 15) (.c (.bool true)) (.t 18)), none⟩]
def g8_2 : List Am.Item := [
    ⟨(some 20), .call (.f 14) [], none⟩,
    ⟨(some 4), .val (.mov (.t 20)), none⟩]
def g8_3 : List Am.Item := [
    ⟨(some 22), .val (.mov (.t 0)), none⟩,
    ⟨(some 23), .call (.f 23) [], none⟩,
    ⟨(some 24), .call (.f 17) [(.t 22), (.t 23)], none⟩,
    ⟨(some 21), .val (.mov (.t 24)), none⟩,
    ⟨(some 25), .val (.ext (.t 21) 0), none⟩,
    ⟨(some 26), .val (.ext (.t 21) 1), none⟩,
    ⟨(some 5), .val (.mov (.t 25)), none⟩,
    ⟨(some 6), .val (.mov (.t 26)), none⟩]
def g8_4 : List Am.Item := [
    ⟨(some 28), .val (.mov (.t 1)), none⟩,
    ⟨(some 29), .call (.f 23) [], none⟩,
    ⟨(some 30), .call (.f 17) [(.t 28), (.t 29)], none⟩,
    ⟨(some 27), .val (.mov (.t 30)), none⟩,
    ⟨(some 31), .val (.ext (.t 27) 0), none⟩,
    ⟨(some 32), .val (.ext (.t 27) 1), none⟩,
    ⟨(some 7), .val (.mov (.t 31)), none⟩,
    ⟨(some 8), .val (.mov (.t 32)), none⟩]
def g8_5 : List Am.Item := [
    ⟨(some 33), .val (.mov (.t 6)), none⟩,
    ⟨(some 34), .val (.bin .num .neq (.t 33) (.c (.int .i64 0))), none⟩,
    ⟨(some 35), .val (.mov (.t 34)), none⟩,
    ⟨(some 36), .val (.mov (.t 8)), (some (35, false))⟩,
    ⟨(some 37), .val (.bin .num .neq (.t 36) (.c (.int .i64 0))), (some (35, false))⟩,
    ⟨(some 38), .val (.pick (.t 35) (.c (.bool true)) (.t 37)), none⟩]
def g8_6 : List Am.Item := [
    ⟨(some 39), .call (.f 14) [], none⟩,
    ⟨(some 4), .val (.mov (.t 39)), none⟩]
def g8_7 : List Am.Item := [
    ⟨(some 41), .val (.mov (.t 0)), none⟩,
    ⟨(some 42), .val (.mov (.t 1)), none⟩,
    ⟨(some 43), .val (.bin .str .add (.t 41) (.t 42)), none⟩,
    ⟨(some 44), .call (.f 23) [], none⟩,
    ⟨(some 45), .call (.f 17) [(.t 43), (.t 44)], none⟩,
    ⟨(some 40), .val (.mov (.t 45)), none⟩,
    ⟨(some 46), .val (.ext (.t 40) 0), none⟩,
    ⟨(some 47), .val (.ext (.t 40) 1), none⟩,
    ⟨(some 9), .val (.mov (.t 46)), none⟩,
    ⟨(some 10), .val (.mov (.t 47)), none⟩]
def g8_8 : List Am.Item := [
    ⟨(some 11), .val (.mov (.c (.nils))), none⟩]
def g8_9 : List Am.Item := [
    ⟨(some 48), .val (.mov (.t 11)), none⟩,
    ⟨(some 49), .val (.mov (.t 5)), none⟩,
    ⟨(some 50), .app 4 40 33 (.t 48) (.t 49), none⟩,
    ⟨(some 11), .val (.mov (.t 50)), none⟩]
def g8_10 : List Am.Item := [
    ⟨(some 51), .val (.mov (.t 11)), none⟩,
    ⟨(some 52), .val (.mov (.t 7)), none⟩,
    ⟨(some 53), .app 4 40 33 (.t 51) (.t 52), none⟩,
    ⟨(some 11), .val (.mov (.t 53)), none⟩]
def g8_11 : List Am.Item := [
    ⟨(some 54), .val (.mov (.t 10)), none⟩,
    ⟨(some 55), .val (.bin .num .eql (.t 54) (.c (.int .i64 0))), none⟩,
    ⟨(some 56), .val (.mov (.t 55)), none⟩,
    ⟨(some 57), .val (.mov (.t 9)), (some (56, true))⟩,
    ⟨(some 58), .val (.mov (.t 11)), (some (56, true))⟩,
    ⟨(some 59), .call (.f 19) [(.t 57), (.t 58)], (some (56, true))⟩,
    ⟨(some 60), .val (.pick (.t 56) (.t 59) (.c (.bool false))), none⟩,
    ⟨(some 61), .val (.mov (.t 60)), none⟩,
    ⟨(some 62), .call (.f 14) [], (some (61, true))⟩,
    ⟨(some 63), .val (.pick (.t 61) (.t 62) (.c (.bool false))), none⟩,
    ⟨(some 4), .val (.mov (.t 63)), none⟩]
def r8 : RC := .seq (.reg g8_0) (.seq (.seq (.reg g8_1) (.cond (.t 19) (.seq (.reg g8_2) (.ret)) (.skip))) (.seq (.reg g8_3) (.seq (.reg g8_4) (.seq (.seq (.reg g8_5) (.cond (.t 38) (.seq (.reg g8_6) (.ret)) (.skip))) (.seq (.reg g8_7) (.seq (.reg g8_8) (.gho (.vec 11 11 4) (.seq (.reg g8_9) (.seq (.reg g8_10) (.seq (.reg g8_11) (.ret)))))))))))
def o8 : List RR := [.tmp 4]
theorem k8 : chkC Try.prog 64 r8 (Try.f8.body.getD .skip) = true := by decide +kernel
theorem q8 : chkR Try.prog Try.f8.results.toList o8 = true := by decide +kernel

/- slices.Clone[[]wireschema/api.Raw,wireschema/api.Raw] -/
def g48_0 : List Am.Item := [
    ⟨(some 2), .val (.mov (.c (.nils))), none⟩]
def g48_1 : List Am.Item := [
    ⟨(some 3), .val (.mov (.t 0)), none⟩,
    ⟨(some 4), .isnil false (.t 3), none⟩]
def g48_2 : List Am.Item := [
    ⟨(some 2), .val (.mov (.c (.nils))), none⟩]
def g48_3 : List Am.Item := [
    ⟨(some 5), .bsl0 5 4, none⟩,
    ⟨(some 6), .val (.mov (.t 0)), none⟩,
    ⟨(some 7), .app 4 40 33 (.t 5) (.t 6), none⟩,
    ⟨(some 2), .val (.mov (.t 7)), none⟩]
def r48 : RC := .seq (.reg g48_0) (.seq (.seq (.reg g48_1) (.cond (.t 4) (.seq (.reg g48_2) (.gho (.vec 2 2 4) (.gho (.give 2 2 1 1000) (.ret)))) (.skip))) (.seq (.reg g48_3) (.gho (.give 2 5 1 1000) (.ret))))
def o48 : List RR := [.tmp 2]
theorem k48 : chkC Try.prog 8 r48 (Try.f48.body.getD .skip) = true := by decide +kernel
theorem q48 : chkR Try.prog Try.f48.results.toList o48 = true := by decide +kernel

/- slices.SortStableFunc[[]wireschema/api.Raw,wireschema/api.Raw] -/
def g49_0 : List Am.Item := [
    ⟨(some 4), .val (.mov (.t 0)), none⟩,
    ⟨(some 5), .val (.mov (.t 0)), none⟩,
    ⟨(some 6), .val (.len 1 (.t 5)), none⟩,
    ⟨(some 7), .val (.mov (.t 1)), none⟩,
    ⟨(some 8), .callF (.f 63) [(.t 4), (.t 6), (.t 7)], none⟩]
def r49 : RC := .reg g49_0
def o49 : List RR := []
theorem k49 : chkC Try.prog 9 r49 (Try.f49.body.getD .skip) = true := by decide +kernel
theorem q49 : chkR Try.prog Try.f49.results.toList o49 = true := by decide +kernel

/- slices.stableCmpFunc[wireschema/api.Raw] -/
def g63_0 : List Am.Item := [
    ⟨(some 6), .val (.mov (.c (.int .i64 20))), none⟩]
def g63_1 : List Am.Item := [
    ⟨(some 10), .val (.mov (.t 6)), none⟩,
    ⟨(some 7), .val (.mov (.c (.int .i64 0))), none⟩,
    ⟨(some 8), .val (.mov (.t 10)), none⟩]
def g63_2 : List Am.Item := [
    ⟨(some 11), .val (.mov (.t 8)), none⟩,
    ⟨(some 12), .val (.mov (.t 1)), none⟩,
    ⟨(some 13), .val (.bin .num .leq (.t 11) (.t 12)), none⟩]
def g63_3 : List Am.Item := [
    ⟨(some 14), .val (.mov (.t 0)), none⟩,
    ⟨(some 15), .val (.mov (.t 7)), none⟩,
    ⟨(some 16), .val (.mov (.t 8)), none⟩,
    ⟨(some 17), .val (.mov (.t 2)), none⟩,
    ⟨(some 18), .callF (.f 70) [(.t 14), (.t 15), (.t 16), (.t 17)], none⟩]
def g63_4 : List Am.Item := [
    ⟨(some 19), .val (.mov (.t 8)), none⟩,
    ⟨(some 7), .val (.mov (.t 19)), none⟩]
def g63_5 : List Am.Item := [
    ⟨(some 20), .val (.mov (.t 8)), none⟩,
    ⟨(some 21), .val (.mov (.t 6)), none⟩,
    ⟨(some 22), .val (.bin .num .add (.t 20) (.t 21)), none⟩,
    ⟨(some 8), .val (.mov (.t 22)), none⟩]
def l63_0 : RC := .seq (.seq (.reg g63_2) (.cond (.t 13) (.skip) (.exit 0))) (.block 1 (.seq (.reg g63_3) (.seq (.reg g63_4) (.reg g63_5))))
def g63_6 : List Am.Item := [
    ⟨(some 23), .val (.mov (.t 0)), none⟩,
    ⟨(some 24), .val (.mov (.t 7)), none⟩,
    ⟨(some 25), .val (.mov (.t 1)), none⟩,
    ⟨(some 26), .val (.mov (.t 2)), none⟩,
    ⟨(some 27), .callF (.f 70) [(.t 23), (.t 24), (.t 25), (.t 26)], none⟩]
def g63_7 : List Am.Item := [
    ⟨(some 28), .val (.mov (.t 6)), none⟩,
    ⟨(some 29), .val (.mov (.t 1)), none⟩,
    ⟨(some 30), .val (.bin .num .lss (.t 28) (.t 29)), none⟩]
def g63_8 : List Am.Item := [
    ⟨(some 31), .val (.mov (.t 6)), none⟩,
    ⟨(some 32), .val (.bin .num .mul (.c (.int .i64 2)) (.t 31)), none⟩,
    ⟨(some 7), .val (.mov (.c (.int .i64 0))), none⟩,
    ⟨(some 8), .val (.mov (.t 32)), none⟩]
def g63_9 : List Am.Item := [
    ⟨(some 33), .val (.mov (.t 8)), none⟩,
    ⟨(some 34), .val (.mov (.t 1)), none⟩,
    ⟨(some 35), .val (.bin .num .leq (.t 33) (.t 34)), none⟩]
def g63_10 : List Am.Item := [
    ⟨(some 36), .val (.mov (.t 0)), none⟩,
    ⟨(some 37), .val (.mov (.t 7)), none⟩,
    ⟨(some 38), .val (.mov (.t 7)), none⟩,
    ⟨(some 39), .val (.mov (.t 6)), none⟩,
    ⟨(some 40), .val (.bin .num .add (.t 38) (.t 39)), none⟩,
    ⟨(some 41), .val (.mov (.t 8)), none⟩,
    ⟨(some 42), .val (.mov (.t 2)), none⟩,
    ⟨(some 43), .callF (.f 71) [(.t 36), (.t 37), (.t 40), (.t 41), (.t 42)], none⟩]
def g63_11 : List Am.Item := [
    ⟨(some 44), .val (.mov (.t 8)), none⟩,
    ⟨(some 7), .val (.mov (.t 44)), none⟩]
def g63_12 : List Am.Item := [
    ⟨(some 45), .val (.mov (.t 8)), none⟩,
    ⟨(some 46), .val (.mov (.t 6)), none⟩,
    ⟨(some 47), .val (.bin .num .mul (.c (.int .i64 2)) (.t 46)), none⟩,
    ⟨(some 48), .val (.bin .num .add (.t 45) (.t 47)), none⟩,
    ⟨(some 8), .val (.mov (.t 48)), none⟩]
def l63_1 : RC := .seq (.seq (.reg g63_9) (.cond (.t 35) (.skip) (.exit 4))) (.block 5 (.seq (.reg g63_10) (.seq (.reg g63_11) (.reg g63_12))))
def g63_13 : List Am.Item := [
    ⟨(some 49), .val (.mov (.t 7)), none⟩,
    ⟨(some 50), .val (.mov (.t 6)), none⟩,
    ⟨(some 51), .val (.bin .num .add (.t 49) (.t 50)), none⟩,
    ⟨(some 9), .val (.mov (.t 51)), none⟩]
def g63_14 : List Am.Item := [
    ⟨(some 52), .val (.mov (.t 9)), none⟩,
    ⟨(some 53), .val (.mov (.t 1)), none⟩,
    ⟨(some 54), .val (.bin .num .lss (.t 52) (.t 53)), none⟩]
def g63_15 : List Am.Item := [
    ⟨(some 55), .val (.mov (.t 0)), none⟩,
    ⟨(some 56), .val (.mov (.t 7)), none⟩,
    ⟨(some 57), .val (.mov (.t 9)), none⟩,
    ⟨(some 58), .val (.mov (.t 1)), none⟩,
    ⟨(some 59), .val (.mov (.t 2)), none⟩,
    ⟨(some 60), .callF (.f 71) [(.t 55), (.t 56), (.t 57), (.t 58), (.t 59)], none⟩]
def g63_16 : List Am.Item := [
    ⟨(some 61), .val (.mov (.t 6)), none⟩,
    ⟨(some 62), .val (.bin .num .mul (.t 61) (.c (.int .i64 2))), none⟩,
    ⟨(some 6), .val (.mov (.t 62)), none⟩]
def l63_2 : RC := .seq (.seq (.reg g63_7) (.cond (.t 30) (.skip) (.exit 2))) (.block 3 (.seq (.reg g63_8) (.seq (.block 4 (.loop l63_1)) (.seq (.seq (.reg g63_13) (.seq (.reg g63_14) (.cond (.t 54) (.reg g63_15) (.skip)))) (.reg g63_16)))))
def r63 : RC := .seq (.reg g63_0) (.seq (.reg g63_1) (.seq (.block 0 (.loop l63_0)) (.seq (.reg g63_6) (.block 2 (.loop l63_2)))))
def o63 : List RR := []
theorem k63 : chkC Try.prog 63 r63 (Try.f63.body.getD .skip) = true := by decide +kernel
theorem q63 : chkR Try.prog Try.f63.results.toList o63 = true := by decide +kernel

/- slices.insertionSortCmpFunc[wireschema/api.Raw] -/
def g70_0 : List Am.Item := [
    ⟨(some 10), .val (.mov (.t 1)), none⟩,
    ⟨(some 11), .val (.bin .num .add (.t 10) (.c (.int .i64 1))), none⟩,
    ⟨(some 8), .val (.mov (.t 11)), none⟩]
def g70_1 : List Am.Item := [
    ⟨(some 12), .val (.mov (.t 8)), none⟩,
    ⟨(some 13), .val (.mov (.t 2)), none⟩,
    ⟨(some 14), .val (.bin .num .lss (.t 12) (.t 13)), none⟩]
def g70_3 : List Am.Item := [
    ⟨(some 17), .val (.mov (.t 8)), none⟩,
    ⟨(some 9), .val (.mov (.t 17)), none⟩]
def g70_4 : List Am.Item := [
    ⟨(some 18), .val (.mov (.t 9)), none⟩,
    ⟨(some 19), .val (.mov (.t 1)), none⟩,
    ⟨(some 20), .val (.bin .num .gtr (.t 18) (.t 19)), none⟩,
    ⟨(some 21), .val (.mov (.t 20)), none⟩,
    ⟨(some 22), .val (.mov (.t 3)), (some (21, true))⟩,
    ⟨(some 23), .val (.mov (.t 0)), (some (21, true))⟩,
    ⟨(some 24), .val (.mov (.t 9)), (some (21, true))⟩,
    ⟨(some 25), .val (.iaddr 4 none (.t 23) (.t 24)), (some (21, true))⟩,
    ⟨(some 26), .val (.loadr (some 4) (.t 25)), (some (21, true))⟩,
    ⟨(some 27), .val (.mov (.t 0)), (some (21, true))⟩,
    ⟨(some 28), .val (.mov (.t 9)), (some (21, true))⟩,
    ⟨(some 29), .val (.bin .num .sub (.t 28) (.c (.int .i64 1))), (some (21, true))⟩,
    ⟨(some 30), .val (.iaddr 4 none (.t 27) (.t 29)), (some (21, true))⟩,
    ⟨(some 31), .val (.loadr (some 4) (.t 30)), (some (21, true))⟩,
    ⟨(some 32), .call (.t 22) [(.t 26), (.t 31)], (some (21, true))⟩,
    ⟨(some 33), .val (.bin .num .lss (.t 32) (.c (.int .i64 0))), (some (21, true))⟩,
    ⟨(some 34), .val (.pick (.t 21) (.t 33) (.c (.bool false))), none⟩]
def g70_6 : List Am.Item := [
    ⟨(some 37), .val (.mov (.t 0)), none⟩,
    ⟨(some 38), .val (.mov (.t 9)), none⟩,
    ⟨(some 39), .val (.mov (.t 0)), none⟩,
    ⟨(some 40), .val (.mov (.t 9)), none⟩,
    ⟨(some 41), .val (.bin .num .sub (.t 40) (.c (.int .i64 1))), none⟩,
    ⟨(some 42), .val (.mov (.t 0)), none⟩,
    ⟨(some 43), .val (.mov (.t 9)), none⟩,
    ⟨(some 44), .val (.bin .num .sub (.t 43) (.c (.int .i64 1))), none⟩,
    ⟨(some 45), .val (.iaddr 4 none (.t 42) (.t 44)), none⟩,
    ⟨(some 46), .val (.loadr (some 4) (.t 45)), none⟩,
    ⟨(some 47), .val (.mov (.t 0)), none⟩,
    ⟨(some 48), .val (.mov (.t 9)), none⟩,
    ⟨(some 49), .val (.iaddr 4 none (.t 47) (.t 48)), none⟩,
    ⟨(some 50), .val (.loadr (some 4) (.t 49)), none⟩,
    ⟨(some 51), .val (.iaddr 4 none (.t 37) (.t 38)), none⟩,
    ⟨none, .store 4 (.t 51) (.t 46), none⟩,
    ⟨(some 52), .val (.iaddr 4 none (.t 39) (.t 41)), none⟩,
    ⟨none, .store 4 (.t 52) (.t 50), none⟩]
def g70_5 : List Am.Item := [
    ⟨(some 35), .val (.mov (.t 9)), none⟩,
    ⟨(some 36), .val (.bin .num .sub (.t 35) (.c (.int .i64 1))), none⟩,
    ⟨(some 9), .val (.mov (.t 36)), none⟩]
def l70_0 : RC := .seq (.seq (.draw g70_4) (.cond (.t 34) (.skip) (.exit 2))) (.seq (.block 3 (.draw g70_6)) (.reg g70_5))
def g70_2 : List Am.Item := [
    ⟨(some 15), .val (.mov (.t 8)), none⟩,
    ⟨(some 16), .val (.bin .num .add (.t 15) (.c (.int .i64 1))), none⟩,
    ⟨(some 8), .val (.mov (.t 16)), none⟩]
def l70_1 : RC := .seq (.seq (.reg g70_1) (.cond (.t 14) (.skip) (.exit 0))) (.seq (.block 1 (.seq (.reg g70_3) (.block 2 (.loop l70_0)))) (.reg g70_2))
def r70 : RC := .seq (.reg g70_0) (.block 0 (.loop l70_1))
def o70 : List RR := []
theorem k70 : chkC Try.prog 53 r70 (Try.f70.body.getD .skip) = true := by decide +kernel
theorem q70 : chkR Try.prog Try.f70.results.toList o70 = true := by decide +kernel

/- slices.symMergeCmpFunc[wireschema/api.Raw] -/
def g71_0 : List Am.Item := [
    ⟨(some 25), .val (.mov (.t 2)), none⟩,
    ⟨(some 26), .val (.mov (.t 1)), none⟩,
    ⟨(some 27), .val (.bin .num .sub (.t 25) (.t 26)), none⟩,
    ⟨(some 28), .val (.bin .num .eql (.t 27) (.c (.int .i64 1))), none⟩]
def g71_1 : List Am.Item := [
    ⟨(some 29), .val (.mov (.t 2)), none⟩,
    ⟨(some 10), .val (.mov (.t 29)), none⟩]
def g71_2 : List Am.Item := [
    ⟨(some 30), .val (.mov (.t 3)), none⟩,
    ⟨(some 11), .val (.mov (.t 30)), none⟩]
def g71_3 : List Am.Item := [
    ⟨(some 31), .val (.mov (.t 10)), none⟩,
    ⟨(some 32), .val (.mov (.t 11)), none⟩,
    ⟨(some 33), .val (.bin .num .lss (.t 31) (.t 32)), none⟩]
def g71_4 : List Am.Item := [
    ⟨(some 34), .val (.mov (.t 10)), none⟩,
    ⟨(some 35), .val (.mov (.t 11)), none⟩,
    ⟨(some 36), .val (.bin .num .add (.t 34) (.t 35)), none⟩,
    ⟨(some 37), .val (.cvi .u64 (.t 36)), none⟩,
    ⟨(some 38), .val (.bin .num .shr (.t 37) (.c (.int .u64 1))), none⟩,
    ⟨(some 39), .val (.cvi .i64 (.t 38)), none⟩,
    ⟨(some 12), .val (.mov (.t 39)), none⟩]
def g71_5 : List Am.Item := [
    ⟨(some 40), .val (.mov (.t 4)), none⟩,
    ⟨(some 41), .val (.mov (.t 0)), none⟩,
    ⟨(some 42), .val (.mov (.t 12)), none⟩,
    ⟨(some 43), .val (.iaddr 4 none (.t 41) (.t 42)), none⟩,
    ⟨(some 44), .val (.loadr (some 4) (.t 43)), none⟩,
    ⟨(some 45), .val (.mov (.t 0)), none⟩,
    ⟨(some 46), .val (.mov (.t 1)), none⟩,
    ⟨(some 47), .val (.iaddr 4 none (.t 45) (.t 46)), none⟩,
    ⟨(some 48), .val (.loadr (some 4) (.t 47)), none⟩,
    ⟨(some 49), .call (.t 40) [(.t 44), (.t 48)], none⟩,
    ⟨(some 50), .val (.bin .num .lss (.t 49) (.c (.int .i64 0))), none⟩]
def g71_6 : List Am.Item := [
    ⟨(some 51), .val (.mov (.t 12)), none⟩,
    ⟨(some 52), .val (.bin .num .add (.t 51) (.c (.int .i64 1))), none⟩,
    ⟨(some 10), .val (.mov (.t 52)), none⟩]
def g71_7 : List Am.Item := [
    ⟨(some 53), .val (.mov (.t 12)), none⟩,
    ⟨(some 11), .val (.mov (.t 53)), none⟩]
def l71_0 : RC := .seq (.seq (.reg g71_3) (.cond (.t 33) (.skip) (.exit 0))) (.block 1 (.seq (.reg g71_4) (.seq (.draw g71_5) (.cond (.t 50) (.reg g71_6) (.reg g71_7)))))
def g71_8 : List Am.Item := [
    ⟨(some 54), .val (.mov (.t 1)), none⟩,
    ⟨(some 13), .val (.mov (.t 54)), none⟩]
def g71_9 : List Am.Item := [
    ⟨(some 55), .val (.mov (.t 13)), none⟩,
    ⟨(some 56), .val (.mov (.t 10)), none⟩,
    ⟨(some 57), .val (.bin .num .sub (.t 56) (.c (.int .i64 1))), none⟩,
    ⟨(some 58), .val (.bin .num .lss (.t 55) (.t 57)), none⟩]
def g71_11 : List Am.Item := [
    ⟨(some 61), .val (.mov (.t 0)), none⟩,
    ⟨(some 62), .val (.mov (.t 13)), none⟩,
    ⟨(some 63), .val (.mov (.t 0)), none⟩,
    ⟨(some 64), .val (.mov (.t 13)), none⟩,
    ⟨(some 65), .val (.bin .num .add (.t 64) (.c (.int .i64 1))), none⟩,
    ⟨(some 66), .val (.mov (.t 0)), none⟩,
    ⟨(some 67), .val (.mov (.t 13)), none⟩,
    ⟨(some 68), .val (.bin .num .add (.t 67) (.c (.int .i64 1))), none⟩,
    ⟨(some 69), .val (.iaddr 4 none (.t 66) (.t 68)), none⟩,
    ⟨(some 70), .val (.loadr (some 4) (.t 69)), none⟩,
    ⟨(some 71), .val (.mov (.t 0)), none⟩,
    ⟨(some 72), .val (.mov (.t 13)), none⟩,
    ⟨(some 73), .val (.iaddr 4 none (.t 71) (.t 72)), none⟩,
    ⟨(some 74), .val (.loadr (some 4) (.t 73)), none⟩,
    ⟨(some 75), .val (.iaddr 4 none (.t 61) (.t 62)), none⟩,
    ⟨none, .store 4 (.t 75) (.t 70), none⟩,
    ⟨(some 76), .val (.iaddr 4 none (.t 63) (.t 65)), none⟩,
    ⟨none, .store 4 (.t 76) (.t 74), none⟩]
def g71_10 : List Am.Item := [
    ⟨(some 59), .val (.mov (.t 13)), none⟩,
    ⟨(some 60), .val (.bin .num .add (.t 59) (.c (.int .i64 1))), none⟩,
    ⟨(some 13), .val (.mov (.t 60)), none⟩]
def l71_1 : RC := .seq (.seq (.reg g71_9) (.cond (.t 58) (.skip) (.exit 2))) (.seq (.block 3 (.draw g71_11)) (.reg g71_10))
def g71_12 : List Am.Item := [
    ⟨(some 77), .val (.mov (.t 3)), none⟩,
    ⟨(some 78), .val (.mov (.t 2)), none⟩,
    ⟨(some 79), .val (.bin .num .sub (.t 77) (.t 78)), none⟩,
    ⟨(some 80), .val (.bin .num .eql (.t 79) (.c (.int .i64 1))), none⟩]
def g71_13 : List Am.Item := [
    ⟨(some 81), .val (.mov (.t 1)), none⟩,
    ⟨(some 14), .val (.mov (.t 81)), none⟩]
def g71_14 : List Am.Item := [
    ⟨(some 82), .val (.mov (.t 2)), none⟩,
    ⟨(some 15), .val (.mov (.t 82)), none⟩]
def g71_15 : List Am.Item := [
    ⟨(some 83), .val (.mov (.t 14)), none⟩,
    ⟨(some 84), .val (.mov (.t 15)), none⟩,
    ⟨(some 85), .val (.bin .num .lss (.t 83) (.t 84)), none⟩]
def g71_16 : List Am.Item := [
    ⟨(some 86), .val (.mov (.t 14)), none⟩,
    ⟨(some 87), .val (.mov (.t 15)), none⟩,
    ⟨(some 88), .val (.bin .num .add (.t 86) (.t 87)), none⟩,
    ⟨(some 89), .val (.cvi .u64 (.t 88)), none⟩,
    ⟨(some 90), .val (.bin .num .shr (.t 89) (.c (.int .u64 1))), none⟩,
    ⟨(some 91), .val (.cvi .i64 (.t 90)), none⟩,
    ⟨(some 16), .val (.mov (.t 91)), none⟩]
def g71_17 : List Am.Item := [
    ⟨(some 92), .val (.mov (.t 4)), none⟩,
    ⟨(some 93), .val (.mov (.t 0)), none⟩,
    ⟨(some 94), .val (.mov (.t 2)), none⟩,
    ⟨(some 95), .val (.iaddr 4 none (.t 93) (.t 94)), none⟩,
    ⟨(some 96), .val (.loadr (some 4) (.t 95)), none⟩,
    ⟨(some 97), .val (.mov (.t 0)), none⟩,
    ⟨(some 98), .val (.mov (.t 16)), none⟩,
    ⟨(some 99), .val (.iaddr 4 none (.t 97) (.t 98)), none⟩,
    ⟨(some 100), .val (.loadr (some 4) (.t 99)), none⟩,
    ⟨(some 101), .call (.t 92) [(.t 96), (.t 100)], none⟩,
    ⟨(some 102), .val (.bin .num .lss (.t 101) (.c (.int .i64 0))), none⟩,
    ⟨(some 103), .val (.un .not (.t 102)), none⟩]
def g71_18 : List Am.Item := [
    ⟨(some 104), .val (.mov (.t 16)), none⟩,
    ⟨(some 105), .val (.bin .num .add (.t 104) (.c (.int .i64 1))), none⟩,
    ⟨(some 14), .val (.mov (.t 105)), none⟩]
def g71_19 : List Am.Item := [
    ⟨(some 106), .val (.mov (.t 16)), none⟩,
    ⟨(some 15), .val (.mov (.t 106)), none⟩]
def l71_2 : RC := .seq (.seq (.reg g71_15) (.cond (.t 85) (.skip) (.exit 4))) (.block 5 (.seq (.reg g71_16) (.seq (.draw g71_17) (.cond (.t 103) (.reg g71_18) (.reg g71_19)))))
def g71_20 : List Am.Item := [
    ⟨(some 107), .val (.mov (.t 2)), none⟩,
    ⟨(some 17), .val (.mov (.t 107)), none⟩]
def g71_21 : List Am.Item := [
    ⟨(some 108), .val (.mov (.t 17)), none⟩,
    ⟨(some 109), .val (.mov (.t 14)), none⟩,
    ⟨(some 110), .val (.bin .num .gtr (.t 108) (.t 109)), none⟩]
def g71_23 : List Am.Item := [
    ⟨(some 113), .val (.mov (.t 0)), none⟩,
    ⟨(some 114), .val (.mov (.t 17)), none⟩,
    ⟨(some 115), .val (.mov (.t 0)), none⟩,
    ⟨(some 116), .val (.mov (.t 17)), none⟩,
    ⟨(some 117), .val (.bin .num .sub (.t 116) (.c (.int .i64 1))), none⟩,
    ⟨(some 118), .val (.mov (.t 0)), none⟩,
    ⟨(some 119), .val (.mov (.t 17)), none⟩,
    ⟨(some 120), .val (.bin .num .sub (.t 119) (.c (.int .i64 1))), none⟩,
    ⟨(some 121), .val (.iaddr 4 none (.t 118) (.t 120)), none⟩,
    ⟨(some 122), .val (.loadr (some 4) (.t 121)), none⟩,
    ⟨(some 123), .val (.mov (.t 0)), none⟩,
    ⟨(some 124), .val (.mov (.t 17)), none⟩,
    ⟨(some 125), .val (.iaddr 4 none (.t 123) (.t 124)), none⟩,
    ⟨(some 126), .val (.loadr (some 4) (.t 125)), none⟩,
    ⟨(some 127), .val (.iaddr 4 none (.t 113) (.t 114)), none⟩,
    ⟨none, .store 4 (.t 127) (.t 122), none⟩,
    ⟨(some 128), .val (.iaddr 4 none (.t 115) (.t 117)), none⟩,
    ⟨none, .store 4 (.t 128) (.t 126), none⟩]
def g71_22 : List Am.Item := [
    ⟨(some 111), .val (.mov (.t 17)), none⟩,
    ⟨(some 112), .val (.bin .num .sub (.t 111) (.c (.int .i64 1))), none⟩,
    ⟨(some 17), .val (.mov (.t 112)), none⟩]
def l71_3 : RC := .seq (.seq (.reg g71_21) (.cond (.t 110) (.skip) (.exit 6))) (.seq (.block 7 (.draw g71_23)) (.reg g71_22))
def g71_24 : List Am.Item := [
    ⟨(some 129), .val (.mov (.t 1)), none⟩,
    ⟨(some 130), .val (.mov (.t 3)), none⟩,
    ⟨(some 131), .val (.bin .num .add (.t 129) (.t 130)), none⟩,
    ⟨(some 132), .val (.cvi .u64 (.t 131)), none⟩,
    ⟨(some 133), .val (.bin .num .shr (.t 132) (.c (.int .u64 1))), none⟩,
    ⟨(some 134), .val (.cvi .i64 (.t 133)), none⟩,
    ⟨(some 18), .val (.mov (.t 134)), none⟩]
def g71_25 : List Am.Item := [
    ⟨(some 135), .val (.mov (.t 18)), none⟩,
    ⟨(some 136), .val (.mov (.t 2)), none⟩,
    ⟨(some 137), .val (.bin .num .add (.t 135) (.t 136)), none⟩,
    ⟨(some 19), .val (.mov (.t 137)), none⟩]
def g71_26 : List Am.Item := [
    ⟨(some 20), .val (.mov (.c (.int .i64 0))), none⟩,
    ⟨(some 21), .val (.mov (.c (.int .i64 0))), none⟩]
def g71_27 : List Am.Item := [
    ⟨(some 138), .val (.mov (.t 2)), none⟩,
    ⟨(some 139), .val (.mov (.t 18)), none⟩,
    ⟨(some 140), .val (.bin .num .gtr (.t 138) (.t 139)), none⟩]
def g71_28 : List Am.Item := [
    ⟨(some 141), .val (.mov (.t 19)), none⟩,
    ⟨(some 142), .val (.mov (.t 3)), none⟩,
    ⟨(some 143), .val (.bin .num .sub (.t 141) (.t 142)), none⟩,
    ⟨(some 20), .val (.mov (.t 143)), none⟩]
def g71_29 : List Am.Item := [
    ⟨(some 144), .val (.mov (.t 18)), none⟩,
    ⟨(some 21), .val (.mov (.t 144)), none⟩]
def g71_30 : List Am.Item := [
    ⟨(some 145), .val (.mov (.t 1)), none⟩,
    ⟨(some 20), .val (.mov (.t 145)), none⟩]
def g71_31 : List Am.Item := [
    ⟨(some 146), .val (.mov (.t 2)), none⟩,
    ⟨(some 21), .val (.mov (.t 146)), none⟩]
def g71_32 : List Am.Item := [
    ⟨(some 147), .val (.mov (.t 19)), none⟩,
    ⟨(some 148), .val (.bin .num .sub (.t 147) (.c (.int .i64 1))), none⟩,
    ⟨(some 22), .val (.mov (.t 148)), none⟩]
def g71_33 : List Am.Item := [
    ⟨(some 149), .val (.mov (.t 20)), none⟩,
    ⟨(some 150), .val (.mov (.t 21)), none⟩,
    ⟨(some 151), .val (.bin .num .lss (.t 149) (.t 150)), none⟩]
def g71_34 : List Am.Item := [
    ⟨(some 152), .val (.mov (.t 20)), none⟩,
    ⟨(some 153), .val (.mov (.t 21)), none⟩,
    ⟨(some 154), .val (.bin .num .add (.t 152) (.t 153)), none⟩,
    ⟨(some 155), .val (.cvi .u64 (.t 154)), none⟩,
    ⟨(some 156), .val (.bin .num .shr (.t 155) (.c (.int .u64 1))), none⟩,
    ⟨(some 157), .val (.cvi .i64 (.t 156)), none⟩,
    ⟨(some 23), .val (.mov (.t 157)), none⟩]
def g71_35 : List Am.Item := [
    ⟨(some 158), .val (.mov (.t 4)), none⟩,
    ⟨(some 159), .val (.mov (.t 0)), none⟩,
    ⟨(some 160), .val (.mov (.t 22)), none⟩,
    ⟨(some 161), .val (.mov (.t 23)), none⟩,
    ⟨(some 162), .val (.bin .num .sub (.t 160) (.t 161)), none⟩,
    ⟨(some 163), .val (.iaddr 4 none (.t 159) (.t 162)), none⟩,
    ⟨(some 164), .val (.loadr (some 4) (.t 163)), none⟩,
    ⟨(some 165), .val (.mov (.t 0)), none⟩,
    ⟨(some 166), .val (.mov (.t 23)), none⟩,
    ⟨(some 167), .val (.iaddr 4 none (.t 165) (.t 166)), none⟩,
    ⟨(some 168), .val (.loadr (some 4) (.t 167)), none⟩,
    ⟨(some 169), .call (.t 158) [(.t 164), (.t 168)], none⟩,
    ⟨(some 170), .val (.bin .num .lss (.t 169) (.c (.int .i64 0))), none⟩,
    ⟨(some 171), .val (.un .not (.t 170)), none⟩]
def g71_36 : List Am.Item := [
    ⟨(some 172), .val (.mov (.t 23)), none⟩,
    ⟨(some 173), .val (.bin .num .add (.t 172) (.c (.int .i64 1))), none⟩,
    ⟨(some 20), .val (.mov (.t 173)), none⟩]
def g71_37 : List Am.Item := [
    ⟨(some 174), .val (.mov (.t 23)), none⟩,
    ⟨(some 21), .val (.mov (.t 174)), none⟩]
def l71_4 : RC := .seq (.seq (.reg g71_33) (.cond (.t 151) (.skip) (.exit 8))) (.block 9 (.seq (.reg g71_34) (.seq (.draw g71_35) (.cond (.t 171) (.reg g71_36) (.reg g71_37)))))
def g71_38 : List Am.Item := [
    ⟨(some 175), .val (.mov (.t 19)), none⟩,
    ⟨(some 176), .val (.mov (.t 20)), none⟩,
    ⟨(some 177), .val (.bin .num .sub (.t 175) (.t 176)), none⟩,
    ⟨(some 24), .val (.mov (.t 177)), none⟩]
def g71_39 : List Am.Item := [
    ⟨(some 178), .val (.mov (.t 20)), none⟩,
    ⟨(some 179), .val (.mov (.t 2)), none⟩,
    ⟨(some 180), .val (.bin .num .lss (.t 178) (.t 179)), none⟩,
    ⟨(some 181), .val (.mov (.t 180)), none⟩,
    ⟨(some 182), .val (.mov (.t 2)), (some (181, true))⟩,
    ⟨(some 183), .val (.mov (.t 24)), (some (181, true))⟩,
    ⟨(some 184), .val (.bin .num .lss (.t 182) (.t 183)), (some (181, true))⟩,
    ⟨(some 185), .val (.pick (.t 181) (.t 184) (.c (.bool false))), none⟩]
def g71_40 : List Am.Item := [
    ⟨(some 186), .val (.mov (.t 0)), none⟩,
    ⟨(some 187), .val (.mov (.t 20)), none⟩,
    ⟨(some 188), .val (.mov (.t 2)), none⟩,
    ⟨(some 189), .val (.mov (.t 24)), none⟩,
    ⟨(some 190), .val (.mov (.t 4)), none⟩,
    ⟨(some 191), .callF (.f 72) [(.t 186), (.t 187), (.t 188), (.t 189), (.t 190)], none⟩]
def g71_41 : List Am.Item := [
    ⟨(some 192), .val (.mov (.t 1)), none⟩,
    ⟨(some 193), .val (.mov (.t 20)), none⟩,
    ⟨(some 194), .val (.bin .num .lss (.t 192) (.t 193)), none⟩,
    ⟨(some 195), .val (.mov (.t 194)), none⟩,
    ⟨(some 196), .val (.mov (.t 20)), (some (195, true))⟩,
    ⟨(some 197), .val (.mov (.t 18)), (some (195, true))⟩,
    ⟨(some 198), .val (.bin .num .lss (.t 196) (.t 197)), (some (195, true))⟩,
    ⟨(some 199), .val (.pick (.t 195) (.t 198) (.c (.bool false))), none⟩]
def g71_42 : List Am.Item := [
    ⟨(some 200), .val (.mov (.t 0)), none⟩,
    ⟨(some 201), .val (.mov (.t 1)), none⟩,
    ⟨(some 202), .val (.mov (.t 20)), none⟩,
    ⟨(some 203), .val (.mov (.t 18)), none⟩,
    ⟨(some 204), .val (.mov (.t 4)), none⟩,
    ⟨(some 205), .callF (.f 71) [(.t 200), (.t 201), (.t 202), (.t 203), (.t 204)], none⟩]
def g71_43 : List Am.Item := [
    ⟨(some 206), .val (.mov (.t 18)), none⟩,
    ⟨(some 207), .val (.mov (.t 24)), none⟩,
    ⟨(some 208), .val (.bin .num .lss (.t 206) (.t 207)), none⟩,
    ⟨(some 209), .val (.mov (.t 208)), none⟩,
    ⟨(some 210), .val (.mov (.t 24)), (some (209, true))⟩,
    ⟨(some 211), .val (.mov (.t 3)), (some (209, true))⟩,
    ⟨(some 212), .val (.bin .num .lss (.t 210) (.t 211)), (some (209, true))⟩,
    ⟨(some 213), .val (.pick (.t 209) (.t 212) (.c (.bool false))), none⟩]
def g71_44 : List Am.Item := [
    ⟨(some 214), .val (.mov (.t 0)), none⟩,
    ⟨(some 215), .val (.mov (.t 18)), none⟩,
    ⟨(some 216), .val (.mov (.t 24)), none⟩,
    ⟨(some 217), .val (.mov (.t 3)), none⟩,
    ⟨(some 218), .val (.mov (.t 4)), none⟩,
    ⟨(some 219), .callF (.f 71) [(.t 214), (.t 215), (.t 216), (.t 217), (.t 218)], none⟩]
def r71 : RC := .seq (.seq (.reg g71_0) (.cond (.t 28) (.seq (.reg g71_1) (.seq (.reg g71_2) (.seq (.block 0 (.loop l71_0)) (.seq (.seq (.reg g71_8) (.block 2 (.loop l71_1))) (.ret))))) (.skip))) (.seq (.seq (.reg g71_12) (.cond (.t 80) (.seq (.reg g71_13) (.seq (.reg g71_14) (.seq (.block 4 (.loop l71_2)) (.seq (.seq (.reg g71_20) (.block 6 (.loop l71_3))) (.ret))))) (.skip))) (.seq (.reg g71_24) (.seq (.reg g71_25) (.seq (.reg g71_26) (.seq (.seq (.reg g71_27) (.cond (.t 140) (.seq (.reg g71_28) (.reg g71_29)) (.seq (.reg g71_30) (.reg g71_31)))) (.seq (.reg g71_32) (.seq (.block 8 (.loop l71_4)) (.seq (.reg g71_38) (.seq (.seq (.reg g71_39) (.cond (.t 185) (.reg g71_40) (.skip))) (.seq (.seq (.reg g71_41) (.cond (.t 199) (.reg g71_42) (.skip))) (.seq (.reg g71_43) (.cond (.t 213) (.reg g71_44) (.skip)))))))))))))
def o71 : List RR := []
theorem k71 : chkC Try.prog 220 r71 (Try.f71.body.getD .skip) = true := by decide +kernel
theorem q71 : chkR Try.prog Try.f71.results.toList o71 = true := by decide +kernel

/- slices.rotateCmpFunc[wireschema/api.Raw] -/
def g72_0 : List Am.Item := [
    ⟨(some 12), .val (.mov (.t 2)), none⟩,
    ⟨(some 13), .val (.mov (.t 1)), none⟩,
    ⟨(some 14), .val (.bin .num .sub (.t 12) (.t 13)), none⟩,
    ⟨(some 10), .val (.mov (.t 14)), none⟩]
def g72_1 : List Am.Item := [
    ⟨(some 15), .val (.mov (.t 3)), none⟩,
    ⟨(some 16), .val (.mov (.t 2)), none⟩,
    ⟨(some 17), .val (.bin .num .sub (.t 15) (.t 16)), none⟩,
    ⟨(some 11), .val (.mov (.t 17)), none⟩]
def g72_2 : List Am.Item := [
    ⟨(some 18), .val (.mov (.t 10)), none⟩,
    ⟨(some 19), .val (.mov (.t 11)), none⟩,
    ⟨(some 20), .val (.bin .num .neq (.t 18) (.t 19)), none⟩]
def g72_3 : List Am.Item := [
    ⟨(some 21), .val (.mov (.t 10)), none⟩,
    ⟨(some 22), .val (.mov (.t 11)), none⟩,
    ⟨(some 23), .val (.bin .num .gtr (.t 21) (.t 22)), none⟩]
def g72_4 : List Am.Item := [
    ⟨(some 24), .val (.mov (.t 0)), none⟩,
    ⟨(some 25), .val (.mov (.t 2)), none⟩,
    ⟨(some 26), .val (.mov (.t 10)), none⟩,
    ⟨(some 27), .val (.bin .num .sub (.t 25) (.t 26)), none⟩,
    ⟨(some 28), .val (.mov (.t 2)), none⟩,
    ⟨(some 29), .val (.mov (.t 11)), none⟩,
    ⟨(some 30), .val (.mov (.t 4)), none⟩,
    ⟨(some 31), .callF (.f 73) [(.t 24), (.t 27), (.t 28), (.t 29), (.t 30)], none⟩]
def g72_5 : List Am.Item := [
    ⟨(some 32), .val (.mov (.t 10)), none⟩,
    ⟨(some 33), .val (.mov (.t 11)), none⟩,
    ⟨(some 34), .val (.bin .num .sub (.t 32) (.t 33)), none⟩,
    ⟨(some 10), .val (.mov (.t 34)), none⟩]
def g72_6 : List Am.Item := [
    ⟨(some 35), .val (.mov (.t 0)), none⟩,
    ⟨(some 36), .val (.mov (.t 2)), none⟩,
    ⟨(some 37), .val (.mov (.t 10)), none⟩,
    ⟨(some 38), .val (.bin .num .sub (.t 36) (.t 37)), none⟩,
    ⟨(some 39), .val (.mov (.t 2)), none⟩,
    ⟨(some 40), .val (.mov (.t 11)), none⟩,
    ⟨(some 41), .val (.bin .num .add (.t 39) (.t 40)), none⟩,
    ⟨(some 42), .val (.mov (.t 10)), none⟩,
    ⟨(some 43), .val (.bin .num .sub (.t 41) (.t 42)), none⟩,
    ⟨(some 44), .val (.mov (.t 10)), none⟩,
    ⟨(some 45), .val (.mov (.t 4)), none⟩,
    ⟨(some 46), .callF (.f 73) [(.t 35), (.t 38), (.t 43), (.t 44), (.t 45)], none⟩]
def g72_7 : List Am.Item := [
    ⟨(some 47), .val (.mov (.t 11)), none⟩,
    ⟨(some 48), .val (.mov (.t 10)), none⟩,
    ⟨(some 49), .val (.bin .num .sub (.t 47) (.t 48)), none⟩,
    ⟨(some 11), .val (.mov (.t 49)), none⟩]
def l72_0 : RC := .seq (.seq (.reg g72_2) (.cond (.t 20) (.skip) (.exit 0))) (.block 1 (.seq (.reg g72_3) (.cond (.t 23) (.seq (.reg g72_4) (.reg g72_5)) (.seq (.reg g72_6) (.reg g72_7)))))
def g72_8 : List Am.Item := [
    ⟨(some 50), .val (.mov (.t 0)), none⟩,
    ⟨(some 51), .val (.mov (.t 2)), none⟩,
    ⟨(some 52), .val (.mov (.t 10)), none⟩,
    ⟨(some 53), .val (.bin .num .sub (.t 51) (.t 52)), none⟩,
    ⟨(some 54), .val (.mov (.t 2)), none⟩,
    ⟨(some 55), .val (.mov (.t 10)), none⟩,
    ⟨(some 56), .val (.mov (.t 4)), none⟩,
    ⟨(some 57), .callF (.f 73) [(.t 50), (.t 53), (.t 54), (.t 55), (.t 56)], none⟩]
def r72 : RC := .seq (.reg g72_0) (.seq (.reg g72_1) (.seq (.block 0 (.loop l72_0)) (.reg g72_8)))
def o72 : List RR := []
theorem k72 : chkC Try.prog 58 r72 (Try.f72.body.getD .skip) = true := by decide +kernel
theorem q72 : chkR Try.prog Try.f72.results.toList o72 = true := by decide +kernel

/- slices.swapRangeCmpFunc[wireschema/api.Raw] -/
def g73_0 : List Am.Item := [
    ⟨(some 10), .val (.mov (.c (.int .i64 0))), none⟩]
def g73_1 : List Am.Item := [
    ⟨(some 11), .val (.mov (.t 10)), none⟩,
    ⟨(some 12), .val (.mov (.t 3)), none⟩,
    ⟨(some 13), .val (.bin .num .lss (.t 11) (.t 12)), none⟩]
def g73_3 : List Am.Item := [
    ⟨(some 16), .val (.mov (.t 0)), none⟩,
    ⟨(some 17), .val (.mov (.t 1)), none⟩,
    ⟨(some 18), .val (.mov (.t 10)), none⟩,
    ⟨(some 19), .val (.bin .num .add (.t 17) (.t 18)), none⟩,
    ⟨(some 20), .val (.mov (.t 0)), none⟩,
    ⟨(some 21), .val (.mov (.t 2)), none⟩,
    ⟨(some 22), .val (.mov (.t 10)), none⟩,
    ⟨(some 23), .val (.bin .num .add (.t 21) (.t 22)), none⟩,
    ⟨(some 24), .val (.mov (.t 0)), none⟩,
    ⟨(some 25), .val (.mov (.t 2)), none⟩,
    ⟨(some 26), .val (.mov (.t 10)), none⟩,
    ⟨(some 27), .val (.bin .num .add (.t 25) (.t 26)), none⟩,
    ⟨(some 28), .val (.iaddr 4 none (.t 24) (.t 27)), none⟩,
    ⟨(some 29), .val (.loadr (some 4) (.t 28)), none⟩,
    ⟨(some 30), .val (.mov (.t 0)), none⟩,
    ⟨(some 31), .val (.mov (.t 1)), none⟩,
    ⟨(some 32), .val (.mov (.t 10)), none⟩,
    ⟨(some 33), .val (.bin .num .add (.t 31) (.t 32)), none⟩,
    ⟨(some 34), .val (.iaddr 4 none (.t 30) (.t 33)), none⟩,
    ⟨(some 35), .val (.loadr (some 4) (.t 34)), none⟩,
    ⟨(some 36), .val (.iaddr 4 none (.t 16) (.t 19)), none⟩,
    ⟨none, .store 4 (.t 36) (.t 29), none⟩,
    ⟨(some 37), .val (.iaddr 4 none (.t 20) (.t 23)), none⟩,
    ⟨none, .store 4 (.t 37) (.t 35), none⟩]
def g73_2 : List Am.Item := [
    ⟨(some 14), .val (.mov (.t 10)), none⟩,
    ⟨(some 15), .val (.bin .num .add (.t 14) (.c (.int .i64 1))), none⟩,
    ⟨(some 10), .val (.mov (.t 15)), none⟩]
def l73_0 : RC := .seq (.seq (.reg g73_1) (.cond (.t 13) (.skip) (.exit 0))) (.seq (.block 1 (.draw g73_3)) (.reg g73_2))
def r73 : RC := .seq (.reg g73_0) (.block 0 (.loop l73_0))
def o73 : List RR := []
theorem k73 : chkC Try.prog 38 r73 (Try.f73.body.getD .skip) = true := by decide +kernel
theorem q73 : chkR Try.prog Try.f73.results.toList o73 = true := by decide +kernel

/- cmp.isNaN[int] -/
def g64_0 : List Am.Item := [
    ⟨(some 2), .val (.mov (.c (.bool false))), none⟩]
def g64_1 : List Am.Item := [
    ⟨(some 3), .val (.mov (.t 0)), none⟩,
    ⟨(some 4), .val (.mov (.t 0)), none⟩,
    ⟨(some 5), .val (.bin .num .neq (.t 3) (.t 4)), none⟩,
    ⟨(some 2), .val (.mov (.t 5)), none⟩]
def r64 : RC := .seq (.reg g64_0) (.seq (.reg g64_1) (.ret))
def o64 : List RR := [.tmp 2]
theorem k64 : chkC Try.prog 6 r64 (Try.f64.body.getD .skip) = true := by decide +kernel
theorem q64 : chkR Try.prog Try.f64.results.toList o64 = true := by decide +kernel

/- cmp.Compare[int] -/
def g51_0 : List Am.Item := [
    ⟨(some 4), .val (.mov (.c (.int .i64 0))), none⟩]
def g51_1 : List Am.Item := [
    ⟨(some 7), .val (.mov (.t 0)), none⟩,
    ⟨(some 8), .call (.f 64) [(.t 7)], none⟩,
    ⟨(some 5), .val (.mov (.t 8)), none⟩]
def g51_2 : List Am.Item := [
    ⟨(some 9), .val (.mov (.t 1)), none⟩,
    ⟨(some 10), .call (.f 64) [(.t 9)], none⟩,
    ⟨(some 6), .val (.mov (.t 10)), none⟩]
def g51_3 : List Am.Item := [
    ⟨(some 11), .val (.mov (.t 5)), none⟩]
def g51_4 : List Am.Item := [
    ⟨(some 12), .val (.mov (.t 6)), none⟩]
def g51_5 : List Am.Item := [
    ⟨(some 4), .val (.mov (.c (.int .i64 0))), none⟩]
def g51_6 : List Am.Item := [
    ⟨(some 4), .val (.mov (.c (.int .i64 (-1)))), none⟩]
def g51_7 : List Am.Item := [
    ⟨(some 13), .val (.mov (.t 6)), none⟩]
def g51_8 : List Am.Item := [
    ⟨(some 4), .val (.mov (.c (.int .i64 1))), none⟩]
def g51_9 : List Am.Item := [
    ⟨(some 14), .val (.mov (.t 0)), none⟩,
    ⟨(some 15), .val (.mov (.t 1)), none⟩,
    ⟨(some 16), .val (.bin .num .lss (.t 14) (.t 15)), none⟩]
def g51_10 : List Am.Item := [
    ⟨(some 4), .val (.mov (.c (.int .i64 (-1)))), none⟩]
def g51_11 : List Am.Item := [
    ⟨(some 17), .val (.mov (.t 0)), none⟩,
    ⟨(some 18), .val (.mov (.t 1)), none⟩,
    ⟨(some 19), .val (.bin .num .gtr (.t 17) (.t 18)), none⟩]
def g51_12 : List Am.Item := [
    ⟨(some 4), .val (.mov (.c (.int .i64 1))), none⟩]
def g51_13 : List Am.Item := [
    ⟨(some 4), .val (.mov (.c (.int .i64 0))), none⟩]
def r51 : RC := .seq (.reg g51_0) (.seq (.reg g51_1) (.seq (.reg g51_2) (.seq (.seq (.reg g51_3) (.cond (.t 11) (.seq (.seq (.reg g51_4) (.cond (.t 12) (.seq (.reg g51_5) (.ret)) (.skip))) (.seq (.reg g51_6) (.ret))) (.skip))) (.seq (.seq (.reg g51_7) (.cond (.t 13) (.seq (.reg g51_8) (.ret)) (.skip))) (.seq (.seq (.reg g51_9) (.cond (.t 16) (.seq (.reg g51_10) (.ret)) (.skip))) (.seq (.seq (.reg g51_11) (.cond (.t 19) (.seq (.reg g51_12) (.ret)) (.skip))) (.seq (.reg g51_13) (.ret))))))))
def o51 : List RR := [.tmp 4]
theorem k51 : chkC Try.prog 20 r51 (Try.f51.body.getD .skip) = true := by decide +kernel
theorem q51 : chkR Try.prog Try.f51.results.toList o51 = true := by decide +kernel

/- wireschema/unknown.Sort$1 -/
def g50_0 : List Am.Item := [
    ⟨(some 2), .boxN 2 (.t 0), none⟩,
    ⟨(some 3), .boxN 3 (.t 1), none⟩,
    ⟨(some 4), .val (.mov (.c (.int .i64 0))), none⟩]
def g50_1 : List Am.Item := [
    ⟨(some 5), .val (.faddr 0 (.t 2)), none⟩,
    ⟨(some 6), .val (.load none (.t 5)), none⟩,
    ⟨(some 7), .val (.faddr 0 (.t 3)), none⟩,
    ⟨(some 8), .val (.load none (.t 7)), none⟩,
    ⟨(some 9), .call (.f 51) [(.t 6), (.t 8)], none⟩,
    ⟨(some 4), .val (.mov (.t 9)), none⟩]
def r50 : RC := .seq (.reg g50_0) (.seq (.reg g50_1) (.ret))
def o50 : List RR := [.tmp 4]
theorem k50 : chkC Try.prog 10 r50 (Try.f50.body.getD .skip) = true := by decide +kernel
theorem q50 : chkR Try.prog Try.f50.results.toList o50 = true := by decide +kernel

/- wireschema/unknown.Sort -/
def g26_0 : List Am.Item := [
    ⟨(some 2), .val (.mov (.c (.nils))), none⟩]
def g26_1 : List Am.Item := [
    ⟨(some 4), .val (.mov (.t 0)), none⟩,
    ⟨(some 5), .callF (.f 48) [(.t 4)], none⟩,
    ⟨(some 3), .val (.mov (.t 5)), none⟩]
def g26_2 : List Am.Item := [
    ⟨(some 6), .val (.mov (.t 3)), none⟩,
    ⟨(some 7), .callF (.f 49) [(.t 6), (.f 50)], none⟩]
def g26_3 : List Am.Item := [
    ⟨(some 8), .val (.mov (.t 3)), none⟩,
    ⟨(some 2), .val (.mov (.t 8)), none⟩]
def r26 : RC := .seq (.reg g26_0) (.seq (.reg g26_1) (.seq (.reg g26_2) (.seq (.reg g26_3) (.ret))))
def o26 : List RR := [.tmp 2]
theorem k26 : chkC Try.prog 9 r26 (Try.f26.body.getD .skip) = true := by decide +kernel
theorem q26 : chkR Try.prog Try.f26.results.toList o26 = true := by decide +kernel

/- wireschema/wireschemaref23.Sort -/
def g27_0 : List Am.Item := [
    ⟨(some 2), .val (.mov (.c (.nils))), none⟩]
def g27_1 : List Am.Item := [
    ⟨(some 3), .val (.mov (.c (.nils))), none⟩]
def g27_2 : List Am.Item := [
    ⟨(some 4), .val (.mov (.c (.int .i64 0))), none⟩]
def g27_3 : List Am.Item := [
    ⟨(some 7), .val (.mov (.t 4)), none⟩,
    ⟨(some 8), .val (.mov (.t 0)), none⟩,
    ⟨(some 9), .val (.len 1 (.t 8)), none⟩,
    ⟨(some 10), .val (.bin .num .lss (.t 7) (.t 9)), none⟩]
def g27_5 : List Am.Item := [
    ⟨(some 13), .val (.mov (.t 3)), none⟩,
    ⟨(some 14), .val (.len 1 (.t 13)), none⟩,
    ⟨(some 5), .val (.mov (.t 14)), none⟩]
def g27_6 : List Am.Item := [
    ⟨(some 15), .val (.mov (.t 5)), none⟩,
    ⟨(some 16), .val (.bin .num .gtr (.t 15) (.c (.int .i64 0))), none⟩,
    ⟨(some 17), .val (.mov (.t 16)), none⟩,
    ⟨(some 18), .val (.mov (.t 3)), (some (17, true))⟩,
    ⟨(some 19), .val (.mov (.t 5)), (some (17, true))⟩,
    ⟨(some 20), .val (.bin .num .sub (.t 19) (.c (.int .i64 1))), (some (17, true))⟩,
    ⟨(some 21), .val (.iaddr 4 none (.t 18) (.t 20)), (some (17, true))⟩,
    ⟨(some 22), .val (.faddr 0 (.t 21)), (some (17, true))⟩,
    ⟨(some 23), .val (.loadr none (.t 22)), (some (17, true))⟩,
    ⟨(some 24), .val (.mov (.t 0)), (some (17, true))⟩,
    ⟨(some 25), .val (.mov (.t 4)), (some (17, true))⟩,
    ⟨(some 26), .val (.iaddr 4 none (.t 24) (.t 25)), (some (17, true))⟩,
    ⟨(some 27), .val (.faddr 0 (.t 26)), (some (17, true))⟩,
    ⟨(some 28), .val (.loadr none (.t 27)), (some (17, true))⟩,
    ⟨(some 29), .val (.bin .num .gtr (.t 23) (.t 28)), (some (17, true))⟩,
    ⟨(some 30), .val (.pick (.t 17) (.t 29) (.c (.bool false))), none⟩]
def g27_7 : List Am.Item := [
    ⟨(some 31), .val (.mov (.t 5)), none⟩,
    ⟨(some 32), .val (.bin .num .sub (.t 31) (.c (.int .i64 1))), none⟩,
    ⟨(some 5), .val (.mov (.t 32)), none⟩]
def l27_0 : RC := .seq (.seq (.draw g27_6) (.cond (.t 30) (.skip) (.exit 2))) (.block 3 (.reg g27_7))
def g27_8 : List Am.Item := [
    ⟨(some 6), .val (.mov (.c (.nils))), none⟩]
def g27_9 : List Am.Item := [
    ⟨(some 33), .val (.mov (.t 6)), none⟩,
    ⟨(some 34), .val (.mov (.t 3)), none⟩,
    ⟨(some 35), .val (.mov (.t 5)), none⟩,
    ⟨(some 36), .val (.slc (some 4) (.t 34) none (some (.t 35)) none), none⟩,
    ⟨(some 37), .app 4 40 33 (.t 33) (.t 36), none⟩,
    ⟨(some 6), .val (.mov (.t 37)), none⟩]
def g27_10 : List Am.Item := [
    ⟨(some 38), .val (.mov (.t 6)), none⟩,
    ⟨(some 39), .val (.mov (.t 0)), none⟩,
    ⟨(some 40), .val (.mov (.t 4)), none⟩,
    ⟨(some 41), .val (.iaddr 4 none (.t 39) (.t 40)), none⟩,
    ⟨(some 42), .val (.load (some 4) (.t 41)), none⟩,
    ⟨(some 43), .bsl 4 1 [.int .i64 0, .int .i64 0, .int .u64 0, .str []] [(0, 4, (.t 42))], none⟩,
    ⟨(some 44), .app 4 40 33 (.t 38) (.t 43), none⟩,
    ⟨(some 6), .val (.mov (.t 44)), none⟩]
def g27_11 : List Am.Item := [
    ⟨(some 45), .val (.mov (.t 6)), none⟩,
    ⟨(some 46), .val (.mov (.t 3)), none⟩,
    ⟨(some 47), .val (.mov (.t 5)), none⟩,
    ⟨(some 48), .val (.slc (some 4) (.t 46) (some (.t 47)) none none), none⟩,
    ⟨(some 49), .app 4 40 33 (.t 45) (.t 48), none⟩,
    ⟨(some 6), .val (.mov (.t 49)), none⟩]
def g27_12 : List Am.Item := [
    ⟨(some 50), .val (.mov (.t 6)), none⟩,
    ⟨(some 3), .val (.mov (.t 50)), none⟩]
def g27_4 : List Am.Item := [
    ⟨(some 11), .val (.mov (.t 4)), none⟩,
    ⟨(some 12), .val (.bin .num .add (.t 11) (.c (.int .i64 1))), none⟩,
    ⟨(some 4), .val (.mov (.t 12)), none⟩]
def l27_1 : RC := .seq (.seq (.reg g27_3) (.cond (.t 10) (.skip) (.exit 0))) (.seq (.block 1 (.seq (.reg g27_5) (.seq (.block 2 (.loop l27_0)) (.seq (.reg g27_8) (.gho (.vec 6 6 4) (.seq (.reg g27_9) (.seq (.reg g27_10) (.seq (.reg g27_11) (.gho (.pub 6 6) (.reg g27_12)))))))))) (.reg g27_4))
def g27_13 : List Am.Item := [
    ⟨(some 51), .val (.mov (.t 3)), none⟩,
    ⟨(some 2), .val (.mov (.t 51)), none⟩]
def r27 : RC := .seq (.reg g27_0) (.seq (.reg g27_1) (.gho (.lst 3) (.seq (.seq (.reg g27_2) (.block 0 (.loop l27_1))) (.seq (.reg g27_13) (.ret)))))
def o27 : List RR := [.tmp 2]
theorem k27 : chkC Try.prog 52 r27 (Try.f27.body.getD .skip) = true := by decide +kernel
theorem q27 : chkR Try.prog Try.f27.results.toList o27 = true := by decide +kernel

/- wireschema/unknown.Only -/
def g28_0 : List Am.Item := [
    ⟨(some 4), .val (.mov (.c (.nils))), none⟩]
def g28_1 : List Am.Item := [
    ⟨(some 5), .val (.mov (.c (.nils))), none⟩]
def g28_2 : List Am.Item := [
    ⟨(some 8), .val (.mov (.t 0)), none⟩,
    ⟨(some 9), .val (.len 1 (.t 8)), none⟩,
    ⟨(some 10), .val (.mov (.c (.int .i64 0))), none⟩]
def g28_3 : List Am.Item := [
    ⟨(some 11), .val (.bin .num .lss (.t 10) (.t 9)), none⟩]
def g28_4 : List Am.Item := [
    ⟨(some 12), .val (.iaddr 4 none (.t 8) (.t 10)), none⟩,
    ⟨(some 13), .val (.load (some 4) (.t 12)), none⟩,
    ⟨(some 7), .allocN 7 [.int .i64 0, .int .i64 0, .int .u64 0, .str []], none⟩,
    ⟨none, .store 4 (.t 7) (.t 13), none⟩]
def g28_5 : List Am.Item := [
    ⟨(some 14), .val (.faddr 0 (.t 7)), none⟩,
    ⟨(some 15), .val (.load none (.t 14)), none⟩,
    ⟨(some 16), .val (.mov (.t 1)), none⟩,
    ⟨(some 17), .val (.bin .num .eql (.t 15) (.t 16)), none⟩]
def g28_6 : List Am.Item := [
    ⟨(some 18), .val (.mov (.t 5)), none⟩,
    ⟨(some 19), .val (.load (some 4) (.t 7)), none⟩,
    ⟨(some 20), .bsl 4 1 [.int .i64 0, .int .i64 0, .int .u64 0, .str []] [(0, 4, (.t 19))], none⟩,
    ⟨(some 21), .app 4 40 33 (.t 18) (.t 20), none⟩,
    ⟨(some 5), .val (.mov (.t 21)), none⟩]
def g28_7 : List Am.Item := [
    ⟨(some 22), .val (.bin .num .add (.t 10) (.c (.int .i64 1))), none⟩,
    ⟨(some 10), .val (.mov (.t 22)), none⟩]
def l28_0 : RC := .gho (.drop 7) (.seq (.reg g28_3) (.seq (.cond (.t 11) (.skip) (.exit 0)) (.seq (.block 1 (.seq (.reg g28_4) (.seq (.reg g28_5) (.cond (.t 17) (.reg g28_6) (.skip))))) (.reg g28_7))))
def g28_8 : List Am.Item := [
    ⟨(some 23), .val (.mov (.t 5)), none⟩,
    ⟨(some 4), .val (.mov (.t 23)), none⟩]
def r28 : RC := .seq (.reg g28_0) (.seq (.reg g28_1) (.gho (.vec 5 5 4) (.seq (.seq (.reg g28_2) (.block 0 (.loop l28_0))) (.seq (.reg g28_8) (.ret)))))
def o28 : List RR := [.tmp 4]
theorem k28 : chkC Try.prog 24 r28 (Try.f28.body.getD .skip) = true := by decide +kernel
theorem q28 : chkR Try.prog Try.f28.results.toList o28 = true := by decide +kernel

/- wireschema/wireschemaref23.Only -/
def g29_0 : List Am.Item := [
    ⟨(some 4), .val (.mov (.c (.nils))), none⟩]
def g29_1 : List Am.Item := [
    ⟨(some 5), .val (.mov (.c (.nils))), none⟩]
def g29_2 : List Am.Item := [
    ⟨(some 6), .val (.mov (.c (.int .i64 0))), none⟩]
def g29_3 : List Am.Item := [
    ⟨(some 7), .val (.mov (.t 6)), none⟩,
    ⟨(some 8), .val (.mov (.t 0)), none⟩,
    ⟨(some 9), .val (.len 1 (.t 8)), none⟩,
    ⟨(some 10), .val (.bin .num .lss (.t 7) (.t 9)), none⟩]
def g29_5 : List Am.Item := [
    ⟨(some 13), .val (.mov (.t 0)), none⟩,
    ⟨(some 14), .val (.mov (.t 6)), none⟩,
    ⟨(some 15), .val (.iaddr 4 none (.t 13) (.t 14)), none⟩,
    ⟨(some 16), .val (.faddr 0 (.t 15)), none⟩,
    ⟨(some 17), .val (.load none (.t 16)), none⟩,
    ⟨(some 18), .val (.mov (.t 1)), none⟩,
    ⟨(some 19), .val (.bin .num .eql (.t 17) (.t 18)), none⟩]
def g29_6 : List Am.Item := [
    ⟨(some 20), .val (.mov (.t 5)), none⟩,
    ⟨(some 21), .val (.mov (.t 0)), none⟩,
    ⟨(some 22), .val (.mov (.t 6)), none⟩,
    ⟨(some 23), .val (.iaddr 4 none (.t 21) (.t 22)), none⟩,
    ⟨(some 24), .val (.load (some 4) (.t 23)), none⟩,
    ⟨(some 25), .bsl 4 1 [.int .i64 0, .int .i64 0, .int .u64 0, .str []] [(0, 4, (.t 24))], none⟩,
    ⟨(some 26), .app 4 40 33 (.t 20) (.t 25), none⟩,
    ⟨(some 5), .val (.mov (.t 26)), none⟩]
def g29_4 : List Am.Item := [
    ⟨(some 11), .val (.mov (.t 6)), none⟩,
    ⟨(some 12), .val (.bin .num .add (.t 11) (.c (.int .i64 1))), none⟩,
    ⟨(some 6), .val (.mov (.t 12)), none⟩]
def l29_0 : RC := .seq (.seq (.reg g29_3) (.cond (.t 10) (.skip) (.exit 0))) (.seq (.block 1 (.seq (.reg g29_5) (.cond (.t 19) (.reg g29_6) (.skip)))) (.reg g29_4))
def g29_7 : List Am.Item := [
    ⟨(some 27), .val (.mov (.t 5)), none⟩,
    ⟨(some 4), .val (.mov (.t 27)), none⟩]
def r29 : RC := .seq (.reg g29_0) (.seq (.reg g29_1) (.gho (.vec 5 5 4) (.seq (.seq (.reg g29_2) (.block 0 (.loop l29_0))) (.seq (.reg g29_7) (.ret)))))
def o29 : List RR := [.tmp 4]
theorem k29 : chkC Try.prog 28 r29 (Try.f29.body.getD .skip) = true := by decide +kernel
theorem q29 : chkR Try.prog Try.f29.results.toList o29 = true := by decide +kernel

/- wireschema/wireschemalaw23.UnknownLists -/
def g9_0 : List Am.Item := [
    ⟨(some 4), .val (.mov (.c (.bool false))), none⟩]
def g9_1 : List Am.Item := [
    ⟨(some 6), .val (.mov (.t 0)), none⟩,
    ⟨(some 7), .call (.f 20) [(.t 6)], none⟩]
def g9_2 : List Am.Item := [
    ⟨(some 8), .call (.f 14) [], none⟩,
    ⟨(some 4), .val (.mov (.t 8)), none⟩]
def g9_3 : List Am.Item := [
    ⟨(some 5), .val (.mov (.c (.int .i64 0))), none⟩]
def g9_4 : List Am.Item := [
    ⟨(some 9), .val (.mov (.t 5)), none⟩,
    ⟨(some 10), .val (.mov (.t 0)), none⟩,
    ⟨(some 11), .val (.len 1 (.t 10)), none⟩,
    ⟨(some 12), .val (.bin .num .lss (.t 9) (.t 11)), none⟩]
def g9_6 : List Am.Item := [
    ⟨(some 15), .val (.mov (.t 0)), none⟩,
    ⟨(some 16), .val (.mov (.t 5)), none⟩,
    ⟨(some 17), .val (.iaddr 4 none (.t 15) (.t 16)), none⟩,
    ⟨(some 18), .val (.loadr (some 4) (.t 17)), none⟩,
    ⟨(some 19), .call (.f 21) [(.t 18)], none⟩,
    ⟨(some 20), .val (.mov (.t 0)), none⟩,
    ⟨(some 21), .val (.mov (.t 5)), none⟩,
    ⟨(some 22), .val (.iaddr 4 none (.t 20) (.t 21)), none⟩,
    ⟨(some 23), .val (.loadr (some 4) (.t 22)), none⟩,
    ⟨(some 24), .call (.f 24) [(.t 23)], none⟩,
    ⟨(some 25), .val (.bin .bool .neq (.t 19) (.t 24)), none⟩]
def g9_7 : List Am.Item := [
    ⟨(some 4), .val (.mov (.c (.bool false))), none⟩]
def g9_5 : List Am.Item := [
    ⟨(some 13), .val (.mov (.t 5)), none⟩,
    ⟨(some 14), .val (.bin .num .add (.t 13) (.c (.int .i64 1))), none⟩,
    ⟨(some 5), .val (.mov (.t 14)), none⟩]
def l9_0 : RC := .seq (.seq (.reg g9_4) (.cond (.t 12) (.skip) (.exit 0))) (.seq (.block 1 (.seq (.draw g9_6) (.cond (.t 25) (.seq (.reg g9_7) (.ret)) (.skip)))) (.reg g9_5))
def g9_8 : List Am.Item := [
    ⟨(some 26), .val (.mov (.t 0)), none⟩,
    ⟨(some 27), .call (.f 22) [(.t 26)], none⟩,
    ⟨(some 28), .val (.mov (.t 0)), none⟩,
    ⟨(some 29), .call (.f 25) [(.t 28)], none⟩,
    ⟨(some 30), .val (.bin .str .eql (.t 27) (.t 29)), none⟩,
    ⟨(some 31), .val (.mov (.t 30)), none⟩,
    ⟨(some 32), .val (.mov (.t 0)), (some (31, true))⟩,
    ⟨(some 33), .call (.f 26) [(.t 32)], (some (31, true))⟩,
    ⟨(some 34), .val (.mov (.t 0)), (some (31, true))⟩,
    ⟨(some 35), .call (.f 27) [(.t 34)], (some (31, true))⟩,
    ⟨(some 36), .call (.f 19) [(.t 33), (.t 35)], (some (31, true))⟩,
    ⟨(some 37), .val (.pick (.t 31) (.t 36) (.c (.bool false))), none⟩,
    ⟨(some 38), .val (.mov (.t 37)), none⟩,
    ⟨(some 39), .val (.mov (.t 0)), (some (38, true))⟩,
    ⟨(some 40), .val (.mov (.t 1)), (some (38, true))⟩,
    ⟨(some 41), .call (.f 28) [(.t 39), (.t 40)], (some (38, true))⟩,
    ⟨(some 42), .val (.mov (.t 0)), (some (38, true))⟩,
    ⟨(some 43), .val (.mov (.t 1)), (some (38, true))⟩,
    ⟨(some 44), .call (.f 29) [(.t 42), (.t 43)], (some (38, true))⟩,
    ⟨(some 45), .call (.f 19) [(.t 41), (.t 44)], (some (38, true))⟩,
    ⟨(some 46), .val (.pick (.t 38) (.t 45) (.c (.bool false))), none⟩,
    ⟨(some 47), .val (.mov (.t 46)), none⟩,
    ⟨(some 48), .call (.f 14) [], (some (47, true))⟩,
    ⟨(some 49), .val (.pick (.t 47) (.t 48) (.c (.bool false))), none⟩,
    ⟨(some 4), .val (.mov (.t 49)), none⟩]
def r9 : RC := .seq (.reg g9_0) (.seq (.seq (.reg g9_1) (.cond (.t 7) (.seq (.reg g9_2) (.ret)) (.skip))) (.seq (.seq (.reg g9_3) (.block 0 (.loop l9_0))) (.seq (.reg g9_8) (.ret))))
def o9 : List RR := [.tmp 4]
theorem k9 : chkC Try.prog 50 r9 (Try.f9.body.getD .skip) = true := by decide +kernel
theorem q9 : chkR Try.prog Try.f9.results.toList o9 = true := by decide +kernel

end Go.Proofs.Ytcmdlmcmefbkeaa.Rc

/- Plain laws of numbers: wrapping, bits of 64-bit numbers. -/
namespace Go.Proofs.Ytcmdlmcmefbkeaa.Bt
open Go

theorem wu64 (n : Int) : IntKind.u64.wrap n = n % 18446744073709551616 := by simp [IntKind.wrap, IntKind.bits, IntKind.signed]
theorem wu8 (n : Int) : IntKind.u8.wrap n = n % 256 := by simp [IntKind.wrap, IntKind.bits, IntKind.signed]
theorem wi64 (n : Int) : IntKind.i64.wrap n = (n + 9223372036854775808) % 18446744073709551616 - 9223372036854775808 := IntKind.wrap_i64 n

theorem ofInt_nat {n : Nat} (h : n < 18446744073709551616) : (BitVec.ofInt 64 (n : Int)).toNat = n := by
  simp
  omega

theorem xor_u64 (a b : Nat) (ha : a < 18446744073709551616) (hb : b < 18446744073709551616) : bits .xor .u64 (a : Int) (b : Int) = ((a ^^^ b : Nat) : Int) := by
  have hx : a ^^^ b < 2 ^ 64 := Nat.xor_lt_two_pow (by omega) (by omega)
  show IntKind.u64.wrap ((BitVec.ofInt 64 (a : Int) ^^^ BitVec.ofInt 64 (b : Int)).toNat : Int) = _
  rw [BitVec.toNat_xor, ofInt_nat ha, ofInt_nat hb, wu64]
  omega
theorem and_u64 (a b : Nat) (ha : a < 18446744073709551616) (hb : b < 18446744073709551616) : bits .and .u64 (a : Int) (b : Int) = ((a &&& b : Nat) : Int) := by
  have hx : a &&& b < 2 ^ 64 := Nat.and_lt_two_pow _ (by omega)
  show IntKind.u64.wrap ((BitVec.ofInt 64 (a : Int) &&& BitVec.ofInt 64 (b : Int)).toNat : Int) = _
  rw [BitVec.toNat_and, ofInt_nat ha, ofInt_nat hb, wu64]
  omega
theorem or_u64 (a b : Nat) (ha : a < 18446744073709551616) (hb : b < 18446744073709551616) : bits .or .u64 (a : Int) (b : Int) = ((a ||| b : Nat) : Int) := by
  have hx : a ||| b < 2 ^ 64 := Nat.or_lt_two_pow (by omega) (by omega)
  show IntKind.u64.wrap ((BitVec.ofInt 64 (a : Int) ||| BitVec.ofInt 64 (b : Int)).toNat : Int) = _
  rw [BitVec.toNat_or, ofInt_nat ha, ofInt_nat hb, wu64]
  omega

theorem xor_ones_nat (a : Nat) (ha : a < 18446744073709551616) : a ^^^ 18446744073709551615 = 18446744073709551615 - a := by
  have h1 : (BitVec.ofNat 64 a ^^^ BitVec.allOnes 64).toNat = a ^^^ 18446744073709551615 := by
    rw [BitVec.toNat_xor, BitVec.toNat_ofNat, BitVec.toNat_allOnes, Nat.mod_eq_of_lt (by omega)]
  rw [← h1, BitVec.xor_allOnes, BitVec.toNat_not, BitVec.toNat_ofNat, Nat.mod_eq_of_lt (by omega)]

theorem xor_u64_zero (a : Int) (h0 : 0 ≤ a) (h1 : a < 18446744073709551616) : bits .xor .u64 a 0 = a := by
  obtain ⟨n, rfl⟩ := Int.eq_ofNat_of_zero_le h0
  have := xor_u64 n 0 (by omega) (by omega)
  rw [Nat.xor_zero] at this
  exact this
theorem xor_u64_ones (a : Int) (h0 : 0 ≤ a) (h1 : a < 18446744073709551616) : bits .xor .u64 a 18446744073709551615 = 18446744073709551615 - a := by
  obtain ⟨n, rfl⟩ := Int.eq_ofNat_of_zero_le h0
  have := xor_u64 n 18446744073709551615 (by omega) (by omega)
  rw [xor_ones_nat n (by omega)] at this
  rw [show ((18446744073709551615 : Nat) : Int) = 18446744073709551615 from rfl] at this
  rw [this]
  omega
theorem and_u64_one (a : Int) (h0 : 0 ≤ a) (h1 : a < 18446744073709551616) : bits .and .u64 a 1 = a % 2 := by
  obtain ⟨n, rfl⟩ := Int.eq_ofNat_of_zero_le h0
  have := and_u64 n 1 (by omega) (by omega)
  rw [Nat.and_one_is_mod] at this
  rw [show ((1 : Nat) : Int) = 1 from rfl] at this
  rw [this]
  omega
theorem xor_i64_zero (a : Int) (h0 : -9223372036854775808 ≤ a) (h1 : a < 9223372036854775808) : bits .xor .i64 a 0 = a := by
  show IntKind.i64.wrap ((BitVec.ofInt 64 a ^^^ BitVec.ofInt 64 0).toNat : Int) = _
  rw [BitVec.toNat_xor, show (BitVec.ofInt 64 0).toNat = 0 from rfl, Nat.xor_zero, BitVec.toNat_ofInt, wi64]
  omega
theorem xor_i64_ones (a : Int) (h0 : -9223372036854775808 ≤ a) (h1 : a < 9223372036854775808) : bits .xor .i64 a (-1) = -1 - a := by
  show IntKind.i64.wrap ((BitVec.ofInt 64 a ^^^ BitVec.ofInt 64 (-1)).toNat : Int) = _
  rw [BitVec.toNat_xor, show (BitVec.ofInt 64 (-1)).toNat = 18446744073709551615 from rfl, BitVec.toNat_ofInt, xor_ones_nat _ (by omega), wi64]
  omega

end Go.Proofs.Ytcmdlmcmefbkeaa.Bt

/- Plain laws of varints: lists of bytes and numbers, no program in sight. -/
namespace Go.Proofs.Ytcmdlmcmefbkeaa.Vp

/-- The varint of u, of at most k + 1 groups. -/
def vput : Nat → Nat → List UInt8
  | 0, u => [UInt8.ofNat u]
  | k + 1, u => if u < 128 then [UInt8.ofNat u] else UInt8.ofNat (u % 128 + 128) :: vput k (u / 128)

def put (u : Nat) : List UInt8 := vput 9 u

/-- Reading a varint: the i-th byte is next, acc has been read. The number, the length, the error. -/
def vtk : Nat → Nat → List UInt8 → Nat × Nat × Nat
  | _, _, [] => (0, 0, 4)
  | i, acc, c :: t =>
    if i = 9 ∧ 1 < c.toNat then (0, 0, 6)
    else if c.toNat < 128 then (acc + c.toNat * 128 ^ i, i + 1, 0)
    else vtk (i + 1) (acc + (c.toNat - 128) * 128 ^ i) t

def take (s : List UInt8) : Nat × Nat × Nat := vtk 0 0 s

theorem toNat_ofNat (n : Nat) (h : n < 256) : (UInt8.ofNat n).toNat = n := by
  simp [UInt8.toNat_ofNat']; omega

theorem vput_ne (k u : Nat) : vput k u ≠ [] := by
  cases k with
  | zero => simp [vput]
  | succ k => unfold vput; split <;> simp

theorem vput_len (k u : Nat) : 1 ≤ (vput k u).length ∧ (vput k u).length ≤ k + 1 := by
  induction k generalizing u with
  | zero => simp [vput]
  | succ k ih =>
    unfold vput
    split
    · simp
    · have := ih (u / 128); simp; omega

theorem put_len (u : Nat) : 1 ≤ (put u).length ∧ (put u).length ≤ 10 := vput_len 9 u

theorem vput_small (k u : Nat) (h : u < 128) : vput k u = [UInt8.ofNat u] := by
  cases k <;> simp [vput, h]

theorem vput_big (k u : Nat) (h : ¬ u < 128) : vput (k + 1) u = UInt8.ofNat (u % 128 + 128) :: vput k (u / 128) := by
  simp [vput, h]

theorem vput_mono (k u v : Nat) (h : u ≤ v) : (vput k u).length ≤ (vput k v).length := by
  induction k generalizing u v with
  | zero => simp [vput]
  | succ k ih =>
    by_cases hu : u < 128
    · rw [vput_small _ _ hu]; exact (vput_len (k + 1) v).1
    · have hv : ¬ v < 128 := by omega
      rw [vput_big _ _ hu, vput_big _ _ hv]
      have := ih (u / 128) (v / 128) (by omega)
      simp; omega

/-- More groups allowed than needed: the same varint. -/
theorem vput_more (k j u : Nat) (h : u < 128 ^ (k + 1)) (hj : k ≤ j) : vput j u = vput k u := by
  induction k generalizing j u with
  | zero =>
    have hu : u < 128 := by simpa using h
    rw [vput_small _ _ hu, vput_small _ _ hu]
  | succ k ih =>
    obtain ⟨j, rfl⟩ : ∃ i, j = i + 1 := ⟨j - 1, by omega⟩
    by_cases hu : u < 128
    · rw [vput_small _ _ hu, vput_small _ _ hu]
    · rw [vput_big _ _ hu, vput_big _ _ hu, ih j (u / 128) _ (by omega)]
      rw [Nat.pow_succ] at h
      omega

/-- The bound of what the groups from the i-th on can hold. -/
def room (i : Nat) : Nat := 2 ^ (64 - 7 * i)

theorem room_succ (i u : Nat) (hi : i < 9) (h : u < room i) : u / 128 < room (i + 1) := by
  unfold room at *
  have e : 64 - 7 * i = (64 - 7 * (i + 1)) + 7 := by omega
  rw [e, Nat.pow_add] at h
  omega

theorem vtk_put (k i acc u : Nat) (t : List UInt8) (hk : k + i = 9) (hu : u < room i) :
    vtk i acc (vput k u ++ t) = (acc + u * 128 ^ i, i + (vput k u).length, 0) := by
  induction k generalizing i acc u with
  | zero =>
    obtain rfl : i = 9 := by omega
    have hu2 : u < 2 := by simpa [room] using hu
    have hc := toNat_ofNat u (by omega)
    simp only [vput, List.cons_append, List.nil_append, vtk, hc]
    rw [if_neg (by omega), if_pos (by omega)]
    rfl
  | succ k ih =>
    by_cases h : u < 128
    · have hc := toNat_ofNat u (by omega)
      rw [vput_small _ _ h]
      simp only [List.cons_append, List.nil_append, vtk, hc]
      rw [if_neg (by omega), if_pos h]
      rfl
    · have hc := toNat_ofNat (u % 128 + 128) (by omega)
      rw [vput_big _ _ h]
      simp only [List.cons_append, vtk, hc]
      rw [if_neg (by omega), if_neg (by omega), ih (i + 1) _ (u / 128) (by omega) (room_succ i u (by omega) hu)]
      have e : acc + (u % 128 + 128 - 128) * 128 ^ i + u / 128 * 128 ^ (i + 1) = acc + u * 128 ^ i := by
        rw [Nat.pow_succ, Nat.add_sub_cancel, Nat.add_assoc, Nat.mul_comm (128 ^ i) 128, ← Nat.mul_assoc, ← Nat.add_mul]
        congr 2; omega
      rw [e]
      simp only [List.length_cons, Prod.mk.injEq, true_and, and_true]
      omega

theorem take_put (u : Nat) (t : List UInt8) (h : u < 2 ^ 64) : take (put u ++ t) = (u, (put u).length, 0) := by
  have := vtk_put 9 0 0 u t rfl (by simpa [room] using h)
  simpa [take, put] using this

theorem vtk_err (i acc : Nat) (s : List UInt8) : (vtk i acc s).2.2 = 0 ∨ (vtk i acc s).2.2 = 4 ∨ (vtk i acc s).2.2 = 6 := by
  induction s generalizing i acc with
  | nil => simp [vtk]
  | cons c t ih =>
    unfold vtk
    split
    · simp
    · split
      · simp
      · exact ih _ _

theorem vtk_zero (i acc : Nat) (s : List UInt8) (h : (vtk i acc s).2.2 ≠ 0) : (vtk i acc s).1 = 0 ∧ (vtk i acc s).2.1 = 0 := by
  induction s generalizing i acc with
  | nil => simp [vtk]
  | cons c t ih =>
    unfold vtk at h ⊢
    split
    · simp
    · rename_i h1
      rw [if_neg h1] at h
      split
      · rename_i h2; simp [h2] at h
      · rename_i h2
        rw [if_neg h2] at h
        exact ih _ _ h

/-- How far a number reads, and its bounds. -/
theorem vtk_bounds (i acc : Nat) (s : List UInt8) (hi : i ≤ 9) (ha : acc < 128 ^ i) (h : (vtk i acc s).2.2 = 0) :
    i < (vtk i acc s).2.1 ∧ (vtk i acc s).2.1 ≤ i + s.length ∧ (vtk i acc s).2.1 ≤ 10 ∧ (vtk i acc s).1 < 2 ^ 64 := by
  induction s generalizing i acc with
  | nil => simp [vtk] at h
  | cons c t ih =>
    unfold vtk at h ⊢
    split
    · rename_i h1; rw [if_pos h1] at h; simp at h
    · rename_i h1
      rw [if_neg h1] at h
      have hp : 128 ^ i = 2 ^ (7 * i) := by rw [show (128 : Nat) = 2 ^ 7 from rfl, ← Nat.pow_mul]
      split
      · rename_i h2
        refine ⟨Nat.lt_succ_self i, by simp, by show i + 1 ≤ 10; omega, ?_⟩
        show acc + c.toNat * 128 ^ i < 2 ^ 64
        rcases Nat.lt_or_ge i 9 with h9 | h9
        · have : c.toNat * 128 ^ i ≤ 127 * 128 ^ i := Nat.mul_le_mul_right _ (by omega)
          have h3 : acc + c.toNat * 128 ^ i < 128 ^ (i + 1) := by rw [Nat.pow_succ]; omega
          have h4 : 128 ^ (i + 1) ≤ 128 ^ 9 := Nat.pow_le_pow_right (by omega) (by omega)
          omega
        · obtain rfl : i = 9 := by omega
          have : c.toNat ≤ 1 := by omega
          omega
      · rename_i h2
        rw [if_neg h2] at h
        have h9 : i < 9 := by
          rcases Nat.lt_or_ge i 9 with h9 | h9
          · exact h9
          · exact absurd ⟨by omega, by omega⟩ h1
        have hc := c.toNat_lt
        have h3 : acc + (c.toNat - 128) * 128 ^ i < 128 ^ (i + 1) := by
          have : (c.toNat - 128) * 128 ^ i ≤ 127 * 128 ^ i := Nat.mul_le_mul_right _ (by omega)
          rw [Nat.pow_succ]; omega
        obtain ⟨a, b, d, e⟩ := ih (i + 1) _ (by omega) h3 h
        exact ⟨by omega, by simp; omega, d, e⟩

theorem take_bounds (s : List UInt8) (h : (take s).2.2 = 0) : 0 < (take s).2.1 ∧ (take s).2.1 ≤ s.length ∧ (take s).2.1 ≤ 10 ∧ (take s).1 < 2 ^ 64 := by
  have := vtk_bounds 0 0 s (by omega) (by omega) h
  simpa [take] using this

/-- What is read does not depend on what follows the bytes that were read. -/
theorem vtk_append (i acc : Nat) (s t : List UInt8) (h : (vtk i acc s).2.2 ≠ 4) : vtk i acc (s ++ t) = vtk i acc s := by
  induction s generalizing i acc with
  | nil => simp [vtk] at h
  | cons c r ih =>
    simp only [List.cons_append]
    unfold vtk at h ⊢
    split
    · rfl
    · rename_i h1
      rw [if_neg h1] at h
      split
      · rfl
      · rename_i h2
        rw [if_neg h2] at h
        exact ih _ _ h

/-- Ten bytes are enough. -/
theorem vtk_ten (i acc : Nat) (s : List UInt8) (hi : i ≤ 9) (hl : 10 ≤ i + s.length) : (vtk i acc s).2.2 ≠ 4 := by
  induction s generalizing i acc with
  | nil => simp at hl; omega
  | cons c r ih =>
    unfold vtk
    split
    · simp
    · rename_i h1
      split
      · simp
      · rename_i h2
        exact ih _ _ (by omega) (by simp at hl; omega)

theorem take_take (s : List UInt8) : take (s.take 10) = take s := by
  rcases Nat.lt_or_ge s.length 10 with h | h
  · rw [List.take_of_length_le (by omega)]
  · have := vtk_append 0 0 (s.take 10) (s.drop 10) (vtk_ten 0 0 _ (by omega) (by simp; omega))
    rw [List.take_append_drop] at this
    exact this.symm

/-- All bytes read: the number's groups; zero only if the last byte is; the shortest form only if the last byte is not zero (or the only one). -/
theorem vtk_all (i acc : Nat) (s : List UInt8) (k : Nat) (hk : k + i = 9) (h : (vtk i acc s).2.2 = 0) (hn : (vtk i acc s).2.1 = i + s.length) :
    ∃ v, (vtk i acc s).1 = acc + v * 128 ^ i ∧ (v = 0 → s.getLast? = some 0) ∧ (s.length = 1 → s.getLast? = some (UInt8.ofNat v) ∧ v < 128) ∧
      (vput k v = s ↔ (s.length = 1 ∨ s.getLast? ≠ some 0)) := by
  induction s generalizing i acc k with
  | nil => simp [vtk] at h
  | cons c t ih =>
    unfold vtk at h hn ⊢
    split
    · rename_i h1; rw [if_pos h1] at h; simp at h
    · rename_i h1
      rw [if_neg h1] at h hn
      split
      · rename_i h2
        rw [if_pos h2] at hn
        have ht : t = [] := by
          have : t.length = 0 := by
            have hn' : i + 1 = i + (t.length + 1) := hn
            omega
          exact List.eq_nil_of_length_eq_zero this
        subst ht
        have hc : UInt8.ofNat c.toNat = c := by simp
        refine ⟨c.toNat, rfl, fun h0 => by simp; exact UInt8.toNat.inj (by simpa using h0), fun _ => ⟨by simp, h2⟩, ?_⟩
        rw [vput_small _ _ h2, hc]
        simp
      · rename_i h2
        rw [if_neg h2] at h hn
        have h9 : i < 9 := by
          rcases Nat.lt_or_ge i 9 with h9 | h9
          · exact h9
          · exact absurd ⟨by omega, by omega⟩ h1
        obtain ⟨k, rfl⟩ : ∃ j, k = j + 1 := ⟨k - 1, by omega⟩
        obtain ⟨v, e, z, one, sh⟩ := ih (i + 1) _ k (by omega) h (by rw [hn, List.length_cons]; omega)
        have hcl := c.toNat_lt
        have htn : t ≠ [] := by rintro rfl; simp [vtk] at h
        have hlast : (c :: t).getLast? = t.getLast? := by
          cases t with
          | nil => exact absurd rfl htn
          | cons d t => simp
        have hlen : (c :: t).length ≠ 1 := by
          cases t with
          | nil => exact absurd rfl htn
          | cons d t => simp
        refine ⟨(c.toNat - 128) + v * 128, ?_, ?_, fun hl => absurd hl hlen, ?_⟩
        · rw [e, Nat.pow_succ, Nat.add_mul, Nat.mul_comm (128 ^ i) 128, ← Nat.mul_assoc, Nat.add_assoc]
        · intro h0; rw [hlast]; exact z (by omega)
        · rw [hlast]
          simp only [hlen, false_or]
          by_cases hv : v = 0
          · have := z hv
            rw [vput_small _ _ (by omega), this]
            simp
            intro _
            exact htn
          · rw [vput_big _ _ (by omega)]
            have e1 : (c.toNat - 128 + v * 128) % 128 + 128 = c.toNat := by omega
            have e2 : (c.toNat - 128 + v * 128) / 128 = v := by omega
            rw [e1, e2]
            have hc : UInt8.ofNat c.toNat = c := by simp
            rw [hc]
            simp only [List.cons.injEq, true_and]
            rw [sh]
            constructor
            · rintro (h1 | h1)
              · obtain ⟨hl, hv'⟩ := one h1
                rw [hl]
                intro h0
                simp at h0
                have := congrArg UInt8.toNat h0
                rw [toNat_ofNat _ (by omega)] at this
                exact hv this
              · exact h1
            · exact fun h1 => .inr h1

theorem put_take (s : List UInt8) (h : (take s).2.2 = 0) (hn : (take s).2.1 = s.length) : put (take s).1 = s ↔ (s.length = 1 ∨ s.getLast? ≠ some 0) := by
  obtain ⟨v, e, _, _, sh⟩ := vtk_all 0 0 s 9 rfl h (by simpa [take] using hn)
  have : (take s).1 = v := by simpa [take] using e
  rw [this]; exact sh

/-- The shortest form. -/
def short (s : List UInt8) : Bool := (take s).2.2 == 0 && (take s).2.1 == s.length && decide (put (take s).1 = s)

theorem short_put (u : Nat) (h : u < 2 ^ 64) : short (put u) = true := by
  have := take_put u [] h
  rw [List.append_nil] at this
  simp [short, this]

/-- What the law says of any bytes. -/
theorem round_trip (u : Nat) (s : List UInt8) (h : u < 2 ^ 64) (hp : put (take s).1 = put u) : short s = decide (s = put u) := by
  by_cases hs : s = put u
  · subst hs; rw [short_put u h]; simp
  · have : short s = false := by
      cases hsh : short s with
      | false => rfl
      | true =>
        simp [short] at hsh
        exact absurd (hsh.2.symm.trans hp) hs
    rw [this]; simp [hs]

end Go.Proofs.Ytcmdlmcmefbkeaa.Vp

/- Varint functions that make bytes: what each computes. -/
set_option linter.unusedSimpArgs false
namespace Go.Proofs.Ytcmdlmcmefbkeaa.Va
open Go Am Rc Bt Vp

/-- Bytes as numbers. -/
def bl (l : List UInt8) : List AV := l.map fun b => .int .u8 (b.toNat : Int)
theorem bl_append (a b : List UInt8) : bl (a ++ b) = bl a ++ bl b := by simp [bl]
theorem bl_length (a : List UInt8) : (bl a).length = a.length := by simp [bl]
theorem bytesOf_bl (l : List UInt8) : bytesOf (bl l) = some l := by
  induction l with
  | nil => rfl
  | cons b l ih =>
    show (bytesOf (bl l)).map _ = _
    rw [ih]
    simp

theorem fdiv7 (u : Nat) : (u : Int).fdiv (2 ^ min 7 64) = ((u / 128 : Nat) : Int) := by
  rw [show min 7 64 = 7 from rfl, Int.fdiv_eq_ediv_of_nonneg _ (show (0 : Int) ≤ 2 ^ 7 by decide)]
  omega

theorem or128 (u : Nat) : bits .or .u8 (IntKind.u8.wrap (u : Int)) 128 = ((UInt8.ofNat (u % 128 + 128)).toNat : Int) := by
  rw [wu8]
  have h : ∀ n : Fin 256, bits .or .u8 ((n.val : Nat) : Int) 128 = ((n.val % 128 + 128 : Nat) : Int) := by decide +kernel
  have := h ⟨u % 256, by omega⟩
  simp only at this
  rw [show ((u : Int) % 256) = ((u % 256 : Nat) : Int) by omega, this, toNat_ofNat _ (by omega)]
  omega

theorem low8 (u : Nat) (h : u < 128) : IntKind.u8.wrap (u : Int) = ((UInt8.ofNat u).toNat : Int) := by
  rw [wu8, toNat_ofNat _ (by omega)]
  omega

def PutI (u0 : Nat) (k : Nat) (st : St) : Prop :=
  ∃ f fr u g j l, st = ⟨f, [fr], []⟩ ∧ k = u ∧ f 0 = .int .u64 (u : Nat) ∧ f 3 = .vec 0 3 g 0 l.length false ∧ fr 3 = .vec g 1 (bl l) ∧ u < room (9 - j) ∧ l.length + j = 9 ∧ l ++ vput j u = Vp.put u0

theorem c30 (u : Nat) (hu : u < 18446744073709551616) : Fn1 Try.prog 30 [.int .u64 u] (.str (Vp.put u)) := by
  refine fn1_of_awp (rc := r30) (rs := o30) Try.func30 rfl rfl Try.ntmps30 k30 q30 (by simp) ?_
  simp only [g30_0, g30_1, g30_2, g30_3, g30_4, g30_5, r30, o30, eEV, Nat.reduceBEq, Int.reduceLE, Int.reduceLT, Int.reduceToNat, Int.reduceEq, ↓reduceIte, reduceCtorEq, Nat.reducePow]
  refine awp_vec rfl rfl ?_
  simp only [eEV, Nat.reduceBEq, Int.reduceLE, Int.reduceLT, Int.reduceToNat, Int.reduceEq, ↓reduceIte, reduceCtorEq, Nat.reducePow]
  refine awp_loop (PutI u) u ⟨_, _, u, 1, 9, [], rfl, rfl, rfl, rfl, rfl, hu, rfl, rfl⟩ ?_
  rintro n st ⟨f, fr, v, g, j, l, rfl, rfl, h0, h3, hv, hlt, hj, hl⟩
  simp only [l30_0, g30_0, g30_1, g30_2, g30_3, g30_4, g30_5, r30, o30, h0, h3, eEV, Nat.reduceBEq, Int.reduceLE, Int.reduceLT, Int.reduceToNat, Int.reduceEq, ↓reduceIte, reduceCtorEq, Nat.reducePow]
  refine csel_of (fun h => ?_) (fun h => ?_)
  · have h : 128 ≤ n := by have h : (128 : Int) ≤ n := by simpa using h
                           omega
    obtain ⟨j, rfl⟩ : ∃ i, j = i + 1 := ⟨j - 1, by
      rcases Nat.eq_zero_or_pos j with rfl | hp
      · simp [room] at hlt; omega
      · omega⟩
    simp only [h0, h3, eEV, Nat.reduceBEq, Int.reduceLE, Int.reduceLT, Int.reduceToNat, Int.reduceEq, ↓reduceIte, reduceCtorEq, Nat.reducePow]
    refine aops_bsl1 rfl ?_
    refine aops_app rfl hv rfl (bl_length l).symm rfl rfl (by simp [maxLen]; omega) (by simp; omega) ?_
    simp only [h0, fdiv7, or128, eEV, Nat.reduceBEq, Int.reduceLE, Int.reduceLT, Int.reduceToNat, Int.reduceEq, ↓reduceIte, reduceCtorEq, Nat.reducePow]
    refine ⟨n / 128, by omega, _, _, n / 128, g + 1, j, l ++ [UInt8.ofNat (n % 128 + 128)], rfl, rfl, rfl, ?_, ?_, ?_, ?_, ?_⟩
    · simp only [List.length_append, List.length_cons, List.length_nil, eEV, Nat.reduceBEq, Int.reduceLE, Int.reduceLT, Int.reduceToNat, Int.reduceEq, ↓reduceIte, reduceCtorEq, Nat.reducePow]
    · simp only [upd_same, bl_append] <;> rfl
    · have := room_succ (9 - (j + 1)) n (by omega) hlt
      rwa [show 9 - (j + 1) + 1 = 9 - j by omega] at this
    · simp; omega
    · rw [← hl, vput_big j n (by omega)]; simp
  · have h : n < 128 := by have h : (n : Int) < 128 := by simpa using h
                           omega
    simp only [h0, h3, eEV, Nat.reduceBEq, Int.reduceLE, Int.reduceLT, Int.reduceToNat, Int.reduceEq, ↓reduceIte, reduceCtorEq, Nat.reducePow]
    refine aops_bsl1 rfl ?_
    refine aops_app rfl hv rfl (bl_length l).symm rfl rfl (by simp [maxLen]; omega) (by simp; omega) ?_
    have he := elems_own (m := []) (fr := upd fr 3 (.vec (g + 1) 1 (bl l ++ [.int .u8 ((UInt8.ofNat n).toNat : Int)]))) (site := 3) (g := g + 1) (sz := 1) (n := l.length + (0 + 1)) (q := false) rfl (by simp [bl])
    have hb : bytesOf (bl l ++ [.int .u8 ((UInt8.ofNat n).toNat : Int)]) = some (l ++ [UInt8.ofNat n]) := by
      have := bytesOf_bl (l ++ [UInt8.ofNat n])
      rwa [bl_append] at this
    simp only [h0, low8 n h, he, hb, eEV, Nat.reduceBEq, Int.reduceLE, Int.reduceLT, Int.reduceToNat, Int.reduceEq, ↓reduceIte, reduceCtorEq, Nat.reducePow]
    rw [← hl, vput_small j n h]

theorem tmod128 (n : Nat) : (n : Int).tmod 128 = ((n % 128 : Nat) : Int) := by
  rw [Int.tmod_eq_emod_of_nonneg (by omega)]; omega
theorem tdiv128 (n : Nat) (h : n < 18446744073709551616) : IntKind.u64.wrap ((n : Int).tdiv 128) = ((n / 128 : Nat) : Int) := by
  rw [Int.tdiv_eq_ediv_of_nonneg (by omega), wu64]; omega
theorem ref128 (n : Nat) : IntKind.u8.wrap (IntKind.u64.wrap (((n % 128 : Nat) : Int) + 128)) = ((UInt8.ofNat (n % 128 + 128)).toNat : Int) := by
  rw [wu64, wu8, toNat_ofNat _ (by omega)]; omega
theorem room_le (i n : Nat) (h : n < room i) : n < 18446744073709551616 := by
  refine Nat.lt_of_lt_of_le h ?_
  unfold room
  exact Nat.pow_le_pow_right (by omega) (by omega : 64 - 7 * i ≤ 64)

theorem c31 (u : Nat) (hu : u < 18446744073709551616) : Fn1 Try.prog 31 [.int .u64 u] (.str (Vp.put u)) := by
  refine fn1_of_awp (rc := r31) (rs := o31) Try.func31 rfl rfl Try.ntmps31 k31 q31 (by simp) ?_
  simp only [g31_0, g31_1, g31_2, g31_3, g31_4, g31_5, r31, o31, eEV, Nat.reduceBEq, Int.reduceLE, Int.reduceLT, Int.reduceToNat, Int.reduceEq, ↓reduceIte, reduceCtorEq, Nat.reducePow]
  refine awp_vec rfl rfl ?_
  simp only [eEV, Nat.reduceBEq, Int.reduceLE, Int.reduceLT, Int.reduceToNat, Int.reduceEq, ↓reduceIte, reduceCtorEq, Nat.reducePow]
  refine awp_loop (PutI u) u ⟨_, _, u, 1, 9, [], rfl, rfl, rfl, rfl, rfl, hu, rfl, rfl⟩ ?_
  rintro n st ⟨f, fr, v, g, j, l, rfl, rfl, h0, h3, hv, hlt, hj, hl⟩
  simp only [l31_0, g31_0, g31_1, g31_2, g31_3, g31_4, g31_5, r31, o31, h0, h3, eEV, Nat.reduceBEq, Int.reduceLE, Int.reduceLT, Int.reduceToNat, Int.reduceEq, ↓reduceIte, reduceCtorEq, Nat.reducePow]
  refine csel_of (fun h => ?_) (fun h => ?_)
  · have h : 128 ≤ n := by have h : (128 : Int) ≤ n := by simpa using h
                           omega
    obtain ⟨j, rfl⟩ : ∃ i, j = i + 1 := ⟨j - 1, by
      rcases Nat.eq_zero_or_pos j with rfl | hp
      · simp [room] at hlt; omega
      · omega⟩
    simp only [h0, h3, tmod128, tdiv128 n (room_le _ _ hlt), ref128, Int.reduceEq, eEV, Nat.reduceBEq, Int.reduceLE, Int.reduceLT, Int.reduceToNat, Int.reduceEq, ↓reduceIte, reduceCtorEq, Nat.reducePow]
    refine aops_bsl1 rfl ?_
    refine aops_app rfl hv rfl (bl_length l).symm rfl rfl (by simp [maxLen]; omega) (by simp; omega) ?_
    simp only [h0, tmod128, tdiv128 n (room_le _ _ hlt), ref128, eEV, Nat.reduceBEq, Int.reduceLE, Int.reduceLT, Int.reduceToNat, Int.reduceEq, ↓reduceIte, reduceCtorEq, Nat.reducePow]
    refine ⟨n / 128, by omega, _, _, n / 128, g + 1, j, l ++ [UInt8.ofNat (n % 128 + 128)], rfl, rfl, rfl, ?_, ?_, ?_, ?_, ?_⟩
    · simp only [List.length_append, List.length_cons, List.length_nil, eEV, Nat.reduceBEq, Int.reduceLE, Int.reduceLT, Int.reduceToNat, Int.reduceEq, ↓reduceIte, reduceCtorEq, Nat.reducePow]
    · simp only [upd_same, bl_append] <;> rfl
    · have := room_succ (9 - (j + 1)) n (by omega) hlt
      rwa [show 9 - (j + 1) + 1 = 9 - j by omega] at this
    · simp; omega
    · rw [← hl, vput_big j n (by omega)]; simp
  · have h : n < 128 := by have h : (n : Int) < 128 := by simpa using h
                           omega
    simp only [h0, h3, eEV, Nat.reduceBEq, Int.reduceLE, Int.reduceLT, Int.reduceToNat, Int.reduceEq, ↓reduceIte, reduceCtorEq, Nat.reducePow]
    refine aops_bsl1 rfl ?_
    refine aops_app rfl hv rfl (bl_length l).symm rfl rfl (by simp [maxLen]; omega) (by simp; omega) ?_
    have he := elems_own (m := []) (fr := upd fr 3 (.vec (g + 1) 1 (bl l ++ [.int .u8 ((UInt8.ofNat n).toNat : Int)]))) (site := 3) (g := g + 1) (sz := 1) (n := l.length + (0 + 1)) (q := false) rfl (by simp [bl])
    have hb : bytesOf (bl l ++ [.int .u8 ((UInt8.ofNat n).toNat : Int)]) = some (l ++ [UInt8.ofNat n]) := by
      have := bytesOf_bl (l ++ [UInt8.ofNat n])
      rwa [bl_append] at this
    simp only [h0, low8 n h, he, hb, eEV, Nat.reduceBEq, Int.reduceLE, Int.reduceLT, Int.reduceToNat, Int.reduceEq, ↓reduceIte, reduceCtorEq, Nat.reducePow]
    rw [← hl, vput_small j n h]

def LenI (u0 : Nat) (k : Nat) (st : St) : Prop :=
  ∃ f u j c, st = ⟨f, [noObs], []⟩ ∧ k = u ∧ f 0 = .int .u64 (u : Nat) ∧ f 3 = .int .i64 (c : Nat) ∧ u < room (9 - j) ∧ 1 ≤ c ∧ c + j = 10 ∧ c + (vput j u).length = (Vp.put u0).length + 1

end Go.Proofs.Ytcmdlmcmefbkeaa.Va

/- Varint functions that read: what each computes. -/
set_option linter.unusedSimpArgs false
namespace Go.Proofs.Ytcmdlmcmefbkeaa.Va
open Go Am Rc Bt Vp

/-- What reading gives. -/
def tk (r : Nat × Nat × Nat) : AV := .tup [.int .u64 (r.1 : Nat), .int .i64 (r.2.1 : Nat), .int .i64 (r.2.2 : Nat)]

theorem tk_end : tk (0, 0, 4) = .tup [.int .u64 0, .int .i64 0, .int .i64 4] := rfl
theorem tk_bad : tk (0, 0, 6) = .tup [.int .u64 0, .int .i64 0, .int .i64 6] := rfl
theorem tk_ok (v n : Nat) : tk (v, n, 0) = .tup [.int .u64 (v : Nat), .int .i64 (n : Nat), .int .i64 0] := rfl

theorem and127 (c : UInt8) : bits .and .u8 (c.toNat : Int) 127 = ((c.toNat % 128 : Nat) : Int) := by
  have h : ∀ n : Fin 256, bits .and .u8 ((n.val : Nat) : Int) 127 = ((n.val % 128 : Nat) : Int) := by decide +kernel
  exact h ⟨c.toNat, c.toNat_lt⟩

theorem pow128 (i : Nat) : 128 ^ i = 2 ^ (7 * i) := by rw [Nat.pow_mul]

theorem add_digit (acc d i : Nat) (hi : i ≤ 9) (ha : acc < 128 ^ i) (hd : d < 128) (h9 : i = 9 → d ≤ 1) :
    bits .or .u64 (acc : Int) (IntKind.u64.wrap (IntKind.u64.wrap (d : Int) * 2 ^ min (IntKind.i64.wrap (7 * (i : Int))).toNat 64)) = ((acc + d * 128 ^ i : Nat) : Int) := by
  have e1 : IntKind.i64.wrap (7 * (i : Int)) = ((7 * i : Nat) : Int) := by rw [wi64]; omega
  have hb : d * 128 ^ i < 18446744073709551616 := by
    rcases Nat.lt_or_ge i 9 with h | h
    · have h1 : 128 ^ i ≤ 128 ^ 8 := Nat.pow_le_pow_right (by omega) (by omega)
      calc d * 128 ^ i ≤ 127 * 128 ^ 8 := Nat.mul_le_mul (by omega) h1
        _ < _ := by decide
    · have : i = 9 := by omega
      subst this
      calc d * 128 ^ 9 ≤ 1 * 128 ^ 9 := Nat.mul_le_mul (h9 rfl) (Nat.le_refl _)
        _ < _ := by decide
  have hacc : acc < 18446744073709551616 := by
    refine Nat.lt_of_lt_of_le ha ?_
    calc 128 ^ i ≤ 128 ^ 9 := Nat.pow_le_pow_right (by omega) hi
      _ ≤ _ := by decide
  have e2 : IntKind.u64.wrap (d : Int) = (d : Int) := by rw [wu64]; omega
  have e3 : IntKind.u64.wrap ((d : Int) * 2 ^ (7 * i)) = ((d * 128 ^ i : Nat) : Int) := by
    rw [wu64, pow128]
    have : ((d * 2 ^ (7 * i) : Nat) : Int) = (d : Int) * 2 ^ (7 * i) := by push_cast; rfl
    rw [← this]
    rw [pow128] at hb
    omega
  rw [e1, Int.toNat_natCast, Nat.min_eq_left (by omega), e2, e3, or_u64 _ _ hacc hb]
  congr 1
  rw [pow128] at ha ⊢
  have := Nat.two_pow_add_eq_or_of_lt ha d
  rw [Nat.or_comm, Nat.mul_comm d, ← this, Nat.add_comm]

theorem digit_lt {acc d i : Nat} (ha : acc < 128 ^ i) (hd : d < 128) : acc + d * 128 ^ i < 128 ^ (i + 1) := by
  have : d * 128 ^ i ≤ 127 * 128 ^ i := Nat.mul_le_mul_right _ (by omega)
  rw [Nat.pow_succ]
  omega

theorem getElem_drop {l t : List UInt8} {c : UInt8} {i : Nat} (h : l.drop i = c :: t) : l[i]? = some c ∧ l.drop (i + 1) = t ∧ i < l.length := by
  have hi : i < l.length := by
    rcases Nat.lt_or_ge i l.length with h' | h'
    · exact h'
    · rw [List.drop_of_length_le h'] at h; cases h
  rw [List.drop_eq_getElem_cons hi] at h
  injection h with h1 h2
  exact ⟨by rw [List.getElem?_eq_getElem hi, h1], h2, hi⟩

def TakeI (s : List UInt8) (k : Nat) (st : St) : Prop :=
  ∃ f i acc, st = ⟨f, [noObs], []⟩ ∧ k = s.length - i ∧ f 0 = .str s ∧ f 5 = .int .u64 (acc : Nat) ∧ f 6 = .int .i64 (i : Nat) ∧ i ≤ s.length ∧ i ≤ 9 ∧ acc < 128 ^ i ∧ vtk i acc (s.drop i) = Vp.take s

theorem c52 (s : List UInt8) : Fn1 Try.prog 52 [.str s] (tk (Vp.take s)) := by
  refine fn1_of_awp (rc := r52) (rs := o52) Try.func52 rfl rfl Try.ntmps52 k52 q52 (by simp) ?_
  simp only [g52_0, g52_1, g52_2, g52_3, g52_4, g52_5, g52_6, g52_7, g52_8, g52_9, g52_10, g52_11, r52, o52, eEV, Nat.reduceBEq, Int.reduceLE, Int.reduceLT, Int.reduceToNat, Int.reduceEq, ↓reduceIte, reduceCtorEq, Nat.reducePow]
  refine awp_loop (TakeI s) _ ⟨_, 0, 0, rfl, rfl, rfl, rfl, rfl, Nat.zero_le _, Nat.zero_le _, by decide, rfl⟩ ?_
  rintro n st ⟨f, i, acc, rfl, rfl, h0, h5, h6, hil, hi, ha, hv⟩
  simp only [l52_0, g52_0, g52_1, g52_2, g52_3, g52_4, g52_5, g52_6, g52_7, g52_8, g52_9, g52_10, g52_11, r52, o52, h0, h5, h6, eEV, Nat.reduceBEq, Int.reduceLE, Int.reduceLT, Int.reduceToNat, Int.reduceEq, ↓reduceIte, reduceCtorEq, Nat.reducePow]
  refine csel_of (fun h => ?_) (fun h => ?_)
  · have h : i = s.length := by have h : (i : Int) = s.length := by simpa using h
                                omega
    rw [List.drop_of_length_le (by omega)] at hv
    simp only [← hv, vtk, tk_end, h0, h5, h6, eEV, Nat.reduceBEq, Int.reduceLE, Int.reduceLT, Int.reduceToNat, Int.reduceEq, ↓reduceIte, reduceCtorEq, Nat.reducePow]
  · have h : i < s.length := by have h : ¬ (i : Int) = s.length := by simpa using h
                                omega
    obtain ⟨c, t, hc⟩ : ∃ c t, s.drop i = c :: t := by
      cases hd : s.drop i with
      | nil => have := congrArg List.length hd; simp at this; omega
      | cons c t => exact ⟨c, t, rfl⟩
    obtain ⟨g1, g2, _⟩ := getElem_drop hc
    rw [hc] at hv
    have n0 : (0 ≤ (i : Int)) = True := by simp
    have e7 : IntKind.i64.wrap (7 * (i : Int)) = ((7 * i : Nat) : Int) := by rw [wi64]; omega
    have n7 : (0 ≤ IntKind.i64.wrap (7 * (i : Int))) = True := eq_true (by rw [e7]; omega)
    have e1 : IntKind.i64.wrap ((i : Int) + 1) = ((i + 1 : Nat) : Int) := by rw [wi64]; omega
    rw [vtk] at hv
    simp only [h0, h5, h6, n0, g1, Int.toNat_natCast, eEV, Nat.reduceBEq, Int.reduceLE, Int.reduceLT, Int.reduceToNat, Int.reduceEq, ↓reduceIte, reduceCtorEq, Nat.reducePow]
    by_cases h9 : i = 9
    · have e9 : ((i : Int) == 9) = true := by simp; omega
      simp only [e9, h0, h5, h6, eEV, Nat.reduceBEq, Int.reduceLE, Int.reduceLT, Int.reduceToNat, Int.reduceEq, ↓reduceIte, reduceCtorEq, Nat.reducePow]
      refine csel_of (fun hc1 => ?_) (fun hc1 => ?_)
      · have hc1 : 1 < c.toNat := by have hc1 : (1 : Int) < c.toNat := by simpa using hc1
                                     omega
        rw [if_pos ⟨h9, hc1⟩] at hv
        simp only [← hv, tk_bad, h0, h5, h6, eEV, Nat.reduceBEq, Int.reduceLE, Int.reduceLT, Int.reduceToNat, Int.reduceEq, ↓reduceIte, reduceCtorEq, Nat.reducePow]
      · have hc1 : c.toNat ≤ 1 := by have hc1 : (c.toNat : Int) ≤ 1 := by simpa using hc1
                                     omega
        have hbad : ¬ (i = 9 ∧ 1 < c.toNat) := by omega
        rw [if_neg hbad] at hv
        have hd := add_digit acc (c.toNat % 128) i hi ha (by omega) (fun _ => by omega)
        simp only [and127, n7, hd, e1, h0, h5, h6, eEV, Nat.reduceBEq, Int.reduceLE, Int.reduceLT, Int.reduceToNat, Int.reduceEq, ↓reduceIte, reduceCtorEq, Nat.reducePow]
        refine csel_of (fun hlt => ?_) (fun hlt => ?_)
        · have hlt : c.toNat < 128 := by omega
          rw [if_pos hlt] at hv
          simp only [← hv, tk_ok, Nat.mod_eq_of_lt hlt, h0, h5, h6, eEV, Nat.reduceBEq, Int.reduceLE, Int.reduceLT, Int.reduceToNat, Int.reduceEq, ↓reduceIte, reduceCtorEq, Nat.reducePow]
        · exfalso
          have hlt : (128 : Int) ≤ c.toNat := by simpa using hlt
          omega
    · have hbad : ¬ (i = 9 ∧ 1 < c.toNat) := by omega
      rw [if_neg hbad] at hv
      have e9 : ((i : Int) == 9) = false := by simp; omega
      have hd := add_digit acc (c.toNat % 128) i hi ha (by omega) (fun e => absurd e h9)
      simp only [e9, and127, n7, hd, e1, h0, h5, h6, eEV, Nat.reduceBEq, Int.reduceLE, Int.reduceLT, Int.reduceToNat, Int.reduceEq, ↓reduceIte, reduceCtorEq, Nat.reducePow]
      refine csel_of (fun hlt => ?_) (fun hlt => ?_)
      · have hlt : c.toNat < 128 := by have hlt : (c.toNat : Int) < 128 := by simpa using hlt
                                       omega
        rw [if_pos hlt] at hv
        simp only [← hv, tk_ok, Nat.mod_eq_of_lt hlt, h0, h5, h6, eEV, Nat.reduceBEq, Int.reduceLE, Int.reduceLT, Int.reduceToNat, Int.reduceEq, ↓reduceIte, reduceCtorEq, Nat.reducePow]
      · have hlt : 128 ≤ c.toNat := by have hlt : (128 : Int) ≤ c.toNat := by simpa using hlt
                                       omega
        rw [if_neg (by omega)] at hv
        simp only [and127, n7, hd, e1, h0, h5, h6, eEV, Nat.reduceBEq, Int.reduceLE, Int.reduceLT, Int.reduceToNat, Int.reduceEq, ↓reduceIte, reduceCtorEq, Nat.reducePow]
        refine ⟨s.length - (i + 1), by omega, _, i + 1, acc + c.toNat % 128 * 128 ^ i, rfl, rfl, ?_, ?_, ?_, by omega, by omega, digit_lt ha (by omega), ?_⟩
        · simp only [h0, eEV, Nat.reduceBEq, Int.reduceLE, Int.reduceLT, Int.reduceToNat, Int.reduceEq, ↓reduceIte, reduceCtorEq, Nat.reducePow]
        · simp only [eEV, Nat.reduceBEq, Int.reduceLE, Int.reduceLT, Int.reduceToNat, Int.reduceEq, ↓reduceIte, reduceCtorEq, Nat.reducePow]
        · simp only [eEV, Nat.reduceBEq, Int.reduceLE, Int.reduceLT, Int.reduceToNat, Int.reduceEq, ↓reduceIte, reduceCtorEq, Nat.reducePow]
        · rw [g2, ← hv]
          have := c.toNat_lt
          rw [show c.toNat % 128 = c.toNat - 128 by omega]

theorem acc_lt {acc i : Nat} (hi : i ≤ 9) (ha : acc < 128 ^ i) : acc < 9223372036854775808 := by
  refine Nat.lt_of_lt_of_le ha ?_
  calc 128 ^ i ≤ 128 ^ 9 := Nat.pow_le_pow_right (by omega) hi
    _ ≤ _ := by decide
theorem pow_le {i : Nat} (hi : i ≤ 9) : 128 ^ i ≤ 9223372036854775808 := by
  calc 128 ^ i ≤ 128 ^ 9 := Nat.pow_le_pow_right (by omega) hi
    _ ≤ _ := by decide
theorem dig_lt {d i : Nat} (hi : i ≤ 9) (hd : d < 128) (h9 : i = 9 → d ≤ 1) : d * 128 ^ i ≤ 9223372036854775808 := by
  rcases Nat.lt_or_ge i 9 with h | h
  · have h1 : 128 ^ i ≤ 128 ^ 8 := Nat.pow_le_pow_right (by omega) (by omega)
    calc d * 128 ^ i ≤ 127 * 128 ^ 8 := Nat.mul_le_mul (by omega) h1
      _ ≤ _ := by decide
  · have : i = 9 := by omega
    calc d * 128 ^ i ≤ 1 * 9223372036854775808 := Nat.mul_le_mul (h9 this) (pow_le hi)
      _ ≤ _ := by decide
theorem mul_digit (d i : Nat) (hi : i ≤ 9) (hd : d < 128) (h9 : i = 9 → d ≤ 1) : IntKind.u64.wrap ((d : Int) * ((128 ^ i : Nat) : Int)) = ((d * 128 ^ i : Nat) : Int) := by
  have hb := dig_lt hi hd h9
  have : ((d * 128 ^ i : Nat) : Int) = (d : Int) * ((128 ^ i : Nat) : Int) := Int.natCast_mul ..
  rw [wu64, ← this]
  omega
theorem plus_digit (acc d i : Nat) (hi : i ≤ 9) (ha : acc < 128 ^ i) (hd : d < 128) (h9 : i = 9 → d ≤ 1) : IntKind.u64.wrap ((acc : Int) + ((d * 128 ^ i : Nat) : Int)) = ((acc + d * 128 ^ i : Nat) : Int) := by
  have hb := dig_lt hi hd h9
  have hc := acc_lt hi ha
  rw [wu64]
  omega
theorem next_pow (i : Nat) (hi : i < 9) : IntKind.u64.wrap (((128 ^ i : Nat) : Int) * 128) = ((128 ^ (i + 1) : Nat) : Int) := by
  have h : 128 ^ i ≤ 128 ^ 8 := Nat.pow_le_pow_right (by omega) (by omega)
  have h2 : (128 : Nat) ^ 8 = 72057594037927936 := by decide
  rw [wu64, Nat.pow_succ]
  omega

def RTakeI (s : List UInt8) (k : Nat) (st : St) : Prop :=
  ∃ f i acc, st = ⟨f, [noObs], []⟩ ∧ k = s.length - i ∧ f 0 = .str s ∧ f 5 = .int .u64 (acc : Nat) ∧ f 6 = .int .u64 ((128 ^ i : Nat) : Int) ∧ f 7 = .int .i64 (i : Nat) ∧ i ≤ s.length ∧ i ≤ 9 ∧ acc < 128 ^ i ∧ vtk i acc (s.drop i) = Vp.take s

theorem c55 (s : List UInt8) : Fn1 Try.prog 55 [.str s] (tk (Vp.take s)) := by
  refine fn1_of_awp (rc := r55) (rs := o55) Try.func55 rfl rfl Try.ntmps55 k55 q55 (by simp) ?_
  simp only [g55_0, g55_1, g55_2, g55_3, g55_5, g55_6, g55_7, g55_8, g55_9, g55_10, g55_11, g55_12, g55_13, g55_4, g55_14, r55, o55, eEV, Nat.reduceBEq, Int.reduceLE, Int.reduceLT, Int.reduceToNat, Int.reduceEq, ↓reduceIte, reduceCtorEq, Nat.reducePow]
  refine awp_loop (RTakeI s) _ ⟨_, 0, 0, rfl, rfl, rfl, rfl, rfl, rfl, Nat.zero_le _, Nat.zero_le _, by decide, rfl⟩ ?_
  rintro n st ⟨f, i, acc, rfl, rfl, h0, h5, h6, h7, hil, hi, ha, hv⟩
  have e10 : decide ((i : Int) < 10) = true := by simp; omega
  simp only [l55_0, g55_0, g55_1, g55_2, g55_3, g55_5, g55_6, g55_7, g55_8, g55_9, g55_10, g55_11, g55_12, g55_13, g55_4, g55_14, r55, o55, h0, h5, h6, h7, e10, eEV, Nat.reduceBEq, Int.reduceLE, Int.reduceLT, Int.reduceToNat, Int.reduceEq, ↓reduceIte, reduceCtorEq, Nat.reducePow]
  refine csel_of (fun h => ?_) (fun h => ?_)
  · have h : i = s.length := by have h : (s.length : Int) ≤ i := by simpa using h
                                omega
    rw [List.drop_of_length_le (by omega)] at hv
    simp only [← hv, vtk, tk_end, h0, h5, h6, h7, eEV, Nat.reduceBEq, Int.reduceLE, Int.reduceLT, Int.reduceToNat, Int.reduceEq, ↓reduceIte, reduceCtorEq, Nat.reducePow]
  · have h : i < s.length := by have h : (i : Int) < s.length := by simpa using h
                                omega
    obtain ⟨c, t, hc⟩ : ∃ c t, s.drop i = c :: t := by
      cases hd : s.drop i with
      | nil => have := congrArg List.length hd; simp at this; omega
      | cons c t => exact ⟨c, t, rfl⟩
    obtain ⟨g1, g2, _⟩ := getElem_drop hc
    rw [hc] at hv
    have n0 : (0 ≤ (i : Int)) = True := by simp
    have e1 : IntKind.i64.wrap ((i : Int) + 1) = ((i + 1 : Nat) : Int) := by rw [wi64]; omega
    have hcl := c.toNat_lt
    have ec : IntKind.u64.wrap (c.toNat : Int) = (c.toNat : Int) := by rw [wu64]; omega
    rw [vtk] at hv
    simp only [h0, h5, h6, h7, n0, g1, ec, Int.toNat_natCast, eEV, Nat.reduceBEq, Int.reduceLE, Int.reduceLT, Int.reduceToNat, Int.reduceEq, ↓reduceIte, reduceCtorEq, Nat.reducePow]
    by_cases h9 : i = 9
    · have e9 : ((i : Int) == 9) = true := by simp; omega
      simp only [e9, h0, h5, h6, h7, eEV, Nat.reduceBEq, Int.reduceLE, Int.reduceLT, Int.reduceToNat, Int.reduceEq, ↓reduceIte, reduceCtorEq, Nat.reducePow]
      refine csel_of (fun hc1 => ?_) (fun hc1 => ?_)
      · have hc1 : 1 < c.toNat := by have hc1 : (1 : Int) < c.toNat := by simpa using hc1
                                     omega
        rw [if_pos ⟨h9, hc1⟩] at hv
        simp only [← hv, tk_bad, h0, h5, h6, h7, eEV, Nat.reduceBEq, Int.reduceLE, Int.reduceLT, Int.reduceToNat, Int.reduceEq, ↓reduceIte, reduceCtorEq, Nat.reducePow]
      · have hc1 : c.toNat ≤ 1 := by have hc1 : (c.toNat : Int) ≤ 1 := by simpa using hc1
                                     omega
        have hbad : ¬ (i = 9 ∧ 1 < c.toNat) := by omega
        rw [if_neg hbad] at hv
        have hm := mul_digit (c.toNat % 128) i hi (by omega) (fun _ => by omega)
        have hd := plus_digit acc (c.toNat % 128) i hi ha (by omega) (fun _ => by omega)
        simp only [tmod128, hm, hd, e1, h0, h5, h6, h7, eEV, Nat.reduceBEq, Int.reduceLE, Int.reduceLT, Int.reduceToNat, Int.reduceEq, ↓reduceIte, reduceCtorEq, Nat.reducePow]
        refine csel_of (fun hlt => ?_) (fun hlt => ?_)
        · have hlt : c.toNat < 128 := by omega
          rw [if_pos hlt] at hv
          simp only [← hv, tk_ok, Nat.mod_eq_of_lt hlt, e1, h0, h5, h6, h7, eEV, Nat.reduceBEq, Int.reduceLE, Int.reduceLT, Int.reduceToNat, Int.reduceEq, ↓reduceIte, reduceCtorEq, Nat.reducePow]
        · exfalso
          have hlt : (128 : Int) ≤ c.toNat := by simpa using hlt
          omega
    · have hbad : ¬ (i = 9 ∧ 1 < c.toNat) := by omega
      rw [if_neg hbad] at hv
      have e9 : ((i : Int) == 9) = false := by simp; omega
      have hm := mul_digit (c.toNat % 128) i hi (by omega) (fun e => absurd e h9)
      have hd := plus_digit acc (c.toNat % 128) i hi ha (by omega) (fun e => absurd e h9)
      have hp := next_pow i (by omega)
      simp only [e9, tmod128, hm, hd, e1, h0, h5, h6, h7, eEV, Nat.reduceBEq, Int.reduceLE, Int.reduceLT, Int.reduceToNat, Int.reduceEq, ↓reduceIte, reduceCtorEq, Nat.reducePow]
      refine csel_of (fun hlt => ?_) (fun hlt => ?_)
      · have hlt : c.toNat < 128 := by have hlt : (c.toNat : Int) < 128 := by simpa using hlt
                                       omega
        rw [if_pos hlt] at hv
        simp only [← hv, tk_ok, Nat.mod_eq_of_lt hlt, e1, h0, h5, h6, h7, eEV, Nat.reduceBEq, Int.reduceLE, Int.reduceLT, Int.reduceToNat, Int.reduceEq, ↓reduceIte, reduceCtorEq, Nat.reducePow]
      · have hlt : 128 ≤ c.toNat := by have hlt : (128 : Int) ≤ c.toNat := by simpa using hlt
                                       omega
        rw [if_neg (by omega)] at hv
        simp only [hp, e1, h0, h5, h6, h7, eEV, Nat.reduceBEq, Int.reduceLE, Int.reduceLT, Int.reduceToNat, Int.reduceEq, ↓reduceIte, reduceCtorEq, Nat.reducePow]
        refine ⟨s.length - (i + 1), by omega, _, i + 1, acc + c.toNat % 128 * 128 ^ i, rfl, rfl, ?_, ?_, ?_, ?_, by omega, by omega, digit_lt ha (by omega), ?_⟩
        · simp only [h0, eEV, Nat.reduceBEq, Int.reduceLE, Int.reduceLT, Int.reduceToNat, Int.reduceEq, ↓reduceIte, reduceCtorEq, Nat.reducePow]
        · simp only [eEV, Nat.reduceBEq, Int.reduceLE, Int.reduceLT, Int.reduceToNat, Int.reduceEq, ↓reduceIte, reduceCtorEq, Nat.reducePow]
        · simp only [eEV, Nat.reduceBEq, Int.reduceLE, Int.reduceLT, Int.reduceToNat, Int.reduceEq, ↓reduceIte, reduceCtorEq, Nat.reducePow]
        · simp only [eEV, Nat.reduceBEq, Int.reduceLE, Int.reduceLT, Int.reduceToNat, Int.reduceEq, ↓reduceIte, reduceCtorEq, Nat.reducePow]
        · rw [g2, ← hv]
          rw [show c.toNat % 128 = c.toNat - 128 by omega]

end Go.Proofs.Ytcmdlmcmefbkeaa.Va

/- Cursors, as plain data: what each function of the package computes. -/
namespace Go.Proofs.Ytcmdlmcmefbkeaa.Cp
open Go Am Bt Vp

/-- A cursor. -/
structure C where
  d : List UInt8
  a : Int
  e : Int
  dp : Int
  nd : Int
  tx : Int

def C.av (c : C) : AV := .agg [.str c.d, .int .i64 c.a, .int .i64 c.e, .int .i64 c.dp, .int .i64 c.nd, .int .i64 c.tx]
def zc : C := ⟨[], 0, 0, 0, 0, 0⟩

/-- Limits. -/
structure L where
  b : Int
  dp : Int
  nd : Int
  tx : Int
def L.av (l : L) : AV := .agg [.int .i64 l.b, .int .i64 l.dp, .int .i64 l.nd, .int .i64 l.tx]

def C.sound (c : C) : Bool := decide (0 ≤ c.a) && decide (c.a ≤ c.e) && decide (c.e ≤ (c.d.length : Int))
def C.rest (c : C) : List UInt8 := bif c.sound then (c.d.drop c.a.toNat).take (c.e.toNat - c.a.toNat) else []
def C.left (c : C) : Int := (c.rest.length : Int)
def C.ahead (c : C) (n : Int) : C := { c with a := IntKind.i64.wrap (c.a + n) }

def opn (s : List UInt8) (l : L) : C × Nat :=
  if l.b < 0 ∨ l.dp < 0 ∨ l.nd < 0 ∨ l.tx < 0 then (zc, 1) else if l.b < (s.length : Int) then (zc, 3) else (⟨s, 0, s.length, l.dp, l.nd, l.tx⟩, 0)

/-- A number read at a cursor. -/
def C.varint (c : C) : Nat × C × Nat :=
  let r := Vp.take c.rest
  if r.2.2 = 0 then (r.1, c.ahead r.2.1, 0) else (0, c, r.2.2)

def fix8 (s : List UInt8) : Nat := (s.take 8).foldr (fun b u => 256 * u + b.toNat) 0

def C.fixed (c : C) : Nat × C × Nat :=
  if c.rest.length < 8 then (0, c, 4) else (fix8 c.rest, c.ahead 8, 0)

def C.spend (c : C) (n : Int) : C × Nat :=
  if n < 0 then (c, 1) else if c.nd < n then (c, 3) else ({ c with nd := IntKind.i64.wrap (c.nd - n) }, 0)

def ncav (r : Nat × C × Nat) : AV := .tup [.int .u64 (r.1 : Nat), r.2.1.av, .int .i64 (r.2.2 : Nat)]
def cav (r : C × Nat) : AV := .tup [r.1.av, .int .i64 (r.2 : Nat)]

theorem C.sound_iff (c : C) : c.sound = true ↔ 0 ≤ c.a ∧ c.a ≤ c.e ∧ c.e ≤ (c.d.length : Int) := by
  simp [C.sound, and_assoc]

theorem C.rest_len (c : C) : c.left = if c.sound = true then c.e - c.a else 0 := by
  unfold C.left C.rest
  split
  · rename_i h
    rw [h]
    have := (C.sound_iff c).1 h
    simp
    omega
  · rename_i h
    have h : c.sound = false := by simpa using h
    rw [h]; rfl

theorem C.rest_of {c : C} (h : c.sound = true) : c.rest = (c.d.drop c.a.toNat).take (c.e.toNat - c.a.toNat) := by
  unfold C.rest; rw [h]; rfl

theorem C.rest_no {c : C} (h : c.sound = false) : c.rest = [] := by
  unfold C.rest; rw [h]; rfl

/-- The first bytes that are left. -/
theorem C.head_of {c : C} (h : c.sound = true) (n : Nat) (k : Int) (hk : k = if c.a + n < c.e then c.a + n else c.e) : c.rest.take n = (c.d.drop c.a.toNat).take (k.toNat - c.a.toNat) := by
  have hs := (C.sound_iff c).1 h
  rw [C.rest_of h, List.take_take]
  congr 1
  split at hk <;> omega

end Go.Proofs.Ytcmdlmcmefbkeaa.Cp

/- Cursor functions that only reckon. -/
set_option linter.unusedSimpArgs false
namespace Go.Proofs.Ytcmdlmcmefbkeaa.Va
open Go Am Rc Bt Vp Cp

theorem c65 (c : C) : Fn1 Try.prog 65 [c.av] (.bool c.sound) := by
  refine fn1_of_awp (rc := r65) (rs := o65) Try.func65 rfl rfl Try.ntmps65 k65 q65 (by simp) ?_
  simp only [g65_0, g65_1, r65, o65, C.av, eES, eEX, Nat.reduceBEq, Int.reduceLE, Int.reduceLT, Int.reduceToNat, Int.reduceEq, ↓reduceIte, reduceCtorEq, Nat.reducePow, Nat.reduceAdd, Nat.reduceLeDiff, Nat.reduceLT, Nat.reduceSub, Nat.reduceEqDiff]
  repeat' (first | (refine csel_of (fun h => ?_) (fun h => ?_) <;> simp only [h, eES, eEX, Nat.reduceBEq, Int.reduceLE, Int.reduceLT, Int.reduceToNat, Int.reduceEq, ↓reduceIte, reduceCtorEq, Nat.reducePow, Nat.reduceAdd, Nat.reduceLeDiff, Nat.reduceLT, Nat.reduceSub, Nat.reduceEqDiff]) | (refine gsel_t (fun h => ?_) (fun h => ?_) <;> simp only [h, updO, eES, eEX, Nat.reduceBEq, Int.reduceLE, Int.reduceLT, Int.reduceToNat, Int.reduceEq, ↓reduceIte, reduceCtorEq, Nat.reducePow, Nat.reduceAdd, Nat.reduceLeDiff, Nat.reduceLT, Nat.reduceSub, Nat.reduceEqDiff]) | (refine gsel_f (fun h => ?_) (fun h => ?_) <;> simp only [h, updO, eES, eEX, Nat.reduceBEq, Int.reduceLE, Int.reduceLT, Int.reduceToNat, Int.reduceEq, ↓reduceIte, reduceCtorEq, Nat.reducePow, Nat.reduceAdd, Nat.reduceLeDiff, Nat.reduceLT, Nat.reduceSub, Nat.reduceEqDiff]))
  all_goals (simp_all [C.sound] <;> omega)

theorem c66 (c : C) : Fn1 Try.prog 66 [c.av] (.bool c.sound) := by
  refine fn1_of_awp (rc := r66) (rs := o66) Try.func66 rfl rfl Try.ntmps66 k66 q66 (by simp) ?_
  simp only [g66_0, g66_1, r66, o66, C.av, eES, eEX, Nat.reduceBEq, Int.reduceLE, Int.reduceLT, Int.reduceToNat, Int.reduceEq, ↓reduceIte, reduceCtorEq, Nat.reducePow, Nat.reduceAdd, Nat.reduceLeDiff, Nat.reduceLT, Nat.reduceSub, Nat.reduceEqDiff]
  repeat' (first | (refine csel_of (fun h => ?_) (fun h => ?_) <;> simp only [h, eES, eEX, Nat.reduceBEq, Int.reduceLE, Int.reduceLT, Int.reduceToNat, Int.reduceEq, ↓reduceIte, reduceCtorEq, Nat.reducePow, Nat.reduceAdd, Nat.reduceLeDiff, Nat.reduceLT, Nat.reduceSub, Nat.reduceEqDiff]) | (refine gsel_t (fun h => ?_) (fun h => ?_) <;> simp only [h, updO, eES, eEX, Nat.reduceBEq, Int.reduceLE, Int.reduceLT, Int.reduceToNat, Int.reduceEq, ↓reduceIte, reduceCtorEq, Nat.reducePow, Nat.reduceAdd, Nat.reduceLeDiff, Nat.reduceLT, Nat.reduceSub, Nat.reduceEqDiff]) | (refine gsel_f (fun h => ?_) (fun h => ?_) <;> simp only [h, updO, eES, eEX, Nat.reduceBEq, Int.reduceLE, Int.reduceLT, Int.reduceToNat, Int.reduceEq, ↓reduceIte, reduceCtorEq, Nat.reducePow, Nat.reduceAdd, Nat.reduceLeDiff, Nat.reduceLT, Nat.reduceSub, Nat.reduceEqDiff]))
  all_goals (simp_all [C.sound] <;> omega)

theorem c54 (c : C) (n : Int) : Fn1 Try.prog 54 [c.av, .int .i64 n] (c.ahead n).av := by
  refine fn1_of_awp (rc := r54) (rs := o54) Try.func54 rfl rfl Try.ntmps54 k54 q54 (by simp) ?_
  simp only [g54_0, g54_1, g54_2, r54, o54, C.av, C.ahead, eES, eEX, Nat.reduceBEq, Int.reduceLE, Int.reduceLT, Int.reduceToNat, Int.reduceEq, ↓reduceIte, reduceCtorEq, Nat.reducePow, Nat.reduceAdd, Nat.reduceLeDiff, Nat.reduceLT, Nat.reduceSub, Nat.reduceEqDiff]

theorem c57 (c : C) (n : Int) : Fn1 Try.prog 57 [c.av, .int .i64 n] (c.ahead n).av := by
  refine fn1_of_awp (rc := r57) (rs := o57) Try.func57 rfl rfl Try.ntmps57 k57 q57 (by simp) ?_
  simp only [g57_0, g57_1, g57_2, r57, o57, C.av, C.ahead, eES, eEX, Nat.reduceBEq, Int.reduceLE, Int.reduceLT, Int.reduceToNat, Int.reduceEq, ↓reduceIte, reduceCtorEq, Nat.reducePow, Nat.reduceAdd, Nat.reduceLeDiff, Nat.reduceLT, Nat.reduceSub, Nat.reduceEqDiff]

theorem c38 (s : List UInt8) (l : L) : Fn1 Try.prog 38 [.str s, l.av] (cav (opn s l)) := by
  refine fn1_of_awp (rc := r38) (rs := o38) Try.func38 rfl rfl Try.ntmps38 k38 q38 (by simp) ?_
  simp only [g38_0, g38_1, g38_2, g38_3, g38_4, g38_5, r38, o38, L.av, eES, eEX, Nat.reduceBEq, Int.reduceLE, Int.reduceLT, Int.reduceToNat, Int.reduceEq, ↓reduceIte, reduceCtorEq, Nat.reducePow, Nat.reduceAdd, Nat.reduceLeDiff, Nat.reduceLT, Nat.reduceSub, Nat.reduceEqDiff]
  repeat' (first | (refine csel_of (fun h => ?_) (fun h => ?_) <;> simp only [h, eES, eEX, Nat.reduceBEq, Int.reduceLE, Int.reduceLT, Int.reduceToNat, Int.reduceEq, ↓reduceIte, reduceCtorEq, Nat.reducePow, Nat.reduceAdd, Nat.reduceLeDiff, Nat.reduceLT, Nat.reduceSub, Nat.reduceEqDiff]) | (refine gsel_t (fun h => ?_) (fun h => ?_) <;> simp only [h, updO, eES, eEX, Nat.reduceBEq, Int.reduceLE, Int.reduceLT, Int.reduceToNat, Int.reduceEq, ↓reduceIte, reduceCtorEq, Nat.reducePow, Nat.reduceAdd, Nat.reduceLeDiff, Nat.reduceLT, Nat.reduceSub, Nat.reduceEqDiff]) | (refine gsel_f (fun h => ?_) (fun h => ?_) <;> simp only [h, updO, eES, eEX, Nat.reduceBEq, Int.reduceLE, Int.reduceLT, Int.reduceToNat, Int.reduceEq, ↓reduceIte, reduceCtorEq, Nat.reducePow, Nat.reduceAdd, Nat.reduceLeDiff, Nat.reduceLT, Nat.reduceSub, Nat.reduceEqDiff]))
  all_goals ((try simp only [decide_eq_true_eq, decide_eq_false_iff_not, beq_iff_eq, bne_iff_ne, beq_eq_false_iff_ne, bne_eq_false_iff_eq, ne_eq] at *) <;> unfold opn <;> (repeat' split) <;> first | rfl | (exfalso; omega))

theorem c40 (s : List UInt8) (l : L) : Fn1 Try.prog 40 [.str s, l.av] (cav (opn s l)) := by
  refine fn1_of_awp (rc := r40) (rs := o40) Try.func40 rfl rfl Try.ntmps40 k40 q40 (by simp) ?_
  simp only [g40_0, g40_1, g40_2, g40_3, g40_4, g40_5, r40, o40, L.av, eES, eEX, Nat.reduceBEq, Int.reduceLE, Int.reduceLT, Int.reduceToNat, Int.reduceEq, ↓reduceIte, reduceCtorEq, Nat.reducePow, Nat.reduceAdd, Nat.reduceLeDiff, Nat.reduceLT, Nat.reduceSub, Nat.reduceEqDiff]
  repeat' (first | (refine csel_of (fun h => ?_) (fun h => ?_) <;> simp only [h, eES, eEX, Nat.reduceBEq, Int.reduceLE, Int.reduceLT, Int.reduceToNat, Int.reduceEq, ↓reduceIte, reduceCtorEq, Nat.reducePow, Nat.reduceAdd, Nat.reduceLeDiff, Nat.reduceLT, Nat.reduceSub, Nat.reduceEqDiff]) | (refine gsel_t (fun h => ?_) (fun h => ?_) <;> simp only [h, updO, eES, eEX, Nat.reduceBEq, Int.reduceLE, Int.reduceLT, Int.reduceToNat, Int.reduceEq, ↓reduceIte, reduceCtorEq, Nat.reducePow, Nat.reduceAdd, Nat.reduceLeDiff, Nat.reduceLT, Nat.reduceSub, Nat.reduceEqDiff]) | (refine gsel_f (fun h => ?_) (fun h => ?_) <;> simp only [h, updO, eES, eEX, Nat.reduceBEq, Int.reduceLE, Int.reduceLT, Int.reduceToNat, Int.reduceEq, ↓reduceIte, reduceCtorEq, Nat.reducePow, Nat.reduceAdd, Nat.reduceLeDiff, Nat.reduceLT, Nat.reduceSub, Nat.reduceEqDiff]))
  all_goals ((try simp only [decide_eq_true_eq, decide_eq_false_iff_not, beq_iff_eq, bne_iff_ne, beq_eq_false_iff_ne, bne_eq_false_iff_eq, ne_eq] at *) <;> unfold opn <;> (repeat' split) <;> first | rfl | (exfalso; omega))

theorem c34 (c : C) (n : Int) : Fn1 Try.prog 34 [c.av, .int .i64 n] (cav (c.spend n)) := by
  refine fn1_of_awp (rc := r34) (rs := o34) Try.func34 rfl rfl Try.ntmps34 k34 q34 (by simp) ?_
  simp only [g34_0, g34_1, g34_2, g34_3, g34_4, g34_5, g34_6, r34, o34, C.av, eES, eEX, Nat.reduceBEq, Int.reduceLE, Int.reduceLT, Int.reduceToNat, Int.reduceEq, ↓reduceIte, reduceCtorEq, Nat.reducePow, Nat.reduceAdd, Nat.reduceLeDiff, Nat.reduceLT, Nat.reduceSub, Nat.reduceEqDiff]
  repeat' (first | (refine csel_of (fun h => ?_) (fun h => ?_) <;> simp only [h, eES, eEX, Nat.reduceBEq, Int.reduceLE, Int.reduceLT, Int.reduceToNat, Int.reduceEq, ↓reduceIte, reduceCtorEq, Nat.reducePow, Nat.reduceAdd, Nat.reduceLeDiff, Nat.reduceLT, Nat.reduceSub, Nat.reduceEqDiff]) | (refine gsel_t (fun h => ?_) (fun h => ?_) <;> simp only [h, updO, eES, eEX, Nat.reduceBEq, Int.reduceLE, Int.reduceLT, Int.reduceToNat, Int.reduceEq, ↓reduceIte, reduceCtorEq, Nat.reducePow, Nat.reduceAdd, Nat.reduceLeDiff, Nat.reduceLT, Nat.reduceSub, Nat.reduceEqDiff]) | (refine gsel_f (fun h => ?_) (fun h => ?_) <;> simp only [h, updO, eES, eEX, Nat.reduceBEq, Int.reduceLE, Int.reduceLT, Int.reduceToNat, Int.reduceEq, ↓reduceIte, reduceCtorEq, Nat.reducePow, Nat.reduceAdd, Nat.reduceLeDiff, Nat.reduceLT, Nat.reduceSub, Nat.reduceEqDiff]))
  all_goals ((try simp only [decide_eq_true_eq, decide_eq_false_iff_not, beq_iff_eq, bne_iff_ne, beq_eq_false_iff_ne, bne_eq_false_iff_eq, ne_eq] at *) <;> unfold C.spend <;> (repeat' split) <;> first | rfl | (exfalso; omega))

theorem c36 (c : C) (n : Int) : Fn1 Try.prog 36 [c.av, .int .i64 n] (cav (c.spend n)) := by
  refine fn1_of_awp (rc := r36) (rs := o36) Try.func36 rfl rfl Try.ntmps36 k36 q36 (by simp) ?_
  simp only [g36_0, g36_1, g36_2, g36_3, g36_4, g36_5, g36_6, r36, o36, C.av, eES, eEX, Nat.reduceBEq, Int.reduceLE, Int.reduceLT, Int.reduceToNat, Int.reduceEq, ↓reduceIte, reduceCtorEq, Nat.reducePow, Nat.reduceAdd, Nat.reduceLeDiff, Nat.reduceLT, Nat.reduceSub, Nat.reduceEqDiff]
  repeat' (first | (refine csel_of (fun h => ?_) (fun h => ?_) <;> simp only [h, eES, eEX, Nat.reduceBEq, Int.reduceLE, Int.reduceLT, Int.reduceToNat, Int.reduceEq, ↓reduceIte, reduceCtorEq, Nat.reducePow, Nat.reduceAdd, Nat.reduceLeDiff, Nat.reduceLT, Nat.reduceSub, Nat.reduceEqDiff]) | (refine gsel_t (fun h => ?_) (fun h => ?_) <;> simp only [h, updO, eES, eEX, Nat.reduceBEq, Int.reduceLE, Int.reduceLT, Int.reduceToNat, Int.reduceEq, ↓reduceIte, reduceCtorEq, Nat.reducePow, Nat.reduceAdd, Nat.reduceLeDiff, Nat.reduceLT, Nat.reduceSub, Nat.reduceEqDiff]) | (refine gsel_f (fun h => ?_) (fun h => ?_) <;> simp only [h, updO, eES, eEX, Nat.reduceBEq, Int.reduceLE, Int.reduceLT, Int.reduceToNat, Int.reduceEq, ↓reduceIte, reduceCtorEq, Nat.reducePow, Nat.reduceAdd, Nat.reduceLeDiff, Nat.reduceLT, Nat.reduceSub, Nat.reduceEqDiff]))
  all_goals ((try simp only [decide_eq_true_eq, decide_eq_false_iff_not, beq_iff_eq, bne_iff_ne, beq_eq_false_iff_ne, bne_eq_false_iff_eq, ne_eq] at *) <;> unfold C.spend <;> (repeat' split) <;> first | rfl | (exfalso; omega))

end Go.Proofs.Ytcmdlmcmefbkeaa.Va

/- Cursor functions: what is left, the first bytes. -/
set_option linter.unusedSimpArgs false
namespace Go.Proofs.Ytcmdlmcmefbkeaa.Va
open Go Am Rc Bt Vp Cp

theorem c68 (c : C) (hl : c.d.length ≤ 9223372036854775807) : Fn1 Try.prog 68 [c.av] (.int .i64 c.left) := by
  refine fn1_of_awp (rc := r68) (rs := o68) Try.func68 rfl rfl Try.ntmps68 k68 q68 (by simp) ?_
  simp only [g68_0, g68_1, g68_2, g68_3, r68, o68, C.av, eES, eEX, Nat.reduceBEq, Int.reduceLE, Int.reduceLT, Int.reduceToNat, Int.reduceEq, ↓reduceIte, reduceCtorEq, Nat.reducePow, Nat.reduceAdd, Nat.reduceLeDiff, Nat.reduceLT, Nat.reduceSub, Nat.reduceEqDiff]
  refine aops_call (c65 c) rfl rfl rfl (.inl rfl) ?_
  have hr := c.rest_len
  cases hs : c.sound with
  | false =>
    rw [hs, if_neg (by simp)] at hr
    simp only [Bool.not_false, hr, eES, eEX, Nat.reduceBEq, Int.reduceLE, Int.reduceLT, Int.reduceToNat, Int.reduceEq, ↓reduceIte, reduceCtorEq, Nat.reducePow, Nat.reduceAdd, Nat.reduceLeDiff, Nat.reduceLT, Nat.reduceSub, Nat.reduceEqDiff]
  | true =>
    rw [hs, if_pos rfl] at hr
    have h := (C.sound_iff c).1 hs
    have e1 : IntKind.i64.wrap (c.e - c.a) = c.e - c.a := by rw [wi64]; omega
    simp only [Bool.not_true, hr, e1, eES, eEX, Nat.reduceBEq, Int.reduceLE, Int.reduceLT, Int.reduceToNat, Int.reduceEq, ↓reduceIte, reduceCtorEq, Nat.reducePow, Nat.reduceAdd, Nat.reduceLeDiff, Nat.reduceLT, Nat.reduceSub, Nat.reduceEqDiff]

theorem c53 (c : C) (n : Nat) (hn : n ≤ 1000) (hl : c.d.length ≤ 9223372036854770000) : Fn1 Try.prog 53 [c.av, .int .i64 (n : Int)] (.str (c.rest.take n)) := by
  refine fn1_of_awp (rc := r53) (rs := o53) Try.func53 rfl rfl Try.ntmps53 k53 q53 (by simp) ?_
  simp only [g53_0, g53_1, g53_2, g53_3, r53, o53, C.av, eES, eEX, Nat.reduceBEq, Int.reduceLE, Int.reduceLT, Int.reduceToNat, Int.reduceEq, ↓reduceIte, reduceCtorEq, Nat.reducePow, Nat.reduceAdd, Nat.reduceLeDiff, Nat.reduceLT, Nat.reduceSub, Nat.reduceEqDiff]
  refine aops_call (c65 c) rfl rfl rfl (.inl rfl) ?_
  cases hs : c.sound with
  | false =>
    simp only [Bool.not_false, C.rest_no hs, eES, eEX, Nat.reduceBEq, Int.reduceLE, Int.reduceLT, Int.reduceToNat, Int.reduceEq, ↓reduceIte, reduceCtorEq, Nat.reducePow, Nat.reduceAdd, Nat.reduceLeDiff, Nat.reduceLT, Nat.reduceSub, Nat.reduceEqDiff]
  | true =>
    have h := (C.sound_iff c).1 hs
    have e1 : IntKind.i64.wrap (c.a + n) = c.a + n := by rw [wi64]; omega
    have hh := C.head_of hs n _ rfl
    generalize hk : (if c.a + n < c.e then c.a + n else c.e) = k at hh
    have hk' : c.a ≤ k ∧ k ≤ c.e := by split at hk <;> omega
    have n1 : (0 ≤ c.a) = True := eq_true h.1
    have n2 : (0 ≤ k) = True := eq_true (by omega)
    have n3 : (c.a.toNat ≤ k.toNat ∧ k.toNat ≤ c.d.length) = True := eq_true (by omega)
    simp only [Bool.not_true, e1, hk, n1, n2, n3, hh, eES, eEX, Nat.reduceBEq, Int.reduceLE, Int.reduceLT, Int.reduceToNat, Int.reduceEq, ↓reduceIte, reduceCtorEq, Nat.reducePow, Nat.reduceAdd, Nat.reduceLeDiff, Nat.reduceLT, Nat.reduceSub, Nat.reduceEqDiff]

theorem c56 (c : C) : Fn1 Try.prog 56 [c.av] (.str c.rest) := by
  refine fn1_of_awp (rc := r56) (rs := o56) Try.func56 rfl rfl Try.ntmps56 k56 q56 (by simp) ?_
  simp only [g56_0, g56_1, g56_2, g56_3, r56, o56, C.av, eES, eEX, Nat.reduceBEq, Int.reduceLE, Int.reduceLT, Int.reduceToNat, Int.reduceEq, ↓reduceIte, reduceCtorEq, Nat.reducePow, Nat.reduceAdd, Nat.reduceLeDiff, Nat.reduceLT, Nat.reduceSub, Nat.reduceEqDiff]
  refine aops_call (c66 c) rfl rfl rfl (.inl rfl) ?_
  cases hs : c.sound with
  | false =>
    simp only [Bool.not_false, C.rest_no hs, eES, eEX, Nat.reduceBEq, Int.reduceLE, Int.reduceLT, Int.reduceToNat, Int.reduceEq, ↓reduceIte, reduceCtorEq, Nat.reducePow, Nat.reduceAdd, Nat.reduceLeDiff, Nat.reduceLT, Nat.reduceSub, Nat.reduceEqDiff]
  | true =>
    have h := (C.sound_iff c).1 hs
    have n1 : (0 ≤ c.a) = True := eq_true h.1
    have n2 : (0 ≤ c.e) = True := eq_true (by omega)
    have n3 : (c.a.toNat ≤ c.e.toNat ∧ c.e.toNat ≤ c.d.length) = True := eq_true (by omega)
    simp only [Bool.not_true, n1, n2, n3, C.rest_of hs, eES, eEX, Nat.reduceBEq, Int.reduceLE, Int.reduceLT, Int.reduceToNat, Int.reduceEq, ↓reduceIte, reduceCtorEq, Nat.reducePow, Nat.reduceAdd, Nat.reduceLeDiff, Nat.reduceLT, Nat.reduceSub, Nat.reduceEqDiff]

theorem c41 (c : C) : Fn1 Try.prog 41 [c.av] (.int .i64 c.left) := by
  refine fn1_of_awp (rc := r41) (rs := o41) Try.func41 rfl rfl Try.ntmps41 k41 q41 (by simp) ?_
  simp only [g41_0, g41_1, r41, o41, C.av, eES, eEX, Nat.reduceBEq, Int.reduceLE, Int.reduceLT, Int.reduceToNat, Int.reduceEq, ↓reduceIte, reduceCtorEq, Nat.reducePow, Nat.reduceAdd, Nat.reduceLeDiff, Nat.reduceLT, Nat.reduceSub, Nat.reduceEqDiff]
  refine aops_call (c56 c) rfl rfl rfl (.inl rfl) ?_
  simp only [C.left, eES, eEX, Nat.reduceBEq, Int.reduceLE, Int.reduceLT, Int.reduceToNat, Int.reduceEq, ↓reduceIte, reduceCtorEq, Nat.reducePow, Nat.reduceAdd, Nat.reduceLeDiff, Nat.reduceLT, Nat.reduceSub, Nat.reduceEqDiff]

theorem c32 (c : C) (hl : c.d.length ≤ 9223372036854770000) : Fn1 Try.prog 32 [c.av] (ncav c.varint) := by
  refine fn1_of_awp (rc := r32) (rs := o32) Try.func32 rfl rfl Try.ntmps32 k32 q32 (by simp) ?_
  simp only [g32_0, g32_1, g32_2, g32_3, g32_4, r32, o32, C.av, eES, eEX, Nat.reduceBEq, Int.reduceLE, Int.reduceLT, Int.reduceToNat, Int.reduceEq, ↓reduceIte, reduceCtorEq, Nat.reducePow, Nat.reduceAdd, Nat.reduceLeDiff, Nat.reduceLT, Nat.reduceSub, Nat.reduceEqDiff]
  refine aops_call (c53 c 10 (by omega) hl) rfl rfl rfl (.inl rfl) ?_
  refine aops_call (c52 (c.rest.take 10)) rfl rfl rfl (.inl rfl) ?_
  rw [take_take]
  unfold C.varint
  generalize Vp.take c.rest = r
  obtain ⟨u, n, e⟩ := r
  simp only [tk, eES, eEX, Nat.reduceBEq, Int.reduceLE, Int.reduceLT, Int.reduceToNat, Int.reduceEq, ↓reduceIte, reduceCtorEq, Nat.reducePow, Nat.reduceAdd, Nat.reduceLeDiff, Nat.reduceLT, Nat.reduceSub, Nat.reduceEqDiff]
  refine csel_of (fun h => ?_) (fun h => ?_)
  · have h : ¬ e = 0 := by simpa using h
    simp only [h, ncav, C.av, eES, eEX, Nat.reduceBEq, Int.reduceLE, Int.reduceLT, Int.reduceToNat, Int.reduceEq, ↓reduceIte, reduceCtorEq, Nat.reducePow, Nat.reduceAdd, Nat.reduceLeDiff, Nat.reduceLT, Nat.reduceSub, Nat.reduceEqDiff]
    rfl
  · have h : e = 0 := by simpa using h
    subst h
    simp only [eES, eEX, Nat.reduceBEq, Int.reduceLE, Int.reduceLT, Int.reduceToNat, Int.reduceEq, ↓reduceIte, reduceCtorEq, Nat.reducePow, Nat.reduceAdd, Nat.reduceLeDiff, Nat.reduceLT, Nat.reduceSub, Nat.reduceEqDiff]
    refine aops_call (c54 c (n : Int)) rfl rfl rfl (.inl rfl) ?_
    simp only [ncav, C.av, C.ahead, eES, eEX, Nat.reduceBEq, Int.reduceLE, Int.reduceLT, Int.reduceToNat, Int.reduceEq, ↓reduceIte, reduceCtorEq, Nat.reducePow, Nat.reduceAdd, Nat.reduceLeDiff, Nat.reduceLT, Nat.reduceSub, Nat.reduceEqDiff]
    rfl

theorem c33 (c : C) : Fn1 Try.prog 33 [c.av] (ncav c.varint) := by
  refine fn1_of_awp (rc := r33) (rs := o33) Try.func33 rfl rfl Try.ntmps33 k33 q33 (by simp) ?_
  simp only [g33_0, g33_1, g33_2, g33_3, g33_4, r33, o33, C.av, eES, eEX, Nat.reduceBEq, Int.reduceLE, Int.reduceLT, Int.reduceToNat, Int.reduceEq, ↓reduceIte, reduceCtorEq, Nat.reducePow, Nat.reduceAdd, Nat.reduceLeDiff, Nat.reduceLT, Nat.reduceSub, Nat.reduceEqDiff]
  refine aops_call (c56 c) rfl rfl rfl (.inl rfl) ?_
  refine aops_call (c55 c.rest) rfl rfl rfl (.inl rfl) ?_
  unfold C.varint
  generalize Vp.take c.rest = r
  obtain ⟨u, n, e⟩ := r
  simp only [tk, eES, eEX, Nat.reduceBEq, Int.reduceLE, Int.reduceLT, Int.reduceToNat, Int.reduceEq, ↓reduceIte, reduceCtorEq, Nat.reducePow, Nat.reduceAdd, Nat.reduceLeDiff, Nat.reduceLT, Nat.reduceSub, Nat.reduceEqDiff]
  refine csel_of (fun h => ?_) (fun h => ?_)
  · have h : ¬ e = 0 := by simpa using h
    simp only [h, ncav, C.av, eES, eEX, Nat.reduceBEq, Int.reduceLE, Int.reduceLT, Int.reduceToNat, Int.reduceEq, ↓reduceIte, reduceCtorEq, Nat.reducePow, Nat.reduceAdd, Nat.reduceLeDiff, Nat.reduceLT, Nat.reduceSub, Nat.reduceEqDiff]
    rfl
  · have h : e = 0 := by simpa using h
    subst h
    simp only [eES, eEX, Nat.reduceBEq, Int.reduceLE, Int.reduceLT, Int.reduceToNat, Int.reduceEq, ↓reduceIte, reduceCtorEq, Nat.reducePow, Nat.reduceAdd, Nat.reduceLeDiff, Nat.reduceLT, Nat.reduceSub, Nat.reduceEqDiff]
    refine aops_call (c57 c (n : Int)) rfl rfl rfl (.inl rfl) ?_
    simp only [ncav, C.av, C.ahead, eES, eEX, Nat.reduceBEq, Int.reduceLE, Int.reduceLT, Int.reduceToNat, Int.reduceEq, ↓reduceIte, reduceCtorEq, Nat.reducePow, Nat.reduceAdd, Nat.reduceLeDiff, Nat.reduceLT, Nat.reduceSub, Nat.reduceEqDiff]
    rfl

end Go.Proofs.Ytcmdlmcmefbkeaa.Va

/- Parts of the proof, in order. -/
import Derived.WalkKit
import Derived.Test.YtaobkcgjidhpkaaGreatDoorMVerdictWords2

namespace Go.Proofs.YtaobkcgjidhpkaaGreatDoor.Rc
open Go Am
def g116_0 : IL := [⟨some 5, .boxN 5 (.t 1), none⟩, ⟨some 6, .boxN 6 (.t 2), none⟩]
def g116_1 : IL := [⟨some 9, .val (.faddr 1 (.t 6)), none⟩, ⟨some 10, .val (.load none (.t 9)), none⟩, ⟨some 11, .val (.mov (.t 3)), none⟩, ⟨some 12, .val (.iaddr 16 none (.t 10) (.t 11)), none⟩, ⟨some 13, .val (.load (some 16) (.t 12)), none⟩, ⟨some 8, .allocN 8 [.int .i64 0, .str [], .int .i64 0, .int .i64 0, .int .i64 0, .str [], .str [], .bool false, .int .i64 0, .int .u64 0, .str [], .nils, .nils, .nils, .nils, .nils], none⟩, ⟨none, .store 16 (.t 8) (.t 13), none⟩]
def g116_2 : IL := [⟨some 14, .val (.mov (.t 0)), none⟩, ⟨some 15, .val (.faddr 0 (.t 8)), none⟩, ⟨some 16, .val (.load none (.t 15)), none⟩, ⟨some 17, .val (.nilck (.t 14)), none⟩, ⟨some 18, .val (.faddr 1 (.t 17)), none⟩, ⟨none, .store 1 (.t 18) (.t 16), none⟩]
def g116_3 : IL := [⟨some 19, .val (.mov (.t 0)), none⟩, ⟨some 20, .val (.faddr 0 (.t 8)), none⟩, ⟨some 21, .val (.load none (.t 20)), none⟩, ⟨some 22, .val (.bin .num .geq (.t 21) (.c (.int .i64 1))), none⟩, ⟨some 23, .val (.mov (.t 22)), none⟩, ⟨some 24, .val (.faddr 0 (.t 8)), (some (23, true))⟩, ⟨some 25, .val (.load none (.t 24)), (some (23, true))⟩, ⟨some 26, .val (.bin .num .leq (.t 25) (.c (.int .i64 65535))), (some (23, true))⟩, ⟨some 27, .val (.pick (.t 23) (.t 26) (.c (.bool false))), none⟩, ⟨some 28, .callF (.f 91) [(.t 19), (.t 27), (.c (.int .i64 6))], none⟩]
def g116_4 : IL := [⟨some 29, .val (.mov (.t 0)), none⟩, ⟨some 30, .val (.mov (.t 3)), none⟩, ⟨some 31, .val (.bin .num .eql (.t 30) (.c (.int .i64 0))), none⟩, ⟨some 32, .val (.mov (.t 31)), none⟩, ⟨some 33, .val (.faddr 0 (.t 8)), (some (32, false))⟩, ⟨some 34, .val (.loadv 0 8 none (.t 33)), (some (32, false))⟩, ⟨some 35, .val (.faddr 1 (.t 6)), (some (32, false))⟩, ⟨some 36, .val (.loadv 0 6 none (.t 35)), (some (32, false))⟩, ⟨some 37, .val (.mov (.t 3)), (some (32, false))⟩, ⟨some 38, .val (.bin .num .sub (.t 37) (.c (.int .i64 1))), (some (32, false))⟩, ⟨some 39, .val (.iaddr 16 none (.t 36) (.t 38)), (some (32, false))⟩, ⟨some 40, .val (.faddr 0 (.t 39)), (some (32, false))⟩, ⟨some 41, .val (.loadr none (.t 40)), (some (32, false))⟩, ⟨some 42, .val (.bin .num .gtr (.t 34) (.t 41)), (some (32, false))⟩, ⟨some 43, .val (.pick (.t 32) (.c (.bool true)) (.t 42)), none⟩, ⟨some 44, .callF (.f 91) [(.t 29), (.t 43), (.c (.int .i64 11))], none⟩]
def g116_5 : IL := [⟨some 45, .val (.mov (.t 0)), none⟩, ⟨some 46, .val (.faddr 1 (.t 8)), none⟩, ⟨some 47, .val (.load none (.t 46)), none⟩, ⟨some 48, .call (.f 121) [(.t 47)], none⟩, ⟨some 49, .callF (.f 91) [(.t 45), (.t 48), (.c (.int .i64 8))], none⟩]
def g116_6 : IL := [⟨some 50, .val (.mov (.t 0)), none⟩, ⟨some 51, .val (.faddr 1 (.t 6)), none⟩, ⟨some 52, .val (.load none (.t 51)), none⟩, ⟨some 53, .val (.mov (.t 3)), none⟩, ⟨some 54, .callF (.f 140) [(.t 52), (.t 53), (.f 141)], none⟩, ⟨some 55, .val (.un .not (.t 54)), none⟩, ⟨some 56, .callF (.f 91) [(.t 50), (.t 55), (.c (.int .i64 9))], none⟩]
def g116_7 : IL := [⟨some 57, .val (.mov (.t 0)), none⟩, ⟨some 58, .val (.faddr 2 (.t 6)), none⟩, ⟨some 59, .val (.load none (.t 58)), none⟩, ⟨some 60, .val (.faddr 0 (.t 8)), none⟩, ⟨some 61, .val (.load none (.t 60)), none⟩, ⟨some 62, .call (.f 124) [(.t 59), (.t 61)], none⟩, ⟨some 63, .val (.un .not (.t 62)), none⟩, ⟨some 64, .val (.mov (.t 63)), none⟩, ⟨some 65, .val (.faddr 3 (.t 6)), (some (64, true))⟩, ⟨some 66, .val (.load none (.t 65)), (some (64, true))⟩, ⟨some 67, .val (.faddr 1 (.t 8)), (some (64, true))⟩, ⟨some 68, .val (.load none (.t 67)), (some (64, true))⟩, ⟨some 69, .call (.f 69) [(.t 66), (.t 68)], (some (64, true))⟩, ⟨some 70, .val (.un .not (.t 69)), (some (64, true))⟩, ⟨some 71, .val (.pick (.t 64) (.t 70) (.c (.bool false))), none⟩, ⟨some 72, .callF (.f 91) [(.t 57), (.t 71), (.c (.int .i64 21))], none⟩]
def g116_8 : IL := [⟨some 73, .val (.mov (.t 0)), none⟩, ⟨some 74, .val (.faddr 2 (.t 8)), none⟩, ⟨some 75, .val (.load none (.t 74)), none⟩, ⟨some 76, .val (.bin .num .geq (.t 75) (.c (.int .i64 1))), none⟩, ⟨some 77, .val (.mov (.t 76)), none⟩, ⟨some 78, .val (.faddr 2 (.t 8)), (some (77, true))⟩, ⟨some 79, .val (.load none (.t 78)), (some (77, true))⟩, ⟨some 80, .val (.bin .num .leq (.t 79) (.c (.int .i64 5))), (some (77, true))⟩, ⟨some 81, .val (.pick (.t 77) (.t 80) (.c (.bool false))), none⟩, ⟨some 82, .val (.mov (.t 81)), none⟩, ⟨some 83, .val (.faddr 2 (.t 8)), (some (82, true))⟩, ⟨some 84, .val (.load none (.t 83)), (some (82, true))⟩, ⟨some 85, .val (.faddr 3 (.t 8)), (some (82, true))⟩, ⟨some 86, .val (.load none (.t 85)), (some (82, true))⟩, ⟨some 87, .call (.f 142) [(.t 84), (.t 86)], (some (82, true))⟩, ⟨some 88, .val (.pick (.t 82) (.t 87) (.c (.bool false))), none⟩, ⟨some 89, .callF (.f 91) [(.t 73), (.t 88), (.c (.int .i64 1))], none⟩]
def g116_9 : IL := [⟨some 90, .val (.mov (.t 0)), none⟩, ⟨some 91, .val (.load (some 3) (.t 5)), none⟩, ⟨some 92, .val (.load (some 16) (.t 8)), none⟩, ⟨some 93, .call (.f 143) [(.t 91), (.t 92)], none⟩, ⟨some 94, .callF (.f 91) [(.t 90), (.t 93), (.c (.int .i64 12))], none⟩]
def g116_10 : IL := [⟨some 95, .val (.mov (.t 0)), none⟩, ⟨some 96, .val (.load (some 5) (.t 6)), none⟩, ⟨some 97, .val (.mov (.t 3)), none⟩, ⟨some 98, .call (.f 144) [(.t 96), (.t 97)], none⟩, ⟨some 99, .callF (.f 91) [(.t 95), (.t 98), (.c (.int .i64 15))], none⟩]
def g116_11 : IL := [⟨some 100, .val (.mov (.t 0)), none⟩, ⟨some 101, .val (.load (some 3) (.t 5)), none⟩, ⟨some 102, .val (.load (some 16) (.t 8)), none⟩, ⟨some 103, .call (.f 145) [(.t 101), (.t 102)], none⟩, ⟨some 104, .callF (.f 91) [(.t 100), (.t 103), (.c (.int .i64 1))], none⟩]
def g116_12 : IL := [⟨some 105, .val (.mov (.t 0)), none⟩, ⟨some 106, .val (.faddr 15 (.t 8)), none⟩, ⟨some 107, .val (.load none (.t 106)), none⟩, ⟨some 108, .callF (.f 119) [(.t 105), (.t 107), (.c (.int .i64 2))], none⟩]
def g116_13 : IL := [⟨some 109, .val (.mov (.t 0)), none⟩, ⟨some 110, .val (.nilck (.t 109)), none⟩, ⟨some 111, .val (.faddr 1 (.t 110)), none⟩, ⟨none, .store 1 (.t 111) (.c (.int .i64 (-1))), none⟩]
def r116 : RC := .seq (.reg g116_0) (.seq (.reg g116_1) (.seq (.reg g116_2) (.seq (.reg g116_3) (.seq (.draw g116_4) (.seq (.reg g116_5) (.seq (.reg g116_6) (.seq (.reg g116_7) (.seq (.reg g116_8) (.seq (.reg g116_9) (.seq (.reg g116_10) (.seq (.reg g116_11) (.seq (.reg g116_12) (.reg g116_13)))))))))))))
def o116 : List RR := []
theorem k116 : CT 116 112 r116 o116 := ck Tryz.func116 Tryz.ntmps116 (by decide +kernel)
def g117_0 : IL := [⟨some 10, .val (.mov (.t 1)), none⟩, ⟨some 11, .val (.len 1 (.t 10)), none⟩, ⟨some 12, .val (.mov (.c (.int .i64 0))), none⟩]
def g117_1 : IL := [⟨some 13, .val (.bin .num .lss (.t 12) (.t 11)), none⟩]
def g117_2 : IL := [⟨some 14, .val (.mov (.t 12)), none⟩, ⟨some 15, .val (.iaddr 2 none (.t 10) (.t 12)), none⟩, ⟨some 16, .val (.load (some 2) (.t 15)), none⟩, ⟨some 9, .allocN 9 [.int .i64 0, .int .i64 0], none⟩, ⟨some 8, .val (.mov (.t 14)), none⟩, ⟨none, .store 2 (.t 9) (.t 16), none⟩]
def g117_3 : IL := [⟨some 17, .val (.mov (.t 0)), none⟩, ⟨some 18, .val (.faddr 0 (.t 9)), none⟩, ⟨some 19, .val (.load none (.t 18)), none⟩, ⟨some 20, .val (.mov (.t 2)), none⟩, ⟨some 21, .val (.bin .num .geq (.t 19) (.t 20)), none⟩, ⟨some 22, .val (.mov (.t 21)), none⟩, ⟨some 23, .val (.faddr 1 (.t 9)), (some (22, true))⟩, ⟨some 24, .val (.load none (.t 23)), (some (22, true))⟩, ⟨some 25, .val (.mov (.t 3)), (some (22, true))⟩, ⟨some 26, .val (.bin .num .leq (.t 24) (.t 25)), (some (22, true))⟩, ⟨some 27, .val (.pick (.t 22) (.t 26) (.c (.bool false))), none⟩, ⟨some 28, .val (.mov (.t 27)), none⟩, ⟨some 29, .val (.faddr 0 (.t 9)), (some (28, true))⟩, ⟨some 30, .val (.load none (.t 29)), (some (28, true))⟩, ⟨some 31, .val (.faddr 1 (.t 9)), (some (28, true))⟩, ⟨some 32, .val (.load none (.t 31)), (some (28, true))⟩, ⟨some 33, .val (.bin .num .leq (.t 30) (.t 32)), (some (28, true))⟩, ⟨some 34, .val (.pick (.t 28) (.t 33) (.c (.bool false))), none⟩, ⟨some 35, .callF (.f 91) [(.t 17), (.t 34), (.c (.int .i64 6))], none⟩]
def g117_4 : IL := [⟨some 36, .val (.mov (.t 0)), none⟩, ⟨some 37, .val (.mov (.t 8)), none⟩, ⟨some 38, .val (.bin .num .eql (.t 37) (.c (.int .i64 0))), none⟩, ⟨some 39, .val (.mov (.t 38)), none⟩, ⟨some 40, .val (.faddr 0 (.t 9)), (some (39, false))⟩, ⟨some 41, .val (.loadv 0 9 none (.t 40)), (some (39, false))⟩, ⟨some 42, .val (.mov (.t 1)), (some (39, false))⟩, ⟨some 43, .val (.mov (.t 8)), (some (39, false))⟩, ⟨some 44, .val (.bin .num .sub (.t 43) (.c (.int .i64 1))), (some (39, false))⟩, ⟨some 45, .val (.iaddr 2 none (.t 42) (.t 44)), (some (39, false))⟩, ⟨some 46, .val (.faddr 1 (.t 45)), (some (39, false))⟩, ⟨some 47, .val (.loadr none (.t 46)), (some (39, false))⟩, ⟨some 48, .val (.bin .num .gtr (.t 41) (.t 47)), (some (39, false))⟩, ⟨some 49, .val (.pick (.t 39) (.c (.bool true)) (.t 48)), none⟩, ⟨some 50, .callF (.f 91) [(.t 36), (.t 49), (.c (.int .i64 11))], none⟩]
def g117_5 : IL := [⟨some 51, .val (.bin .num .add (.t 12) (.c (.int .i64 1))), none⟩, ⟨some 12, .val (.mov (.t 51)), none⟩]
def l117_0 : RC := .gho (.drop 9) (.seq (.reg g117_1) (.seq (.cond (.t 13) (.skip) (.exit 0)) (.seq (.block 1 (.seq (.reg g117_2) (.seq (.reg g117_3) (.draw g117_4)))) (.reg g117_5))))
def r117 : RC := .seq (.reg g117_0) (.block 0 (.loop l117_0))
def o117 : List RR := []
theorem k117 : CT 117 52 r117 o117 := ck Tryz.func117 Tryz.ntmps117 (by decide +kernel)
def g118_0 : IL := [⟨some 2, .val (.mov (.c (.bool false))), none⟩]
def g118_1 : IL := [⟨some 3, .val (.mov (.t 0)), none⟩, ⟨some 4, .call (.f 146) [(.t 3)], none⟩, ⟨some 5, .val (.bin .num .lss (.t 4) (.c (.int .i64 0))), none⟩, ⟨some 2, .val (.mov (.t 5)), none⟩]
def r118 : RC := .seq (.reg g118_0) (.seq (.reg g118_1) (.ret))
def o118 : List RR := [.tmp 2]
theorem k118 : CT 118 6 r118 o118 := ck Tryz.func118 Tryz.ntmps118 (by decide +kernel)
def g119_0 : IL := [⟨some 7, .val (.mov (.t 1)), none⟩, ⟨some 8, .val (.mov (.t 2)), none⟩, ⟨some 9, .call (.f 147) [(.t 7), (.t 8)], none⟩, ⟨some 6, .val (.mov (.t 9)), none⟩]
def g119_1 : IL := [⟨some 10, .val (.mov (.t 0)), none⟩, ⟨some 11, .val (.mov (.t 6)), none⟩, ⟨some 12, .val (.bin .num .eql (.t 11) (.c (.int .i64 0))), none⟩, ⟨some 13, .val (.mov (.t 6)), none⟩, ⟨some 14, .callF (.f 91) [(.t 10), (.t 12), (.t 13)], none⟩]
def r119 : RC := .seq (.reg g119_0) (.reg g119_1)
def o119 : List RR := []
theorem k119 : CT 119 15 r119 o119 := ck Tryz.func119 Tryz.ntmps119 (by decide +kernel)
def g120_0 : IL := [⟨some 3, .boxN 3 (.t 0), none⟩, ⟨some 4, .boxN 4 (.t 1), none⟩, ⟨some 5, .boxN 5 (.t 2), none⟩, ⟨some 6, .val (.mov (.c (.bool false))), none⟩]
def g120_1 : IL := [⟨some 7, .val (.load (some 5) (.t 4)), none⟩, ⟨some 8, .call (.f 113) [(.t 7)], none⟩, ⟨some 9, .val (.mkfn (.func 148) [] [(.t 3), (.t 5)]), none⟩, ⟨some 10, .callF (.f 110) [(.t 8), (.t 9)], none⟩, ⟨some 6, .val (.mov (.t 10)), none⟩]
def r120 : RC := .seq (.reg g120_0) (.seq (.reg g120_1) (.ret))
def o120 : List RR := [.tmp 6]
theorem k120 : CT 120 11 r120 o120 := ck Tryz.func120 Tryz.ntmps120 (by decide +kernel)
def g121_0 : IL := [⟨some 2, .val (.mov (.c (.bool false))), none⟩]
def g121_1 : IL := [⟨some 3, .val (.mov (.t 0)), none⟩, ⟨some 4, .call (.f 149) [(.t 3)], none⟩, ⟨some 5, .val (.mov (.t 4)), none⟩, ⟨some 6, .val (.mov (.t 0)), (some (5, true))⟩, ⟨some 7, .call (.f 139) [(.t 6)], (some (5, true))⟩, ⟨some 8, .val (.un .not (.t 7)), (some (5, true))⟩, ⟨some 9, .val (.pick (.t 5) (.t 8) (.c (.bool false))), none⟩, ⟨some 2, .val (.mov (.t 9)), none⟩]
def r121 : RC := .seq (.reg g121_0) (.seq (.reg g121_1) (.ret))
def o121 : List RR := [.tmp 2]
theorem k121 : CT 121 10 r121 o121 := ck Tryz.func121 Tryz.ntmps121 (by decide +kernel)
def g124_0 : IL := [⟨some 3, .boxN 3 (.t 1), none⟩, ⟨some 4, .val (.mov (.c (.bool false))), none⟩]
def g124_1 : IL := [⟨some 5, .val (.mov (.t 0)), none⟩, ⟨some 6, .val (.mkfn (.func 153) [] [(.t 3)]), none⟩, ⟨some 7, .callF (.f 152) [(.t 5), (.t 6)], none⟩, ⟨some 4, .val (.mov (.t 7)), none⟩]
def r124 : RC := .seq (.reg g124_0) (.seq (.reg g124_1) (.ret))
def o124 : List RR := [.tmp 4]
theorem k124 : CT 124 8 r124 o124 := ck Tryz.func124 Tryz.ntmps124 (by decide +kernel)
def g125_0 : IL := [⟨some 4, .val (.mov (.c (.int .i64 0))), none⟩]
def g125_1 : IL := [⟨some 6, .val (.mov (.t 0)), none⟩, ⟨some 7, .val (.len 1 (.t 6)), none⟩, ⟨some 8, .val (.mov (.c (.int .i64 0))), none⟩]
def g125_2 : IL := [⟨some 9, .val (.bin .num .lss (.t 8) (.t 7)), none⟩]
def g125_3 : IL := [⟨some 10, .val (.mov (.t 8)), none⟩, ⟨some 5, .val (.mov (.t 10)), none⟩]
def g125_4 : IL := [⟨some 11, .val (.mov (.t 1)), none⟩, ⟨some 12, .val (.mov (.t 0)), none⟩, ⟨some 13, .val (.mov (.t 5)), none⟩, ⟨some 14, .val (.iaddr 8 none (.t 12) (.t 13)), none⟩, ⟨some 15, .val (.load (some 8) (.t 14)), none⟩, ⟨some 16, .callF (.t 11) [(.t 15)], none⟩]
def g125_5 : IL := [⟨some 17, .val (.mov (.t 5)), none⟩, ⟨some 4, .val (.mov (.t 17)), none⟩]
def g125_6 : IL := [⟨some 18, .val (.bin .num .add (.t 8) (.c (.int .i64 1))), none⟩, ⟨some 8, .val (.mov (.t 18)), none⟩]
def l125_0 : RC := .seq (.reg g125_2) (.seq (.cond (.t 9) (.skip) (.exit 0)) (.seq (.block 1 (.seq (.reg g125_3) (.seq (.reg g125_4) (.cond (.t 16) (.seq (.reg g125_5) (.ret)) (.skip))))) (.reg g125_6)))
def g125_7 : IL := [⟨some 4, .val (.mov (.c (.int .i64 (-1)))), none⟩]
def r125 : RC := .seq (.reg g125_0) (.seq (.seq (.reg g125_1) (.block 0 (.loop l125_0))) (.seq (.reg g125_7) (.ret)))
def o125 : List RR := [.tmp 4]
theorem k125 : CT 125 19 r125 o125 := ck Tryz.func125 Tryz.ntmps125 (by decide +kernel)
def g126_0 : IL := [⟨some 2, .boxN 2 (.t 0), none⟩, ⟨some 3, .val (.mov (.c (.bool false))), none⟩]
def g126_1 : IL := [⟨some 4, .val (.faddr 0 (.t 2)), none⟩, ⟨some 5, .val (.load none (.t 4)), none⟩, ⟨some 6, .val (.load none (.t 1)), none⟩, ⟨some 7, .val (.bin .str .eql (.t 5) (.t 6)), none⟩, ⟨some 3, .val (.mov (.t 7)), none⟩]
def r126 : RC := .seq (.reg g126_0) (.seq (.reg g126_1) (.ret))
def o126 : List RR := [.tmp 3]
theorem k126 : CT 126 8 r126 o126 := ck Tryz.func126 Tryz.ntmps126 (by decide +kernel)
def g127_0 : IL := [⟨some 6, .val (.mov (.c (.bool false))), none⟩]
def g127_1 : IL := [⟨some 8, .val (.mov (.t 0)), none⟩, ⟨some 9, .val (.mov (.t 1)), none⟩, ⟨some 10, .call (.f 154) [(.t 8), (.t 9)], none⟩, ⟨some 7, .val (.mov (.t 10)), none⟩]
def g127_2 : IL := [⟨some 11, .val (.mov (.t 7)), none⟩, ⟨some 12, .val (.bin .num .neq (.t 11) (.c (.int .i64 0))), none⟩, ⟨some 13, .val (.mov (.t 12)), none⟩, ⟨some 14, .val (.mov (.t 7)), (some (13, true))⟩, ⟨some 15, .val (.mov (.t 0)), (some (13, true))⟩, ⟨some 16, .val (.mov (.t 2)), (some (13, true))⟩, ⟨some 17, .call (.f 154) [(.t 15), (.t 16)], (some (13, true))⟩, ⟨some 18, .val (.bin .num .eql (.t 14) (.t 17)), (some (13, true))⟩, ⟨some 19, .val (.pick (.t 13) (.t 18) (.c (.bool false))), none⟩, ⟨some 6, .val (.mov (.t 19)), none⟩]
def r127 : RC := .seq (.reg g127_0) (.seq (.reg g127_1) (.seq (.reg g127_2) (.ret)))
def o127 : List RR := [.tmp 6]
theorem k127 : CT 127 20 r127 o127 := ck Tryz.func127 Tryz.ntmps127 (by decide +kernel)
def g128_0 : IL := [⟨some 2, .val (.mov (.c (.bool false))), none⟩]
def g128_1 : IL := [⟨some 3, .val (.mov (.t 0)), none⟩, ⟨some 4, .val (.bin .num .leq (.t 3) (.c (.int .i64 5))), none⟩, ⟨some 5, .val (.mov (.t 4)), none⟩, ⟨some 6, .val (.mov (.t 0)), (some (5, false))⟩, ⟨some 7, .val (.bin .num .eql (.t 6) (.c (.int .i64 9))), (some (5, false))⟩, ⟨some 8, .val (.pick (.t 5) (.c (.bool true)) (.t 7)), none⟩, ⟨some 2, .val (.mov (.t 8)), none⟩]
def r128 : RC := .seq (.reg g128_0) (.seq (.reg g128_1) (.ret))
def o128 : List RR := [.tmp 2]
theorem k128 : CT 128 9 r128 o128 := ck Tryz.func128 Tryz.ntmps128 (by decide +kernel)
def g129_0 : IL := [⟨some 2, .val (.mov (.c (.int .i64 0))), none⟩]
def g129_1 : IL := [⟨some 3, .val (.mov (.t 0)), none⟩]
def g129_2 : IL := [⟨some 5, .val (.bin .num .eql (.t 3) (.c (.int .i64 1))), none⟩, ⟨some 4, .val (.mov (.t 5)), none⟩]
def g129_3 : IL := [⟨some 2, .val (.mov (.c (.int .i64 0))), none⟩]
def g129_4 : IL := [⟨some 7, .val (.bin .num .eql (.t 3) (.c (.int .i64 2))), none⟩, ⟨some 6, .val (.mov (.t 7)), none⟩]
def g129_5 : IL := [⟨some 2, .val (.mov (.c (.int .i64 1))), none⟩]
def g129_6 : IL := [⟨some 9, .val (.bin .num .eql (.t 3) (.c (.int .i64 4))), none⟩, ⟨some 8, .val (.mov (.t 9)), none⟩]
def g129_7 : IL := [⟨some 2, .val (.mov (.c (.int .i64 2))), none⟩]
def g129_8 : IL := [⟨some 2, .val (.mov (.c (.int .i64 (-1)))), none⟩]
def r129 : RC := .seq (.reg g129_0) (.seq (.seq (.reg g129_1) (.block 0 (.seq (.reg g129_2) (.cond (.t 4) (.seq (.reg g129_3) (.ret)) (.seq (.reg g129_4) (.cond (.t 6) (.seq (.reg g129_5) (.ret)) (.seq (.reg g129_6) (.cond (.t 8) (.seq (.reg g129_7) (.ret)) (.skip))))))))) (.seq (.reg g129_8) (.ret)))
def o129 : List RR := [.tmp 2]
theorem k129 : CT 129 10 r129 o129 := ck Tryz.func129 Tryz.ntmps129 (by decide +kernel)
def g130_0 : IL := [⟨some 2, .val (.mov (.c (.bool false))), none⟩]
def g130_1 : IL := [⟨some 3, .val (.mov (.t 0)), none⟩, ⟨some 4, .val (.bin .num .geq (.t 3) (.c (.int .i64 1))), none⟩, ⟨some 5, .val (.mov (.t 4)), none⟩, ⟨some 6, .val (.mov (.t 0)), (some (5, true))⟩, ⟨some 7, .val (.bin .num .leq (.t 6) (.c (.int .i64 9))), (some (5, true))⟩, ⟨some 8, .val (.pick (.t 5) (.t 7) (.c (.bool false))), none⟩, ⟨some 2, .val (.mov (.t 8)), none⟩]
def r130 : RC := .seq (.reg g130_0) (.seq (.reg g130_1) (.ret))
def o130 : List RR := [.tmp 2]
theorem k130 : CT 130 9 r130 o130 := ck Tryz.func130 Tryz.ntmps130 (by decide +kernel)
def g131_0 : IL := [⟨some 2, .allocN 2 [.int .i64 0, .int .u64 0, .str [], .nils, .nils, .nils, .nils], none⟩]
def g131_1 : IL := [⟨some 3, .val (.mov (.t 0)), none⟩, ⟨some 4, .call (.f 130) [(.t 3)], none⟩, ⟨some 5, .val (.un .not (.t 4)), none⟩]
def g131_2 : IL := [⟨some 6, .val (.build [.int .i64 0, .int .u64 0, .str [], .nils, .nils, .nils, .nils] []), none⟩, ⟨none, .store 7 (.t 2) (.t 6), none⟩]
def g131_3 : IL := [⟨some 7, .val (.mov (.t 0)), none⟩, ⟨some 8, .val (.build [.int .i64 0, .int .u64 0, .str [], .nils, .nils, .nils, .nils] [(0, 1, (.t 7))]), none⟩, ⟨none, .store 7 (.t 2) (.t 8), none⟩]
def r131 : RC := .seq (.reg g131_0) (.seq (.seq (.reg g131_1) (.cond (.t 5) (.seq (.reg g131_2) (.ret)) (.skip))) (.seq (.reg g131_3) (.ret)))
def o131 : List RR := [.cell 2 (some 7)]
theorem k131 : CT 131 9 r131 o131 := ck Tryz.func131 Tryz.ntmps131 (by decide +kernel)
def g132_0 : IL := [⟨some 3, .boxN 3 (.t 1), none⟩, ⟨some 4, .val (.mov (.c (.bool false))), none⟩]
def g132_1 : IL := [⟨some 5, .val (.mov (.t 0)), none⟩, ⟨some 6, .call (.f 130) [(.t 5)], none⟩, ⟨some 7, .val (.un .not (.t 6)), none⟩, ⟨some 8, .val (.mov (.t 7)), none⟩, ⟨some 9, .val (.faddr 0 (.t 3)), (some (8, false))⟩, ⟨some 10, .val (.load none (.t 9)), (some (8, false))⟩, ⟨some 11, .val (.mov (.t 0)), (some (8, false))⟩, ⟨some 12, .val (.bin .num .neq (.t 10) (.t 11)), (some (8, false))⟩, ⟨some 13, .val (.pick (.t 8) (.c (.bool true)) (.t 12)), none⟩, ⟨some 14, .val (.mov (.t 13)), none⟩, ⟨some 15, .val (.load (some 7) (.t 3)), (some (14, false))⟩, ⟨some 16, .call (.f 155) [(.t 15)], (some (14, false))⟩, ⟨some 17, .val (.un .not (.t 16)), (some (14, false))⟩, ⟨some 18, .val (.pick (.t 14) (.c (.bool true)) (.t 17)), none⟩, ⟨some 19, .val (.mov (.t 18)), none⟩, ⟨some 20, .val (.mov (.t 0)), (some (19, false))⟩, ⟨some 21, .val (.faddr 1 (.t 3)), (some (19, false))⟩, ⟨some 22, .val (.load none (.t 21)), (some (19, false))⟩, ⟨some 23, .call (.f 156) [(.t 20), (.t 22)], (some (19, false))⟩, ⟨some 24, .val (.un .not (.t 23)), (some (19, false))⟩, ⟨some 25, .val (.pick (.t 19) (.c (.bool true)) (.t 24)), none⟩, ⟨some 26, .val (.mov (.t 25)), none⟩, ⟨some 27, .val (.faddr 2 (.t 3)), (some (26, false))⟩, ⟨some 28, .val (.load none (.t 27)), (some (26, false))⟩, ⟨some 29, .val (.len 0 (.t 28)), (some (26, false))⟩, ⟨some 30, .val (.bin .num .gtr (.t 29) (.c (.int .i64 4096))), (some (26, false))⟩, ⟨some 31, .val (.pick (.t 26) (.c (.bool true)) (.t 30)), none⟩]
def g132_2 : IL := [⟨some 4, .val (.mov (.c (.bool false))), none⟩]
def g132_3 : IL := [⟨some 32, .val (.mov (.t 0)), none⟩, ⟨some 33, .val (.bin .num .neq (.t 32) (.c (.int .i64 7))), none⟩, ⟨some 34, .val (.mov (.t 33)), none⟩, ⟨some 35, .val (.faddr 2 (.t 3)), (some (34, false))⟩, ⟨some 36, .val (.load none (.t 35)), (some (34, false))⟩, ⟨some 37, .call (.f 118) [(.t 36)], (some (34, false))⟩, ⟨some 38, .val (.pick (.t 34) (.c (.bool true)) (.t 37)), none⟩, ⟨some 4, .val (.mov (.t 38)), none⟩]
def r132 : RC := .seq (.reg g132_0) (.seq (.seq (.reg g132_1) (.cond (.t 31) (.seq (.reg g132_2) (.ret)) (.skip))) (.seq (.reg g132_3) (.ret)))
def o132 : List RR := [.tmp 4]
theorem k132 : CT 132 39 r132 o132 := ck Tryz.func132 Tryz.ntmps132 (by decide +kernel)
def g133_0 : IL := [⟨some 6, .val (.mov (.c (.bool false))), none⟩]
def g133_1 : IL := [⟨some 7, .val (.mov (.t 0)), none⟩, ⟨some 8, .call (.f 157) [(.t 7)], none⟩, ⟨some 9, .val (.mov (.t 8)), none⟩, ⟨some 10, .val (.mov (.t 2)), (some (9, true))⟩, ⟨some 11, .val (.bin .num .geq (.t 10) (.c (.int .u64 9223372036854775808))), (some (9, true))⟩, ⟨some 12, .val (.pick (.t 9) (.t 11) (.c (.bool false))), none⟩]
def g133_2 : IL := [⟨some 13, .val (.mov (.t 2)), none⟩, ⟨some 14, .val (.un .neg (.t 13)), none⟩, ⟨some 15, .val (.mov (.t 1)), none⟩, ⟨some 16, .val (.bin .num .sub (.t 15) (.c (.int .i64 1))), none⟩, ⟨some 17, .val (.iaddr 2 (some 9) (.g 1 gl1) (.t 16)), none⟩, ⟨some 18, .val (.faddr 0 (.t 17)), none⟩, ⟨some 19, .val (.load none (.t 18)), none⟩, ⟨some 20, .val (.bin .num .leq (.t 14) (.t 19)), none⟩, ⟨some 6, .val (.mov (.t 20)), none⟩]
def g133_3 : IL := [⟨some 21, .val (.mov (.t 2)), none⟩, ⟨some 22, .val (.mov (.t 1)), none⟩, ⟨some 23, .val (.bin .num .sub (.t 22) (.c (.int .i64 1))), none⟩, ⟨some 24, .val (.iaddr 2 (some 9) (.g 1 gl1) (.t 23)), none⟩, ⟨some 25, .val (.faddr 1 (.t 24)), none⟩, ⟨some 26, .val (.load none (.t 25)), none⟩, ⟨some 27, .val (.bin .num .leq (.t 21) (.t 26)), none⟩, ⟨some 6, .val (.mov (.t 27)), none⟩]
def r133 : RC := .seq (.reg g133_0) (.seq (.seq (.reg g133_1) (.cond (.t 12) (.seq (.reg g133_2) (.ret)) (.skip))) (.seq (.reg g133_3) (.ret)))
def o133 : List RR := [.tmp 6]
theorem k133 : CT 133 28 r133 o133 := ck Tryz.func133 Tryz.ntmps133 (by decide +kernel)
def g134_0 : IL := [⟨some 1, .boxN 1 (.t 0), none⟩, ⟨some 2, .allocN 2 [.int .i64 0, .int .u64 0, .str [], .nils, .nils, .nils, .nils], none⟩]
def g134_1 : IL := [⟨some 3, .val (.faddr 0 (.t 1)), none⟩, ⟨some 4, .val (.load none (.t 3)), none⟩, ⟨some 5, .val (.bin .num .eql (.t 4) (.c (.int .i64 6))), none⟩, ⟨some 6, .val (.mov (.t 5)), none⟩, ⟨some 7, .val (.faddr 1 (.t 1)), (some (6, true))⟩, ⟨some 8, .val (.load none (.t 7)), (some (6, true))⟩, ⟨some 9, .call (.f 158) [(.t 8)], (some (6, true))⟩, ⟨some 10, .val (.bin .num .eql (.t 9) (.c (.int .i64 0))), (some (6, true))⟩, ⟨some 11, .val (.pick (.t 6) (.t 10) (.c (.bool false))), none⟩]
def g134_2 : IL := [⟨some 12, .val (.faddr 1 (.t 1)), none⟩, ⟨none, .store 1 (.t 12) (.c (.int .u64 9221120237041090560)), none⟩]
def g134_3 : IL := [⟨some 13, .val (.load (some 7) (.t 1)), none⟩, ⟨none, .store 7 (.t 2) (.t 13), none⟩]
def r134 : RC := .seq (.reg g134_0) (.seq (.seq (.reg g134_1) (.cond (.t 11) (.reg g134_2) (.skip))) (.seq (.reg g134_3) (.ret)))
def o134 : List RR := [.cell 2 (some 7)]
theorem k134 : CT 134 14 r134 o134 := ck Tryz.func134 Tryz.ntmps134 (by decide +kernel)
def g135_0 : IL := [⟨some 4, .val (.mov (.c (.int .i64 0))), none⟩]
def g135_1 : IL := [⟨some 6, .val (.mov (.t 0)), none⟩, ⟨some 7, .val (.len 1 (.t 6)), none⟩, ⟨some 8, .val (.mov (.c (.int .i64 0))), none⟩]
def g135_2 : IL := [⟨some 9, .val (.bin .num .lss (.t 8) (.t 7)), none⟩]
def g135_3 : IL := [⟨some 10, .val (.mov (.t 8)), none⟩, ⟨some 5, .val (.mov (.t 10)), none⟩]
def g135_4 : IL := [⟨some 11, .val (.mov (.t 1)), none⟩, ⟨some 12, .val (.mov (.t 0)), none⟩, ⟨some 13, .val (.mov (.t 5)), none⟩, ⟨some 14, .val (.iaddr 1 none (.t 12) (.t 13)), none⟩, ⟨some 15, .val (.load none (.t 14)), none⟩, ⟨some 16, .callF (.t 11) [(.t 15)], none⟩]
def g135_5 : IL := [⟨some 17, .val (.mov (.t 5)), none⟩, ⟨some 4, .val (.mov (.t 17)), none⟩]
def g135_6 : IL := [⟨some 18, .val (.bin .num .add (.t 8) (.c (.int .i64 1))), none⟩, ⟨some 8, .val (.mov (.t 18)), none⟩]
def l135_0 : RC := .seq (.reg g135_2) (.seq (.cond (.t 9) (.skip) (.exit 0)) (.seq (.block 1 (.seq (.reg g135_3) (.seq (.reg g135_4) (.cond (.t 16) (.seq (.reg g135_5) (.ret)) (.skip))))) (.reg g135_6)))
def g135_7 : IL := [⟨some 4, .val (.mov (.c (.int .i64 (-1)))), none⟩]
def r135 : RC := .seq (.reg g135_0) (.seq (.seq (.reg g135_1) (.block 0 (.loop l135_0))) (.seq (.reg g135_7) (.ret)))
def o135 : List RR := [.tmp 4]
theorem k135 : CT 135 19 r135 o135 := ck Tryz.func135 Tryz.ntmps135 (by decide +kernel)
def g136_0 : IL := [⟨some 2, .boxN 2 (.t 0), none⟩, ⟨some 3, .val (.mov (.c (.bool false))), none⟩]
def g136_1 : IL := [⟨some 4, .val (.faddr 0 (.t 2)), none⟩, ⟨some 5, .val (.load none (.t 4)), none⟩, ⟨some 6, .val (.load none (.t 1)), none⟩, ⟨some 7, .val (.bin .str .eql (.t 5) (.t 6)), none⟩, ⟨some 3, .val (.mov (.t 7)), none⟩]
def r136 : RC := .seq (.reg g136_0) (.seq (.reg g136_1) (.ret))
def o136 : List RR := [.tmp 3]
theorem k136 : CT 136 8 r136 o136 := ck Tryz.func136 Tryz.ntmps136 (by decide +kernel)
def g137_0 : IL := [⟨some 2, .val (.mov (.c (.bool false))), none⟩]
def g137_1 : IL := [⟨some 5, .val (.mov (.t 0)), none⟩, ⟨some 6, .call (.f 138) [(.t 5), (.c (.str [46]))], none⟩, ⟨some 7, .val (.len 1 (.t 6)), none⟩, ⟨some 8, .val (.mov (.c (.int .i64 0))), none⟩]
def g137_2 : IL := [⟨some 9, .val (.bin .num .lss (.t 8) (.t 7)), none⟩]
def g137_3 : IL := [⟨some 10, .val (.iaddr 1 none (.t 6) (.t 8)), none⟩, ⟨some 11, .val (.load none (.t 10)), none⟩, ⟨some 4, .val (.mov (.t 11)), none⟩]
def g137_4 : IL := [⟨some 12, .val (.mov (.t 4)), none⟩, ⟨some 13, .call (.f 149) [(.t 12)], none⟩, ⟨some 14, .val (.un .not (.t 13)), none⟩]
def g137_5 : IL := [⟨some 2, .val (.mov (.c (.bool false))), none⟩]
def g137_6 : IL := [⟨some 15, .val (.bin .num .add (.t 8) (.c (.int .i64 1))), none⟩, ⟨some 8, .val (.mov (.t 15)), none⟩]
def l137_0 : RC := .seq (.reg g137_2) (.seq (.cond (.t 9) (.skip) (.exit 0)) (.seq (.block 1 (.seq (.reg g137_3) (.seq (.reg g137_4) (.cond (.t 14) (.seq (.reg g137_5) (.ret)) (.skip))))) (.reg g137_6)))
def g137_7 : IL := [⟨some 16, .val (.mov (.t 0)), none⟩, ⟨some 17, .val (.len 0 (.t 16)), none⟩, ⟨some 18, .val (.bin .num .leq (.t 17) (.c (.int .i64 120))), none⟩, ⟨some 2, .val (.mov (.t 18)), none⟩]
def r137 : RC := .seq (.reg g137_0) (.seq (.seq (.reg g137_1) (.block 0 (.loop l137_0))) (.seq (.reg g137_7) (.ret)))
def o137 : List RR := [.tmp 2]
theorem k137 : CT 137 19 r137 o137 := ck Tryz.func137 Tryz.ntmps137 (by decide +kernel)
def g138_0 : IL := [⟨some 4, .val (.mov (.c (.nils))), none⟩]
def g138_1 : IL := [⟨some 5, .val (.mov (.t 0)), none⟩, ⟨some 6, .val (.mov (.t 1)), none⟩, ⟨some 7, .call (.f 159) [(.t 5), (.t 6), (.c (.int .i64 0)), (.c (.int .i64 (-1)))], none⟩, ⟨some 4, .val (.mov (.t 7)), none⟩]
def r138 : RC := .seq (.reg g138_0) (.seq (.reg g138_1) (.ret))
def o138 : List RR := [.tmp 4]
theorem k138 : CT 138 8 r138 o138 := ck Tryz.func138 Tryz.ntmps138 (by decide +kernel)
def g139_0 : IL := [⟨some 2, .val (.mov (.c (.bool false))), none⟩]
def g139_1 : IL := [⟨some 3, .val (.mov (.t 0)), none⟩]
def g139_2 : IL := [⟨some 5, .val (.bin .str .eql (.t 3) (.c (.str [109, 101, 115, 115, 97, 103, 101]))), none⟩, ⟨some 4, .val (.mov (.t 5)), none⟩]
def g139_3 : IL := [⟨some 6, .val (.bin .str .eql (.t 3) (.c (.str [101, 110, 117, 109]))), none⟩, ⟨some 4, .val (.mov (.t 6)), none⟩]
def g139_4 : IL := [⟨some 7, .val (.bin .str .eql (.t 3) (.c (.str [115, 101, 114, 118, 105, 99, 101]))), none⟩, ⟨some 4, .val (.mov (.t 7)), none⟩]
def g139_5 : IL := [⟨some 8, .val (.bin .str .eql (.t 3) (.c (.str [117, 110, 105, 111, 110]))), none⟩, ⟨some 4, .val (.mov (.t 8)), none⟩]
def g139_6 : IL := [⟨some 9, .val (.bin .str .eql (.t 3) (.c (.str [109, 97, 112]))), none⟩, ⟨some 4, .val (.mov (.t 9)), none⟩]
def g139_7 : IL := [⟨some 10, .val (.bin .str .eql (.t 3) (.c (.str [108, 105, 115, 116]))), none⟩, ⟨some 4, .val (.mov (.t 10)), none⟩]
def g139_8 : IL := [⟨some 11, .val (.bin .str .eql (.t 3) (.c (.str [114, 101, 113, 117, 105, 114, 101, 100]))), none⟩, ⟨some 4, .val (.mov (.t 11)), none⟩]
def g139_9 : IL := [⟨some 12, .val (.bin .str .eql (.t 3) (.c (.str [111, 112, 116, 105, 111, 110, 97, 108]))), none⟩, ⟨some 4, .val (.mov (.t 12)), none⟩]
def g139_10 : IL := [⟨some 13, .val (.bin .str .eql (.t 3) (.c (.str [112, 108, 97, 105, 110]))), none⟩, ⟨some 4, .val (.mov (.t 13)), none⟩]
def g139_11 : IL := [⟨some 14, .val (.bin .str .eql (.t 3) (.c (.str [100, 101, 102, 97, 117, 108, 116]))), none⟩, ⟨some 4, .val (.mov (.t 14)), none⟩]
def g139_12 : IL := [⟨some 15, .val (.bin .str .eql (.t 3) (.c (.str [114, 101, 115, 101, 114, 118, 101, 100]))), none⟩, ⟨some 4, .val (.mov (.t 15)), none⟩]
def g139_13 : IL := [⟨some 2, .val (.mov (.c (.bool true))), none⟩]
def g139_14 : IL := [⟨some 17, .val (.bin .str .eql (.t 3) (.c (.str [105, 109, 112, 111, 114, 116]))), none⟩, ⟨some 16, .val (.mov (.t 17)), none⟩]
def g139_15 : IL := [⟨some 18, .val (.bin .str .eql (.t 3) (.c (.str [115, 112, 97, 99, 101]))), none⟩, ⟨some 16, .val (.mov (.t 18)), none⟩]
def g139_16 : IL := [⟨some 19, .val (.bin .str .eql (.t 3) (.c (.str [114, 112, 99]))), none⟩, ⟨some 16, .val (.mov (.t 19)), none⟩]
def g139_17 : IL := [⟨some 20, .val (.bin .str .eql (.t 3) (.c (.str [115, 116, 114, 101, 97, 109]))), none⟩, ⟨some 16, .val (.mov (.t 20)), none⟩]
def g139_18 : IL := [⟨some 21, .val (.bin .str .eql (.t 3) (.c (.str [114, 101, 116, 117, 114, 110, 115]))), none⟩, ⟨some 16, .val (.mov (.t 21)), none⟩]
def g139_19 : IL := [⟨some 22, .val (.bin .str .eql (.t 3) (.c (.str [111, 112, 101, 110]))), none⟩, ⟨some 16, .val (.mov (.t 22)), none⟩]
def g139_20 : IL := [⟨some 23, .val (.bin .str .eql (.t 3) (.c (.str [116, 114, 117, 101]))), none⟩, ⟨some 16, .val (.mov (.t 23)), none⟩]
def g139_21 : IL := [⟨some 24, .val (.bin .str .eql (.t 3) (.c (.str [102, 97, 108, 115, 101]))), none⟩, ⟨some 16, .val (.mov (.t 24)), none⟩]
def g139_22 : IL := [⟨some 25, .val (.bin .str .eql (.t 3) (.c (.str [110, 97, 110]))), none⟩, ⟨some 16, .val (.mov (.t 25)), none⟩]
def g139_23 : IL := [⟨some 26, .val (.bin .str .eql (.t 3) (.c (.str [105, 110, 102]))), none⟩, ⟨some 16, .val (.mov (.t 26)), none⟩]
def g139_24 : IL := [⟨some 2, .val (.mov (.c (.bool true))), none⟩]
def g139_25 : IL := [⟨some 2, .val (.mov (.c (.bool false))), none⟩]
def r139 : RC := .seq (.reg g139_0) (.seq (.seq (.reg g139_1) (.block 0 (.seq (.seq (.reg g139_2) (.cond (.t 4) (.skip) (.seq (.reg g139_3) (.cond (.t 4) (.skip) (.seq (.reg g139_4) (.cond (.t 4) (.skip) (.seq (.reg g139_5) (.cond (.t 4) (.skip) (.seq (.reg g139_6) (.cond (.t 4) (.skip) (.seq (.reg g139_7) (.cond (.t 4) (.skip) (.seq (.reg g139_8) (.cond (.t 4) (.skip) (.seq (.reg g139_9) (.cond (.t 4) (.skip) (.seq (.reg g139_10) (.cond (.t 4) (.skip) (.seq (.reg g139_11) (.cond (.t 4) (.skip) (.reg g139_12))))))))))))))))))))) (.cond (.t 4) (.seq (.reg g139_13) (.ret)) (.seq (.seq (.reg g139_14) (.cond (.t 16) (.skip) (.seq (.reg g139_15) (.cond (.t 16) (.skip) (.seq (.reg g139_16) (.cond (.t 16) (.skip) (.seq (.reg g139_17) (.cond (.t 16) (.skip) (.seq (.reg g139_18) (.cond (.t 16) (.skip) (.seq (.reg g139_19) (.cond (.t 16) (.skip) (.seq (.reg g139_20) (.cond (.t 16) (.skip) (.seq (.reg g139_21) (.cond (.t 16) (.skip) (.seq (.reg g139_22) (.cond (.t 16) (.skip) (.reg g139_23))))))))))))))))))) (.cond (.t 16) (.seq (.reg g139_24) (.ret)) (.skip))))))) (.seq (.reg g139_25) (.ret)))
def o139 : List RR := [.tmp 2]
theorem k139 : CT 139 27 r139 o139 := ck Tryz.func139 Tryz.ntmps139 (by decide +kernel)
def g140_0 : IL := [⟨some 3, .boxN 3 (.t 0), none⟩, ⟨some 4, .boxN 4 (.t 1), none⟩, ⟨some 5, .boxN 5 (.t 2), none⟩, ⟨some 6, .val (.mov (.c (.bool false))), none⟩]
def g140_1 : IL := [⟨some 7, .val (.load none (.t 3)), none⟩, ⟨some 8, .val (.load none (.t 4)), none⟩, ⟨some 9, .val (.slc (some 16) (.t 7) none (some (.t 8)) none), none⟩, ⟨some 10, .val (.mkfn (.func 161) [] [(.t 5), (.t 3), (.t 4)]), none⟩, ⟨some 11, .callF (.f 160) [(.t 9), (.t 10)], none⟩, ⟨some 6, .val (.mov (.t 11)), none⟩]
def r140 : RC := .seq (.reg g140_0) (.seq (.reg g140_1) (.ret))
def o140 : List RR := [.tmp 6]
theorem k140 : CT 140 12 r140 o140 := ck Tryz.func140 Tryz.ntmps140 (by decide +kernel)
def g141_0 : IL := [⟨some 1, .boxN 1 (.t 0), none⟩, ⟨some 2, .val (.mov (.c (.str []))), none⟩]
def g141_1 : IL := [⟨some 3, .val (.faddr 1 (.t 1)), none⟩, ⟨some 4, .val (.load none (.t 3)), none⟩, ⟨some 2, .val (.mov (.t 4)), none⟩]
def r141 : RC := .seq (.reg g141_0) (.seq (.reg g141_1) (.ret))
def o141 : List RR := [.tmp 2]
theorem k141 : CT 141 5 r141 o141 := ck Tryz.func141 Tryz.ntmps141 (by decide +kernel)
def g142_0 : IL := [⟨some 4, .val (.mov (.c (.bool false))), none⟩]
def g142_1 : IL := [⟨some 5, .val (.mov (.t 0)), none⟩, ⟨some 6, .val (.bin .num .neq (.t 5) (.c (.int .i64 5))), none⟩]
def g142_2 : IL := [⟨some 7, .val (.mov (.t 1)), none⟩, ⟨some 8, .val (.bin .num .eql (.t 7) (.c (.int .i64 0))), none⟩, ⟨some 4, .val (.mov (.t 8)), none⟩]
def g142_3 : IL := [⟨some 9, .val (.mov (.t 1)), none⟩, ⟨some 10, .val (.bin .num .geq (.t 9) (.c (.int .i64 1))), none⟩, ⟨some 11, .val (.mov (.t 10)), none⟩, ⟨some 12, .val (.mov (.t 1)), (some (11, true))⟩, ⟨some 13, .val (.bin .num .leq (.t 12) (.c (.int .i64 7))), (some (11, true))⟩, ⟨some 14, .val (.pick (.t 11) (.t 13) (.c (.bool false))), none⟩, ⟨some 15, .val (.mov (.t 14)), none⟩, ⟨some 16, .val (.mov (.t 1)), (some (15, true))⟩, ⟨some 17, .val (.bin .num .neq (.t 16) (.c (.int .i64 6))), (some (15, true))⟩, ⟨some 18, .val (.pick (.t 15) (.t 17) (.c (.bool false))), none⟩, ⟨some 4, .val (.mov (.t 18)), none⟩]
def r142 : RC := .seq (.reg g142_0) (.seq (.seq (.reg g142_1) (.cond (.t 6) (.seq (.reg g142_2) (.ret)) (.skip))) (.seq (.reg g142_3) (.ret)))
def o142 : List RR := [.tmp 4]
theorem k142 : CT 142 19 r142 o142 := ck Tryz.func142 Tryz.ntmps142 (by decide +kernel)
def g143_0 : IL := [⟨some 2, .boxN 2 (.t 0), none⟩, ⟨some 3, .boxN 3 (.t 1), none⟩, ⟨some 4, .val (.mov (.c (.bool false))), none⟩]
def g143_1 : IL := [⟨some 10, .val (.faddr 4 (.t 3)), none⟩, ⟨some 11, .val (.faddr 0 (.t 10)), none⟩, ⟨some 12, .val (.load none (.t 11)), none⟩, ⟨some 13, .val (.bin .num .geq (.t 12) (.c (.int .i64 1))), none⟩, ⟨some 14, .val (.mov (.t 13)), none⟩, ⟨some 15, .val (.faddr 4 (.t 3)), (some (14, true))⟩, ⟨some 16, .val (.faddr 0 (.t 15)), (some (14, true))⟩, ⟨some 17, .val (.load none (.t 16)), (some (14, true))⟩, ⟨some 18, .val (.bin .num .leq (.t 17) (.c (.int .i64 8))), (some (14, true))⟩, ⟨some 19, .val (.pick (.t 14) (.t 18) (.c (.bool false))), none⟩, ⟨some 9, .val (.mov (.t 19)), none⟩]
def g143_2 : IL := [⟨some 20, .val (.faddr 4 (.t 3)), none⟩, ⟨some 21, .val (.faddr 1 (.t 20)), none⟩, ⟨some 22, .val (.load none (.t 21)), none⟩, ⟨some 23, .val (.bin .str .eql (.t 22) (.c (.str []))), none⟩, ⟨some 4, .val (.mov (.t 23)), none⟩]
def g143_3 : IL := [⟨some 25, .val (.faddr 4 (.t 3)), none⟩, ⟨some 26, .val (.faddr 0 (.t 25)), none⟩, ⟨some 27, .val (.load none (.t 26)), none⟩, ⟨some 28, .val (.bin .num .eql (.t 27) (.c (.int .i64 9))), none⟩, ⟨some 24, .val (.mov (.t 28)), none⟩]
def g143_4 : IL := [⟨some 30, .val (.load (some 3) (.t 2)), none⟩, ⟨some 31, .val (.faddr 4 (.t 3)), none⟩, ⟨some 32, .val (.faddr 1 (.t 31)), none⟩, ⟨some 33, .val (.load none (.t 32)), none⟩, ⟨some 34, .call (.f 162) [(.t 30), (.t 33)], none⟩, ⟨some 29, .val (.mov (.t 34)), none⟩, ⟨some 35, .val (.ext (.t 29) 0), none⟩, ⟨some 36, .val (.ext (.t 29) 1), none⟩, ⟨some 5, .allocN 5 [.str [], .bool false, .nils, .nils, .nils], none⟩, ⟨none, .store 5 (.t 5) (.t 35), none⟩, ⟨some 6, .val (.mov (.t 36)), none⟩]
def g143_5 : IL := [⟨some 37, .val (.mov (.t 6)), none⟩, ⟨some 4, .val (.mov (.t 37)), none⟩]
def g143_6 : IL := [⟨some 39, .val (.faddr 4 (.t 3)), none⟩, ⟨some 40, .val (.faddr 0 (.t 39)), none⟩, ⟨some 41, .val (.load none (.t 40)), none⟩, ⟨some 42, .val (.bin .num .eql (.t 41) (.c (.int .i64 10))), none⟩, ⟨some 38, .val (.mov (.t 42)), none⟩]
def g143_7 : IL := [⟨some 44, .val (.load (some 3) (.t 2)), none⟩, ⟨some 45, .val (.faddr 4 (.t 3)), none⟩, ⟨some 46, .val (.faddr 1 (.t 45)), none⟩, ⟨some 47, .val (.load none (.t 46)), none⟩, ⟨some 48, .call (.f 112) [(.t 44), (.t 47)], none⟩, ⟨some 43, .val (.mov (.t 48)), none⟩, ⟨some 49, .val (.ext (.t 43) 0), none⟩, ⟨some 50, .val (.ext (.t 43) 1), none⟩, ⟨some 7, .allocN 7 [.str [], .nils, .nils, .nils, .nils], none⟩, ⟨none, .store 5 (.t 7) (.t 49), none⟩, ⟨some 8, .val (.mov (.t 50)), none⟩]
def g143_8 : IL := [⟨some 51, .val (.mov (.t 8)), none⟩, ⟨some 52, .val (.mov (.t 51)), none⟩, ⟨some 53, .val (.faddr 2 (.t 3)), (some (52, true))⟩, ⟨some 54, .val (.load none (.t 53)), (some (52, true))⟩, ⟨some 55, .val (.bin .num .neq (.t 54) (.c (.int .i64 3))), (some (52, true))⟩, ⟨some 56, .val (.pick (.t 52) (.t 55) (.c (.bool false))), none⟩, ⟨some 4, .val (.mov (.t 56)), none⟩]
def g143_9 : IL := [⟨some 4, .val (.mov (.c (.bool false))), none⟩]
def r143 : RC := .seq (.reg g143_0) (.seq (.block 0 (.seq (.reg g143_1) (.cond (.t 9) (.seq (.reg g143_2) (.ret)) (.seq (.reg g143_3) (.cond (.t 24) (.seq (.reg g143_4) (.seq (.reg g143_5) (.ret))) (.seq (.reg g143_6) (.cond (.t 38) (.seq (.reg g143_7) (.seq (.reg g143_8) (.ret))) (.skip)))))))) (.seq (.reg g143_9) (.ret)))
def o143 : List RR := [.tmp 4]
theorem k143 : CT 143 57 r143 o143 := ck Tryz.func143 Tryz.ntmps143 (by decide +kernel)
def g144_0 : IL := [⟨some 2, .boxN 2 (.t 0), none⟩, ⟨some 4, .val (.mov (.c (.bool false))), none⟩]
def g144_1 : IL := [⟨some 7, .val (.faddr 1 (.t 2)), none⟩, ⟨some 8, .val (.load none (.t 7)), none⟩, ⟨some 9, .val (.mov (.t 1)), none⟩, ⟨some 10, .val (.iaddr 16 none (.t 8) (.t 9)), none⟩, ⟨some 11, .val (.load (some 16) (.t 10)), none⟩, ⟨some 5, .allocN 5 [.int .i64 0, .str [], .int .i64 0, .int .i64 0, .int .i64 0, .str [], .str [], .bool false, .int .i64 0, .int .u64 0, .str [], .nils, .nils, .nils, .nils, .nils], none⟩, ⟨none, .store 16 (.t 5) (.t 11), none⟩]
def g144_2 : IL := [⟨some 12, .val (.faddr 6 (.t 5)), none⟩, ⟨some 13, .val (.load none (.t 12)), none⟩, ⟨some 14, .val (.bin .str .eql (.t 13) (.c (.str []))), none⟩]
def g144_3 : IL := [⟨some 4, .val (.mov (.c (.bool true))), none⟩]
def g144_4 : IL := [⟨some 15, .val (.faddr 2 (.t 5)), none⟩, ⟨some 16, .val (.load none (.t 15)), none⟩, ⟨some 17, .val (.bin .num .neq (.t 16) (.c (.int .i64 2))), none⟩, ⟨some 18, .val (.mov (.t 17)), none⟩, ⟨some 19, .val (.faddr 6 (.t 5)), (some (18, false))⟩, ⟨some 20, .val (.load none (.t 19)), (some (18, false))⟩, ⟨some 21, .call (.f 121) [(.t 20)], (some (18, false))⟩, ⟨some 22, .val (.un .not (.t 21)), (some (18, false))⟩, ⟨some 23, .val (.pick (.t 18) (.c (.bool true)) (.t 22)), none⟩, ⟨some 24, .val (.mov (.t 23)), none⟩, ⟨some 25, .val (.faddr 1 (.t 2)), (some (24, false))⟩, ⟨some 26, .val (.load none (.t 25)), (some (24, false))⟩, ⟨some 27, .val (.mkfn (.func 163) [] [(.t 5)]), (some (24, false))⟩, ⟨some 28, .callF (.f 160) [(.t 26), (.t 27)], (some (24, false))⟩, ⟨some 29, .val (.pick (.t 24) (.c (.bool true)) (.t 28)), none⟩]
def g144_5 : IL := [⟨some 4, .val (.mov (.c (.bool false))), none⟩]
def g144_6 : IL := [⟨some 30, .val (.faddr 1 (.t 2)), none⟩, ⟨some 31, .val (.load none (.t 30)), none⟩, ⟨some 32, .val (.mov (.t 1)), none⟩, ⟨some 33, .val (.slc (some 16) (.t 31) none (some (.t 32)) none), none⟩, ⟨some 34, .val (.mkfn (.func 164) [] [(.t 5)]), none⟩, ⟨some 35, .callF (.f 160) [(.t 33), (.t 34)], none⟩, ⟨some 6, .val (.mov (.t 35)), none⟩]
def g144_7 : IL := [⟨some 36, .val (.mov (.t 6)), none⟩, ⟨some 37, .val (.un .not (.t 36)), none⟩, ⟨some 38, .val (.mov (.t 37)), none⟩, ⟨some 39, .val (.faddr 1 (.t 2)), (some (38, false))⟩, ⟨some 40, .val (.loadv 0 2 none (.t 39)), (some (38, false))⟩, ⟨some 41, .val (.mov (.t 1)), (some (38, false))⟩, ⟨some 42, .val (.bin .num .sub (.t 41) (.c (.int .i64 1))), (some (38, false))⟩, ⟨some 43, .val (.iaddr 16 none (.t 40) (.t 42)), (some (38, false))⟩, ⟨some 44, .val (.faddr 6 (.t 43)), (some (38, false))⟩, ⟨some 45, .val (.loadr none (.t 44)), (some (38, false))⟩, ⟨some 46, .val (.faddr 6 (.t 5)), (some (38, false))⟩, ⟨some 47, .val (.loadv 0 5 none (.t 46)), (some (38, false))⟩, ⟨some 48, .val (.bin .str .eql (.t 45) (.t 47)), (some (38, false))⟩, ⟨some 49, .val (.pick (.t 38) (.c (.bool true)) (.t 48)), none⟩, ⟨some 4, .val (.mov (.t 49)), none⟩]
def r144 : RC := .seq (.reg g144_0) (.seq (.reg g144_1) (.seq (.seq (.reg g144_2) (.cond (.t 14) (.seq (.reg g144_3) (.ret)) (.skip))) (.seq (.seq (.reg g144_4) (.cond (.t 29) (.seq (.reg g144_5) (.ret)) (.skip))) (.seq (.reg g144_6) (.seq (.draw g144_7) (.ret))))))
def o144 : List RR := [.tmp 4]
theorem k144 : CT 144 50 r144 o144 := ck Tryz.func144 Tryz.ntmps144 (by decide +kernel)
def g145_0 : IL := [⟨some 2, .boxN 2 (.t 0), none⟩, ⟨some 3, .boxN 3 (.t 1), none⟩, ⟨some 4, .val (.mov (.c (.bool false))), none⟩]
def g145_1 : IL := [⟨some 7, .val (.faddr 7 (.t 3)), none⟩, ⟨some 8, .val (.load none (.t 7)), none⟩, ⟨some 9, .val (.un .not (.t 8)), none⟩]
def g145_2 : IL := [⟨some 10, .val (.faddr 8 (.t 3)), none⟩, ⟨some 11, .val (.load (some 7) (.t 10)), none⟩, ⟨some 12, .call (.f 165) [(.t 11)], none⟩, ⟨some 4, .val (.mov (.t 12)), none⟩]
def g145_3 : IL := [⟨some 13, .val (.faddr 2 (.t 3)), none⟩, ⟨some 14, .val (.loadv 0 3 none (.t 13)), none⟩, ⟨some 15, .val (.bin .num .neq (.t 14) (.c (.int .i64 2))), none⟩, ⟨some 16, .val (.mov (.t 15)), none⟩, ⟨some 17, .val (.faddr 6 (.t 3)), (some (16, false))⟩, ⟨some 18, .val (.loadv 0 3 none (.t 17)), (some (16, false))⟩, ⟨some 19, .val (.bin .str .neq (.t 18) (.c (.str []))), (some (16, false))⟩, ⟨some 20, .val (.pick (.t 16) (.c (.bool true)) (.t 19)), none⟩, ⟨some 21, .val (.mov (.t 20)), none⟩, ⟨some 22, .val (.faddr 4 (.t 3)), (some (21, false))⟩, ⟨some 23, .val (.faddr 0 (.t 22)), (some (21, false))⟩, ⟨some 24, .val (.loadv 0 3 none (.t 23)), (some (21, false))⟩, ⟨some 25, .val (.faddr 8 (.t 3)), (some (21, false))⟩, ⟨some 26, .val (.loadv 0 3 (some 7) (.t 25)), (some (21, false))⟩, ⟨some 27, .call (.f 132) [(.t 24), (.t 26)], (some (21, false))⟩, ⟨some 28, .val (.un .not (.t 27)), (some (21, false))⟩, ⟨some 29, .val (.pick (.t 21) (.c (.bool true)) (.t 28)), none⟩, ⟨some 30, .val (.mov (.t 29)), none⟩, ⟨some 31, .val (.faddr 8 (.t 3)), (some (30, false))⟩, ⟨some 32, .val (.loadv 0 3 (some 7) (.t 31)), (some (30, false))⟩, ⟨some 33, .call (.f 134) [(.t 32)], (some (30, false))⟩, ⟨some 34, .val (.fld 1 none (.t 33)), (some (30, false))⟩, ⟨some 35, .val (.faddr 8 (.t 3)), (some (30, false))⟩, ⟨some 36, .val (.faddr 1 (.t 35)), (some (30, false))⟩, ⟨some 37, .val (.loadv 0 3 none (.t 36)), (some (30, false))⟩, ⟨some 38, .val (.bin .num .neq (.t 34) (.t 37)), (some (30, false))⟩, ⟨some 39, .val (.pick (.t 30) (.c (.bool true)) (.t 38)), none⟩]
def g145_4 : IL := [⟨some 4, .val (.mov (.c (.bool false))), none⟩]
def g145_5 : IL := [⟨some 40, .val (.faddr 4 (.t 3)), none⟩, ⟨some 41, .val (.faddr 0 (.t 40)), none⟩, ⟨some 42, .val (.load none (.t 41)), none⟩, ⟨some 43, .val (.bin .num .neq (.t 42) (.c (.int .i64 9))), none⟩]
def g145_6 : IL := [⟨some 4, .val (.mov (.c (.bool true))), none⟩]
def g145_7 : IL := [⟨some 45, .val (.load (some 3) (.t 2)), none⟩, ⟨some 46, .val (.faddr 4 (.t 3)), none⟩, ⟨some 47, .val (.faddr 1 (.t 46)), none⟩, ⟨some 48, .val (.load none (.t 47)), none⟩, ⟨some 49, .call (.f 162) [(.t 45), (.t 48)], none⟩, ⟨some 44, .val (.mov (.t 49)), none⟩, ⟨some 50, .val (.ext (.t 44) 0), none⟩, ⟨some 51, .val (.ext (.t 44) 1), none⟩, ⟨some 5, .allocN 5 [.str [], .bool false, .nils, .nils, .nils], none⟩, ⟨none, .store 5 (.t 5) (.t 50), none⟩, ⟨some 6, .val (.mov (.t 51)), none⟩]
def g145_8 : IL := [⟨some 52, .val (.mov (.t 6)), none⟩, ⟨some 53, .val (.mov (.t 52)), none⟩, ⟨some 54, .val (.faddr 2 (.t 5)), (some (53, true))⟩, ⟨some 55, .val (.load none (.t 54)), (some (53, true))⟩, ⟨some 56, .val (.mkfn (.func 166) [] [(.t 3)]), (some (53, true))⟩, ⟨some 57, .callF (.f 150) [(.t 55), (.t 56)], (some (53, true))⟩, ⟨some 58, .val (.pick (.t 53) (.t 57) (.c (.bool false))), none⟩, ⟨some 4, .val (.mov (.t 58)), none⟩]
def r145 : RC := .seq (.reg g145_0) (.seq (.seq (.reg g145_1) (.cond (.t 9) (.seq (.reg g145_2) (.ret)) (.skip))) (.seq (.seq (.draw g145_3) (.cond (.t 39) (.seq (.reg g145_4) (.ret)) (.skip))) (.seq (.seq (.reg g145_5) (.cond (.t 43) (.seq (.reg g145_6) (.ret)) (.skip))) (.seq (.reg g145_7) (.seq (.reg g145_8) (.ret))))))
def o145 : List RR := [.tmp 4]
theorem k145 : CT 145 59 r145 o145 := ck Tryz.func145 Tryz.ntmps145 (by decide +kernel)
def g146_0 : IL := [⟨some 2, .val (.mov (.c (.int .i64 0))), none⟩]
def g146_1 : IL := [⟨some 5, .val (.mov (.t 0)), none⟩, ⟨some 6, .rngs 6 (.t 5), none⟩]
def g146_2 : IL := [⟨some 7, .nxts (.t 6), none⟩, ⟨some 8, .val (.ext (.t 7) 0), none⟩]
def g146_3 : IL := [⟨some 9, .val (.ext (.t 7) 1), none⟩, ⟨some 10, .val (.ext (.t 7) 2), none⟩, ⟨some 3, .val (.mov (.t 9)), none⟩, ⟨some 4, .val (.mov (.t 10)), none⟩]
def g146_4 : IL := [⟨some 11, .val (.mov (.t 0)), none⟩, ⟨some 12, .val (.mov (.t 3)), none⟩, ⟨some 13, .val (.mov (.t 4)), none⟩, ⟨some 14, .call (.f 167) [(.t 11), (.t 12), (.t 13)], none⟩]
def g146_5 : IL := [⟨some 15, .val (.mov (.t 3)), none⟩, ⟨some 2, .val (.mov (.t 15)), none⟩]
def l146_0 : RC := .seq (.reg g146_2) (.seq (.cond (.t 8) (.skip) (.exit 0)) (.block 1 (.seq (.reg g146_3) (.seq (.reg g146_4) (.cond (.t 14) (.seq (.reg g146_5) (.ret)) (.skip))))))
def g146_6 : IL := [⟨some 2, .val (.mov (.c (.int .i64 (-1)))), none⟩]
def r146 : RC := .seq (.reg g146_0) (.seq (.seq (.reg g146_1) (.block 0 (.loop l146_0))) (.seq (.reg g146_6) (.ret)))
def o146 : List RR := [.tmp 2]
theorem k146 : CT 146 16 r146 o146 := ck Tryz.func146 Tryz.ntmps146 (by decide +kernel)
def g147_0 : IL := [⟨some 4, .val (.mov (.c (.int .i64 0))), none⟩]
def g147_1 : IL := [⟨some 9, .val (.mov (.t 0)), none⟩, ⟨some 10, .val (.len 1 (.t 9)), none⟩, ⟨some 11, .val (.bin .num .gtr (.t 10) (.c (.int .i64 8))), none⟩]
def g147_2 : IL := [⟨some 4, .val (.mov (.c (.int .i64 3))), none⟩]
def g147_3 : IL := [⟨some 5, .val (.mov (.c (.str []))), none⟩]
def g147_4 : IL := [⟨some 12, .val (.mov (.t 0)), none⟩, ⟨some 13, .val (.len 1 (.t 12)), none⟩, ⟨some 14, .val (.mov (.c (.int .i64 0))), none⟩]
def g147_5 : IL := [⟨some 15, .val (.bin .num .lss (.t 14) (.t 13)), none⟩]
def g147_6 : IL := [⟨some 16, .val (.mov (.t 14)), none⟩, ⟨some 17, .val (.iaddr 8 none (.t 12) (.t 14)), none⟩, ⟨some 18, .val (.load (some 8) (.t 17)), none⟩, ⟨some 7, .allocN 7 [.str [], .int .i64 0, .int .u64 0, .str [], .nils, .nils, .nils, .nils], none⟩, ⟨some 6, .val (.mov (.t 16)), none⟩, ⟨none, .store 8 (.t 7) (.t 18), none⟩]
def g147_7 : IL := [⟨some 19, .val (.load (some 8) (.t 7)), none⟩, ⟨some 20, .val (.mov (.t 1)), none⟩, ⟨some 21, .val (.mov (.t 5)), none⟩, ⟨some 22, .val (.mov (.t 6)), none⟩, ⟨some 23, .val (.bin .num .gtr (.t 22) (.c (.int .i64 0))), none⟩, ⟨some 24, .call (.f 168) [(.t 19), (.t 20), (.t 21), (.t 23)], none⟩, ⟨some 8, .val (.mov (.t 24)), none⟩]
def g147_8 : IL := [⟨some 25, .val (.mov (.t 8)), none⟩, ⟨some 26, .val (.bin .num .neq (.t 25) (.c (.int .i64 0))), none⟩]
def g147_9 : IL := [⟨some 27, .val (.mov (.t 8)), none⟩, ⟨some 4, .val (.mov (.t 27)), none⟩]
def g147_10 : IL := [⟨some 28, .val (.faddr 0 (.t 7)), none⟩, ⟨some 29, .val (.load none (.t 28)), none⟩, ⟨some 5, .val (.mov (.t 29)), none⟩]
def g147_11 : IL := [⟨some 30, .val (.bin .num .add (.t 14) (.c (.int .i64 1))), none⟩, ⟨some 14, .val (.mov (.t 30)), none⟩]
def l147_0 : RC := .gho (.drop 7) (.seq (.reg g147_5) (.seq (.cond (.t 15) (.skip) (.exit 0)) (.seq (.block 1 (.seq (.reg g147_6) (.seq (.seq (.reg g147_7) (.seq (.reg g147_8) (.cond (.t 26) (.seq (.reg g147_9) (.ret)) (.skip)))) (.reg g147_10)))) (.reg g147_11))))
def g147_12 : IL := [⟨some 4, .val (.mov (.c (.int .i64 0))), none⟩]
def r147 : RC := .seq (.reg g147_0) (.seq (.seq (.reg g147_1) (.cond (.t 11) (.seq (.reg g147_2) (.ret)) (.skip))) (.seq (.reg g147_3) (.seq (.seq (.reg g147_4) (.block 0 (.loop l147_0))) (.seq (.reg g147_12) (.ret)))))
def o147 : List RR := [.tmp 4]
theorem k147 : CT 147 31 r147 o147 := ck Tryz.func147 Tryz.ntmps147 (by decide +kernel)
def g148_0 : IL := [⟨some 4, .val (.mov (.c (.bool false))), none⟩]
def g148_1 : IL := [⟨some 8, .val (.load (some 3) (.t 1)), none⟩, ⟨some 9, .val (.mov (.t 0)), none⟩, ⟨some 10, .call (.f 112) [(.t 8), (.t 9)], none⟩, ⟨some 7, .val (.mov (.t 10)), none⟩, ⟨some 11, .val (.ext (.t 7) 0), none⟩, ⟨some 12, .val (.ext (.t 7) 1), none⟩, ⟨some 5, .allocN 5 [.str [], .nils, .nils, .nils, .nils], none⟩, ⟨none, .store 5 (.t 5) (.t 11), none⟩, ⟨some 6, .val (.mov (.t 12)), none⟩]
def g148_2 : IL := [⟨some 13, .val (.mov (.t 6)), none⟩, ⟨some 14, .val (.mov (.t 13)), none⟩, ⟨some 15, .val (.load none (.t 2)), (some (14, true))⟩, ⟨some 16, .val (.mov (.t 0)), (some (14, true))⟩, ⟨some 17, .val (.mget false (.bool false) (.t 15) (.t 16)), (some (14, true))⟩, ⟨some 18, .val (.un .not (.t 17)), (some (14, true))⟩, ⟨some 19, .val (.pick (.t 14) (.t 18) (.c (.bool false))), none⟩, ⟨some 4, .val (.mov (.t 19)), none⟩]
def r148 : RC := .seq (.reg g148_0) (.seq (.reg g148_1) (.seq (.reg g148_2) (.ret)))
def o148 : List RR := [.tmp 4]
theorem k148 : CT 148 20 r148 o148 := ck Tryz.func148 Tryz.ntmps148 (by decide +kernel)
def g149_0 : IL := [⟨some 2, .val (.mov (.c (.bool false))), none⟩]
def g149_1 : IL := [⟨some 6, .val (.mov (.t 0)), none⟩, ⟨some 7, .rngs 7 (.t 6), none⟩]
def g149_2 : IL := [⟨some 8, .nxts (.t 7), none⟩, ⟨some 9, .val (.ext (.t 8) 0), none⟩]
def g149_3 : IL := [⟨some 10, .val (.ext (.t 8) 1), none⟩, ⟨some 11, .val (.ext (.t 8) 2), none⟩, ⟨some 3, .val (.mov (.t 10)), none⟩, ⟨some 4, .val (.mov (.t 11)), none⟩]
def g149_4 : IL := [⟨some 12, .val (.mov (.t 4)), none⟩, ⟨some 13, .call (.f 169) [(.t 12)], none⟩, ⟨some 5, .val (.mov (.t 13)), none⟩]
def g149_5 : IL := [⟨some 14, .val (.mov (.t 5)), none⟩, ⟨some 15, .val (.bin .num .eql (.t 14) (.c (.int .i64 0))), none⟩, ⟨some 16, .val (.mov (.t 15)), none⟩, ⟨some 17, .val (.mov (.t 3)), (some (16, false))⟩, ⟨some 18, .val (.bin .num .eql (.t 17) (.c (.int .i64 0))), (some (16, false))⟩, ⟨some 19, .val (.mov (.t 18)), (some (16, false))⟩, ⟨some 20, .val (.mov (.t 5)), (some (19, true))⟩, ⟨some 21, .val (.bin .num .neq (.t 20) (.c (.int .i64 1))), (some (19, true))⟩, ⟨some 22, .val (.pick (.t 19) (.t 21) (.c (.bool false))), (some (16, false))⟩, ⟨some 23, .val (.mov (.t 22)), (some (16, false))⟩, ⟨some 24, .val (.mov (.t 5)), (some (23, true))⟩, ⟨some 25, .val (.bin .num .neq (.t 24) (.c (.int .i64 2))), (some (23, true))⟩, ⟨some 26, .val (.pick (.t 23) (.t 25) (.c (.bool false))), (some (16, false))⟩, ⟨some 27, .val (.pick (.t 16) (.c (.bool true)) (.t 26)), none⟩]
def g149_6 : IL := [⟨some 2, .val (.mov (.c (.bool false))), none⟩]
def l149_0 : RC := .seq (.reg g149_2) (.seq (.cond (.t 9) (.skip) (.exit 0)) (.block 1 (.seq (.reg g149_3) (.seq (.reg g149_4) (.seq (.reg g149_5) (.cond (.t 27) (.seq (.reg g149_6) (.ret)) (.skip)))))))
def g149_7 : IL := [⟨some 28, .val (.mov (.t 0)), none⟩, ⟨some 29, .val (.len 0 (.t 28)), none⟩, ⟨some 30, .val (.bin .num .geq (.t 29) (.c (.int .i64 1))), none⟩, ⟨some 31, .val (.mov (.t 30)), none⟩, ⟨some 32, .val (.mov (.t 0)), (some (31, true))⟩, ⟨some 33, .val (.len 0 (.t 32)), (some (31, true))⟩, ⟨some 34, .val (.bin .num .leq (.t 33) (.c (.int .i64 40))), (some (31, true))⟩, ⟨some 35, .val (.pick (.t 31) (.t 34) (.c (.bool false))), none⟩, ⟨some 2, .val (.mov (.t 35)), none⟩]
def r149 : RC := .seq (.reg g149_0) (.seq (.seq (.reg g149_1) (.block 0 (.loop l149_0))) (.seq (.reg g149_7) (.ret)))
def o149 : List RR := [.tmp 2]
theorem k149 : CT 149 36 r149 o149 := ck Tryz.func149 Tryz.ntmps149 (by decide +kernel)
def g150_0 : IL := [⟨some 4, .val (.mov (.c (.bool false))), none⟩]
def g150_1 : IL := [⟨some 5, .val (.mov (.t 0)), none⟩, ⟨some 6, .val (.mov (.t 1)), none⟩, ⟨some 7, .callF (.f 170) [(.t 5), (.t 6)], none⟩, ⟨some 8, .val (.bin .num .geq (.t 7) (.c (.int .i64 0))), none⟩, ⟨some 4, .val (.mov (.t 8)), none⟩]
def r150 : RC := .seq (.reg g150_0) (.seq (.reg g150_1) (.ret))
def o150 : List RR := [.tmp 4]
theorem k150 : CT 150 9 r150 o150 := ck Tryz.func150 Tryz.ntmps150 (by decide +kernel)
def g152_0 : IL := [⟨some 4, .val (.mov (.c (.bool false))), none⟩]
def g152_1 : IL := [⟨some 5, .val (.mov (.t 0)), none⟩, ⟨some 6, .val (.mov (.t 1)), none⟩, ⟨some 7, .callF (.f 171) [(.t 5), (.t 6)], none⟩, ⟨some 8, .val (.bin .num .geq (.t 7) (.c (.int .i64 0))), none⟩, ⟨some 4, .val (.mov (.t 8)), none⟩]
def r152 : RC := .seq (.reg g152_0) (.seq (.reg g152_1) (.ret))
def o152 : List RR := [.tmp 4]
theorem k152 : CT 152 9 r152 o152 := ck Tryz.func152 Tryz.ntmps152 (by decide +kernel)
def g153_0 : IL := [⟨some 2, .boxN 2 (.t 0), none⟩, ⟨some 3, .val (.mov (.c (.bool false))), none⟩]
def g153_1 : IL := [⟨some 4, .val (.faddr 0 (.t 2)), none⟩, ⟨some 5, .val (.load none (.t 4)), none⟩, ⟨some 6, .val (.load none (.t 1)), none⟩, ⟨some 7, .val (.bin .num .leq (.t 5) (.t 6)), none⟩, ⟨some 8, .val (.mov (.t 7)), none⟩, ⟨some 9, .val (.load none (.t 1)), (some (8, true))⟩, ⟨some 10, .val (.faddr 1 (.t 2)), (some (8, true))⟩, ⟨some 11, .val (.load none (.t 10)), (some (8, true))⟩, ⟨some 12, .val (.bin .num .leq (.t 9) (.t 11)), (some (8, true))⟩, ⟨some 13, .val (.pick (.t 8) (.t 12) (.c (.bool false))), none⟩, ⟨some 3, .val (.mov (.t 13)), none⟩]
def r153 : RC := .seq (.reg g153_0) (.seq (.reg g153_1) (.ret))
def o153 : List RR := [.tmp 3]
theorem k153 : CT 153 14 r153 o153 := ck Tryz.func153 Tryz.ntmps153 (by decide +kernel)
def g154_0 : IL := [⟨some 4, .val (.mov (.c (.int .i64 0))), none⟩]
def g154_1 : IL := [⟨some 5, .val (.mov (.t 0)), none⟩, ⟨some 6, .call (.f 129) [(.t 5)], none⟩, ⟨some 7, .val (.bin .num .lss (.t 6) (.c (.int .i64 0))), none⟩, ⟨some 8, .val (.mov (.t 7)), none⟩, ⟨some 9, .val (.mov (.t 1)), (some (8, false))⟩, ⟨some 10, .call (.f 130) [(.t 9)], (some (8, false))⟩, ⟨some 11, .val (.un .not (.t 10)), (some (8, false))⟩, ⟨some 12, .val (.pick (.t 8) (.c (.bool true)) (.t 11)), none⟩]
def g154_2 : IL := [⟨some 4, .val (.mov (.c (.int .i64 0))), none⟩]
def g154_3 : IL := [⟨some 13, .val (.mov (.t 0)), none⟩, ⟨some 14, .call (.f 129) [(.t 13)], none⟩, ⟨some 15, .val (.mov (.t 1)), none⟩, ⟨some 16, .val (.bin .num .sub (.t 15) (.c (.int .i64 1))), none⟩, ⟨some 17, .val (.iaddr 9 (some 3) (.g 4 gl4) (.t 14)), none⟩, ⟨some 18, .val (.iaddr 1 (some 9) (.t 17) (.t 16)), none⟩, ⟨some 19, .val (.load none (.t 18)), none⟩, ⟨some 4, .val (.mov (.t 19)), none⟩]
def r154 : RC := .seq (.reg g154_0) (.seq (.seq (.reg g154_1) (.cond (.t 12) (.seq (.reg g154_2) (.ret)) (.skip))) (.seq (.reg g154_3) (.ret)))
def o154 : List RR := [.tmp 4]
theorem k154 : CT 154 20 r154 o154 := ck Tryz.func154 Tryz.ntmps154 (by decide +kernel)
def g155_0 : IL := [⟨some 1, .boxN 1 (.t 0), none⟩, ⟨some 2, .val (.mov (.c (.bool false))), none⟩]
def g155_1 : IL := [⟨some 3, .val (.faddr 3 (.t 1)), none⟩, ⟨some 4, .val (.load none (.t 3)), none⟩, ⟨some 5, .val (.len 1 (.t 4)), none⟩, ⟨some 6, .val (.faddr 4 (.t 1)), none⟩, ⟨some 7, .val (.load none (.t 6)), none⟩, ⟨some 8, .val (.len 1 (.t 7)), none⟩, ⟨some 9, .val (.bin .num .add (.t 5) (.t 8)), none⟩, ⟨some 10, .val (.faddr 5 (.t 1)), none⟩, ⟨some 11, .val (.load none (.t 10)), none⟩, ⟨some 12, .val (.len 1 (.t 11)), none⟩, ⟨some 13, .val (.bin .num .add (.t 9) (.t 12)), none⟩, ⟨some 14, .val (.faddr 6 (.t 1)), none⟩, ⟨some 15, .val (.load none (.t 14)), none⟩, ⟨some 16, .val (.len 1 (.t 15)), none⟩, ⟨some 17, .val (.bin .num .add (.t 13) (.t 16)), none⟩, ⟨some 18, .val (.bin .num .gtr (.t 17) (.c (.int .i64 0))), none⟩]
def g155_2 : IL := [⟨some 2, .val (.mov (.c (.bool false))), none⟩]
def g155_3 : IL := [⟨some 19, .val (.faddr 0 (.t 1)), none⟩, ⟨some 20, .val (.load none (.t 19)), none⟩, ⟨some 21, .call (.f 172) [(.t 20)], none⟩]
def g155_4 : IL := [⟨some 22, .val (.faddr 1 (.t 1)), none⟩, ⟨some 23, .val (.load none (.t 22)), none⟩, ⟨some 24, .val (.bin .num .eql (.t 23) (.c (.int .u64 0))), none⟩, ⟨some 2, .val (.mov (.t 24)), none⟩]
def g155_5 : IL := [⟨some 25, .val (.faddr 2 (.t 1)), none⟩, ⟨some 26, .val (.load none (.t 25)), none⟩, ⟨some 27, .val (.bin .str .eql (.t 26) (.c (.str []))), none⟩, ⟨some 2, .val (.mov (.t 27)), none⟩]
def r155 : RC := .seq (.reg g155_0) (.seq (.seq (.reg g155_1) (.cond (.t 18) (.seq (.reg g155_2) (.ret)) (.skip))) (.seq (.seq (.reg g155_3) (.cond (.t 21) (.seq (.reg g155_4) (.ret)) (.skip))) (.seq (.reg g155_5) (.ret))))
def o155 : List RR := [.tmp 2]
theorem k155 : CT 155 28 r155 o155 := ck Tryz.func155 Tryz.ntmps155 (by decide +kernel)
def g156_0 : IL := [⟨some 4, .val (.mov (.c (.bool false))), none⟩]
def g156_1 : IL := [⟨some 5, .val (.mov (.c (.int .u64 4294967295))), none⟩]
def g156_2 : IL := [⟨some 6, .val (.mov (.t 0)), none⟩]
def g156_3 : IL := [⟨some 8, .val (.bin .num .eql (.t 6) (.c (.int .i64 1))), none⟩, ⟨some 7, .val (.mov (.t 8)), none⟩]
def g156_4 : IL := [⟨some 10, .val (.bin .num .eql (.t 6) (.c (.int .i64 2))), none⟩, ⟨some 9, .val (.mov (.t 10)), none⟩]
def g156_5 : IL := [⟨some 12, .val (.bin .num .eql (.t 6) (.c (.int .i64 9))), none⟩, ⟨some 11, .val (.mov (.t 12)), none⟩]
def g156_6 : IL := [⟨some 14, .val (.bin .num .eql (.t 6) (.c (.int .i64 4))), none⟩, ⟨some 13, .val (.mov (.t 14)), none⟩]
def g156_7 : IL := [⟨some 15, .val (.mov (.t 1)), none⟩, ⟨some 16, .val (.bin .num .leq (.t 15) (.c (.int .u64 1))), none⟩, ⟨some 4, .val (.mov (.t 16)), none⟩]
def g156_8 : IL := [⟨some 17, .val (.mov (.t 1)), none⟩, ⟨some 18, .val (.cvi .i64 (.t 17)), none⟩, ⟨some 19, .val (.bin .num .geq (.t 18) (.c (.int .i64 (-2147483648)))), none⟩, ⟨some 20, .val (.mov (.t 19)), none⟩, ⟨some 21, .val (.mov (.t 1)), (some (20, true))⟩, ⟨some 22, .val (.cvi .i64 (.t 21)), (some (20, true))⟩, ⟨some 23, .val (.bin .num .leq (.t 22) (.c (.int .i64 2147483647))), (some (20, true))⟩, ⟨some 24, .val (.pick (.t 20) (.t 23) (.c (.bool false))), none⟩, ⟨some 4, .val (.mov (.t 24)), none⟩]
def g156_9 : IL := [⟨some 5, .val (.mov (.c (.int .u64 2147483647))), none⟩]
def g156_10 : IL := [⟨some 25, .val (.mov (.t 1)), none⟩, ⟨some 26, .val (.mov (.t 5)), none⟩, ⟨some 27, .val (.bin .num .leq (.t 25) (.t 26)), none⟩, ⟨some 4, .val (.mov (.t 27)), none⟩]
def g156_11 : IL := [⟨some 4, .val (.mov (.c (.bool true))), none⟩]
def r156 : RC := .seq (.reg g156_0) (.seq (.reg g156_1) (.seq (.seq (.reg g156_2) (.block 0 (.seq (.block 4 (.seq (.block 3 (.seq (.block 2 (.seq (.block 1 (.seq (.seq (.seq (.reg g156_3) (.cond (.t 7) (.exit 1) (.skip))) (.seq (.seq (.reg g156_4) (.cond (.t 9) (.exit 2) (.skip))) (.seq (.seq (.reg g156_5) (.cond (.t 11) (.exit 3) (.skip))) (.seq (.reg g156_6) (.cond (.t 13) (.exit 4) (.skip)))))) (.exit 0))) (.seq (.seq (.reg g156_7) (.ret)) (.exit 0)))) (.seq (.seq (.reg g156_8) (.ret)) (.exit 0)))) (.reg g156_9))) (.seq (.seq (.reg g156_10) (.ret)) (.exit 0))))) (.seq (.reg g156_11) (.ret))))
def o156 : List RR := [.tmp 4]
theorem k156 : CT 156 28 r156 o156 := ck Tryz.func156 Tryz.ntmps156 (by decide +kernel)
def g157_0 : IL := [⟨some 2, .val (.mov (.c (.bool false))), none⟩]
def g157_1 : IL := [⟨some 3, .val (.mov (.t 0)), none⟩, ⟨some 4, .val (.bin .num .eql (.t 3) (.c (.int .i64 2))), none⟩, ⟨some 5, .val (.mov (.t 4)), none⟩, ⟨some 6, .val (.mov (.t 0)), (some (5, false))⟩, ⟨some 7, .val (.bin .num .eql (.t 6) (.c (.int .i64 3))), (some (5, false))⟩, ⟨some 8, .val (.pick (.t 5) (.c (.bool true)) (.t 7)), none⟩, ⟨some 2, .val (.mov (.t 8)), none⟩]
def r157 : RC := .seq (.reg g157_0) (.seq (.reg g157_1) (.ret))
def o157 : List RR := [.tmp 2]
theorem k157 : CT 157 9 r157 o157 := ck Tryz.func157 Tryz.ntmps157 (by decide +kernel)
def g158_0 : IL := [⟨some 2, .val (.mov (.c (.int .i64 0))), none⟩]
def g158_1 : IL := [⟨some 5, .val (.mov (.t 0)), none⟩, ⟨some 6, .val (.bin .num .and (.t 5) (.c (.int .u64 9218868437227405312))), none⟩, ⟨some 7, .val (.mov (.t 0)), none⟩, ⟨some 8, .val (.bin .num .and (.t 7) (.c (.int .u64 4503599627370495))), none⟩, ⟨some 3, .val (.mov (.t 6)), none⟩, ⟨some 4, .val (.mov (.t 8)), none⟩]
def g158_2 : IL := [⟨some 10, .val (.mov (.t 3)), none⟩, ⟨some 11, .val (.bin .num .eql (.t 10) (.c (.int .u64 9218868437227405312))), none⟩, ⟨some 12, .val (.mov (.t 11)), none⟩, ⟨some 13, .val (.mov (.t 4)), (some (12, true))⟩, ⟨some 14, .val (.bin .num .neq (.t 13) (.c (.int .u64 0))), (some (12, true))⟩, ⟨some 15, .val (.pick (.t 12) (.t 14) (.c (.bool false))), none⟩, ⟨some 9, .val (.mov (.t 15)), none⟩]
def g158_3 : IL := [⟨some 2, .val (.mov (.c (.int .i64 0))), none⟩]
def g158_4 : IL := [⟨some 17, .val (.mov (.t 3)), none⟩, ⟨some 18, .val (.bin .num .eql (.t 17) (.c (.int .u64 9218868437227405312))), none⟩, ⟨some 16, .val (.mov (.t 18)), none⟩]
def g158_5 : IL := [⟨some 2, .val (.mov (.c (.int .i64 1))), none⟩]
def g158_6 : IL := [⟨some 20, .val (.mov (.t 3)), none⟩, ⟨some 21, .val (.bin .num .eql (.t 20) (.c (.int .u64 0))), none⟩, ⟨some 22, .val (.mov (.t 21)), none⟩, ⟨some 23, .val (.mov (.t 4)), (some (22, true))⟩, ⟨some 24, .val (.bin .num .eql (.t 23) (.c (.int .u64 0))), (some (22, true))⟩, ⟨some 25, .val (.pick (.t 22) (.t 24) (.c (.bool false))), none⟩, ⟨some 19, .val (.mov (.t 25)), none⟩]
def g158_7 : IL := [⟨some 2, .val (.mov (.c (.int .i64 2))), none⟩]
def g158_8 : IL := [⟨some 27, .val (.mov (.t 3)), none⟩, ⟨some 28, .val (.bin .num .eql (.t 27) (.c (.int .u64 0))), none⟩, ⟨some 26, .val (.mov (.t 28)), none⟩]
def g158_9 : IL := [⟨some 2, .val (.mov (.c (.int .i64 3))), none⟩]
def g158_10 : IL := [⟨some 2, .val (.mov (.c (.int .i64 4))), none⟩]
def r158 : RC := .seq (.reg g158_0) (.seq (.seq (.reg g158_1) (.block 0 (.seq (.reg g158_2) (.cond (.t 9) (.seq (.reg g158_3) (.ret)) (.seq (.reg g158_4) (.cond (.t 16) (.seq (.reg g158_5) (.ret)) (.seq (.reg g158_6) (.cond (.t 19) (.seq (.reg g158_7) (.ret)) (.seq (.reg g158_8) (.cond (.t 26) (.seq (.reg g158_9) (.ret)) (.skip))))))))))) (.seq (.reg g158_10) (.ret)))
def o158 : List RR := [.tmp 2]
theorem k158 : CT 158 29 r158 o158 := ck Tryz.func158 Tryz.ntmps158 (by decide +kernel)
def g159_0 : IL := [⟨some 8, .val (.mov (.c (.nils))), none⟩]
def g159_1 : IL := [⟨some 12, .val (.mov (.t 3)), none⟩, ⟨some 13, .val (.bin .num .eql (.t 12) (.c (.int .i64 0))), none⟩]
def g159_2 : IL := [⟨some 8, .val (.mov (.c (.nils))), none⟩]
def g159_3 : IL := [⟨some 14, .val (.mov (.t 1)), none⟩, ⟨some 15, .val (.bin .str .eql (.t 14) (.c (.str []))), none⟩]
def g159_4 : IL := [⟨some 16, .val (.mov (.t 0)), none⟩, ⟨some 17, .val (.mov (.t 3)), none⟩, ⟨some 18, .call (.f 173) [(.t 16), (.t 17)], none⟩, ⟨some 8, .val (.mov (.t 18)), none⟩]
def g159_5 : IL := [⟨some 19, .val (.mov (.t 3)), none⟩, ⟨some 20, .val (.bin .num .lss (.t 19) (.c (.int .i64 0))), none⟩]
def g159_6 : IL := [⟨some 21, .val (.mov (.t 0)), none⟩, ⟨some 22, .val (.mov (.t 1)), none⟩, ⟨some 23, .call (.f 174) [(.t 21), (.t 22)], none⟩, ⟨some 24, .val (.bin .num .add (.t 23) (.c (.int .i64 1))), none⟩, ⟨some 3, .val (.mov (.t 24)), none⟩]
def g159_7 : IL := [⟨some 25, .val (.mov (.t 3)), none⟩, ⟨some 26, .val (.mov (.t 0)), none⟩, ⟨some 27, .val (.len 0 (.t 26)), none⟩, ⟨some 28, .val (.bin .num .add (.t 27) (.c (.int .i64 1))), none⟩, ⟨some 29, .val (.mnx false (.t 25) (.t 28)), none⟩, ⟨some 3, .val (.mov (.t 29)), none⟩]
def g159_8 : IL := [⟨some 30, .val (.mov (.t 3)), none⟩, ⟨some 31, .mk 31 9 1 16 [.str []] (.t 30) (.t 30), none⟩, ⟨some 9, .val (.mov (.t 31)), none⟩]
def g159_9 : IL := [⟨some 32, .val (.mov (.t 3)), none⟩, ⟨some 33, .val (.bin .num .sub (.t 32) (.c (.int .i64 1))), none⟩, ⟨some 3, .val (.mov (.t 33)), none⟩]
def g159_10 : IL := [⟨some 10, .val (.mov (.c (.int .i64 0))), none⟩]
def g159_11 : IL := [⟨some 34, .val (.mov (.t 10)), none⟩, ⟨some 35, .val (.mov (.t 3)), none⟩, ⟨some 36, .val (.bin .num .lss (.t 34) (.t 35)), none⟩]
def g159_12 : IL := [⟨some 37, .val (.mov (.t 0)), none⟩, ⟨some 38, .val (.mov (.t 1)), none⟩, ⟨some 39, .call (.f 175) [(.t 37), (.t 38)], none⟩, ⟨some 11, .val (.mov (.t 39)), none⟩]
def g159_13 : IL := [⟨some 40, .val (.mov (.t 11)), none⟩, ⟨some 41, .val (.bin .num .lss (.t 40) (.c (.int .i64 0))), none⟩]
def g159_14 : IL := [⟨some 42, .val (.mov (.t 9)), none⟩, ⟨some 43, .val (.mov (.t 10)), none⟩, ⟨some 44, .val (.mov (.t 0)), none⟩, ⟨some 45, .val (.mov (.t 11)), none⟩, ⟨some 46, .val (.mov (.t 2)), none⟩, ⟨some 47, .val (.bin .num .add (.t 45) (.t 46)), none⟩, ⟨some 48, .val (.slc none (.t 44) none (some (.t 47)) none), none⟩, ⟨some 49, .val (.iaddr 1 none (.t 42) (.t 43)), none⟩, ⟨none, .store 1 (.t 49) (.t 48), none⟩]
def g159_15 : IL := [⟨some 50, .val (.mov (.t 0)), none⟩, ⟨some 51, .val (.mov (.t 11)), none⟩, ⟨some 52, .val (.mov (.t 1)), none⟩, ⟨some 53, .val (.len 0 (.t 52)), none⟩, ⟨some 54, .val (.bin .num .add (.t 51) (.t 53)), none⟩, ⟨some 55, .val (.slc none (.t 50) (some (.t 54)) none none), none⟩, ⟨some 0, .val (.mov (.t 55)), none⟩]
def g159_16 : IL := [⟨some 56, .val (.mov (.t 10)), none⟩, ⟨some 57, .val (.bin .num .add (.t 56) (.c (.int .i64 1))), none⟩, ⟨some 10, .val (.mov (.t 57)), none⟩]
def l159_0 : RC := .seq (.seq (.reg g159_11) (.cond (.t 36) (.skip) (.exit 0))) (.block 1 (.seq (.reg g159_12) (.seq (.seq (.reg g159_13) (.cond (.t 41) (.exit 0) (.skip))) (.seq (.reg g159_14) (.seq (.reg g159_15) (.reg g159_16))))))
def g159_17 : IL := [⟨some 58, .val (.mov (.t 9)), none⟩, ⟨some 59, .val (.mov (.t 10)), none⟩, ⟨some 60, .val (.mov (.t 0)), none⟩, ⟨some 61, .val (.iaddr 1 none (.t 58) (.t 59)), none⟩, ⟨none, .store 1 (.t 61) (.t 60), none⟩]
def g159_18 : IL := [⟨some 62, .val (.mov (.t 9)), none⟩, ⟨some 63, .val (.mov (.t 10)), none⟩, ⟨some 64, .val (.bin .num .add (.t 63) (.c (.int .i64 1))), none⟩, ⟨some 65, .val (.slc (some 1) (.t 62) none (some (.t 64)) none), none⟩, ⟨some 8, .val (.mov (.t 65)), none⟩]
def r159 : RC := .seq (.reg g159_0) (.seq (.seq (.reg g159_1) (.cond (.t 13) (.seq (.reg g159_2) (.ret)) (.skip))) (.seq (.seq (.reg g159_3) (.cond (.t 15) (.seq (.reg g159_4) (.ret)) (.skip))) (.seq (.seq (.reg g159_5) (.cond (.t 20) (.reg g159_6) (.skip))) (.seq (.reg g159_7) (.seq (.reg g159_8) (.seq (.reg g159_9) (.seq (.reg g159_10) (.seq (.block 0 (.loop l159_0)) (.seq (.reg g159_17) (.seq (.reg g159_18) (.ret)))))))))))
def o159 : List RR := [.tmp 8]
theorem k159 : CT 159 66 r159 o159 := ck Tryz.func159 Tryz.ntmps159 (by decide +kernel)
def g160_0 : IL := [⟨some 4, .val (.mov (.c (.bool false))), none⟩]
def g160_1 : IL := [⟨some 5, .val (.mov (.t 0)), none⟩, ⟨some 6, .val (.mov (.t 1)), none⟩, ⟨some 7, .callF (.f 176) [(.t 5), (.t 6)], none⟩, ⟨some 8, .val (.bin .num .geq (.t 7) (.c (.int .i64 0))), none⟩, ⟨some 4, .val (.mov (.t 8)), none⟩]
def r160 : RC := .seq (.reg g160_0) (.seq (.reg g160_1) (.ret))
def o160 : List RR := [.tmp 4]
theorem k160 : CT 160 9 r160 o160 := ck Tryz.func160 Tryz.ntmps160 (by decide +kernel)
def g162_0 : IL := [⟨some 2, .boxN 2 (.t 0), none⟩, ⟨some 3, .boxN 3 (.t 1), none⟩, ⟨some 4, .allocN 4 [.str [], .bool false, .nils, .nils, .nils], none⟩, ⟨some 5, .val (.mov (.c (.bool false))), none⟩]
def g162_1 : IL := [⟨some 7, .val (.faddr 1 (.t 2)), none⟩, ⟨some 8, .val (.load none (.t 7)), none⟩, ⟨some 9, .val (.mkfn (.func 177) [] [(.t 3)]), none⟩, ⟨some 10, .callF (.f 100) [(.t 8), (.t 9)], none⟩, ⟨some 6, .val (.mov (.t 10)), none⟩]
def g162_2 : IL := [⟨some 11, .val (.mov (.t 6)), none⟩, ⟨some 12, .val (.bin .num .lss (.t 11) (.c (.int .i64 0))), none⟩]
def g162_3 : IL := [⟨some 13, .val (.build [.str [], .bool false, .nils, .nils, .nils] []), none⟩, ⟨none, .store 5 (.t 4) (.t 13), none⟩, ⟨some 5, .val (.mov (.c (.bool false))), none⟩]
def g162_4 : IL := [⟨some 14, .val (.faddr 1 (.t 2)), none⟩, ⟨some 15, .val (.load none (.t 14)), none⟩, ⟨some 16, .val (.mov (.t 6)), none⟩, ⟨some 17, .val (.iaddr 5 none (.t 15) (.t 16)), none⟩, ⟨some 18, .val (.load (some 5) (.t 17)), none⟩, ⟨none, .store 5 (.t 4) (.t 18), none⟩, ⟨some 5, .val (.mov (.c (.bool true))), none⟩]
def r162 : RC := .seq (.reg g162_0) (.seq (.reg g162_1) (.seq (.seq (.reg g162_2) (.cond (.t 12) (.seq (.reg g162_3) (.ret)) (.skip))) (.seq (.reg g162_4) (.ret))))
def o162 : List RR := [.cell 4 (some 5), .tmp 5]
theorem k162 : CT 162 19 r162 o162 := ck Tryz.func162 Tryz.ntmps162 (by decide +kernel)
def g163_0 : IL := [⟨some 2, .boxN 2 (.t 0), none⟩, ⟨some 3, .val (.mov (.c (.bool false))), none⟩]
def g163_1 : IL := [⟨some 4, .val (.faddr 1 (.t 2)), none⟩, ⟨some 5, .val (.load none (.t 4)), none⟩, ⟨some 6, .val (.faddr 6 (.t 1)), none⟩, ⟨some 7, .val (.load none (.t 6)), none⟩, ⟨some 8, .val (.bin .str .eql (.t 5) (.t 7)), none⟩, ⟨some 3, .val (.mov (.t 8)), none⟩]
def r163 : RC := .seq (.reg g163_0) (.seq (.reg g163_1) (.ret))
def o163 : List RR := [.tmp 3]
theorem k163 : CT 163 9 r163 o163 := ck Tryz.func163 Tryz.ntmps163 (by decide +kernel)
def g164_0 : IL := [⟨some 2, .boxN 2 (.t 0), none⟩, ⟨some 3, .val (.mov (.c (.bool false))), none⟩]
def g164_1 : IL := [⟨some 4, .val (.faddr 6 (.t 2)), none⟩, ⟨some 5, .val (.load none (.t 4)), none⟩, ⟨some 6, .val (.faddr 6 (.t 1)), none⟩, ⟨some 7, .val (.load none (.t 6)), none⟩, ⟨some 8, .val (.bin .str .eql (.t 5) (.t 7)), none⟩, ⟨some 3, .val (.mov (.t 8)), none⟩]
def r164 : RC := .seq (.reg g164_0) (.seq (.reg g164_1) (.ret))
def o164 : List RR := [.tmp 3]
theorem k164 : CT 164 9 r164 o164 := ck Tryz.func164 Tryz.ntmps164 (by decide +kernel)
def g165_0 : IL := [⟨some 1, .boxN 1 (.t 0), none⟩, ⟨some 2, .val (.mov (.c (.bool false))), none⟩]
def g165_1 : IL := [⟨some 3, .val (.faddr 0 (.t 1)), none⟩, ⟨some 4, .val (.load none (.t 3)), none⟩, ⟨some 5, .val (.bin .num .eql (.t 4) (.c (.int .i64 0))), none⟩, ⟨some 6, .val (.mov (.t 5)), none⟩, ⟨some 7, .val (.faddr 1 (.t 1)), (some (6, true))⟩, ⟨some 8, .val (.load none (.t 7)), (some (6, true))⟩, ⟨some 9, .val (.bin .num .eql (.t 8) (.c (.int .u64 0))), (some (6, true))⟩, ⟨some 10, .val (.pick (.t 6) (.t 9) (.c (.bool false))), none⟩, ⟨some 11, .val (.mov (.t 10)), none⟩, ⟨some 12, .val (.faddr 2 (.t 1)), (some (11, true))⟩, ⟨some 13, .val (.load none (.t 12)), (some (11, true))⟩, ⟨some 14, .val (.bin .str .eql (.t 13) (.c (.str []))), (some (11, true))⟩, ⟨some 15, .val (.pick (.t 11) (.t 14) (.c (.bool false))), none⟩, ⟨some 16, .val (.mov (.t 15)), none⟩, ⟨some 17, .val (.faddr 3 (.t 1)), (some (16, true))⟩, ⟨some 18, .val (.load none (.t 17)), (some (16, true))⟩, ⟨some 19, .val (.len 1 (.t 18)), (some (16, true))⟩, ⟨some 20, .val (.faddr 4 (.t 1)), (some (16, true))⟩, ⟨some 21, .val (.load none (.t 20)), (some (16, true))⟩, ⟨some 22, .val (.len 1 (.t 21)), (some (16, true))⟩, ⟨some 23, .val (.bin .num .add (.t 19) (.t 22)), (some (16, true))⟩, ⟨some 24, .val (.faddr 5 (.t 1)), (some (16, true))⟩, ⟨some 25, .val (.load none (.t 24)), (some (16, true))⟩, ⟨some 26, .val (.len 1 (.t 25)), (some (16, true))⟩, ⟨some 27, .val (.bin .num .add (.t 23) (.t 26)), (some (16, true))⟩, ⟨some 28, .val (.faddr 6 (.t 1)), (some (16, true))⟩, ⟨some 29, .val (.load none (.t 28)), (some (16, true))⟩, ⟨some 30, .val (.len 1 (.t 29)), (some (16, true))⟩, ⟨some 31, .val (.bin .num .add (.t 27) (.t 30)), (some (16, true))⟩, ⟨some 32, .val (.bin .num .eql (.t 31) (.c (.int .i64 0))), (some (16, true))⟩, ⟨some 33, .val (.pick (.t 16) (.t 32) (.c (.bool false))), none⟩, ⟨some 2, .val (.mov (.t 33)), none⟩]
def r165 : RC := .seq (.reg g165_0) (.seq (.reg g165_1) (.ret))
def o165 : List RR := [.tmp 2]
theorem k165 : CT 165 34 r165 o165 := ck Tryz.func165 Tryz.ntmps165 (by decide +kernel)
def g166_0 : IL := [⟨some 2, .boxN 2 (.t 0), none⟩, ⟨some 3, .val (.mov (.c (.bool false))), none⟩]
def g166_1 : IL := [⟨some 4, .val (.faddr 1 (.t 2)), none⟩, ⟨some 5, .val (.load none (.t 4)), none⟩, ⟨some 6, .val (.cvi .u64 (.t 5)), none⟩, ⟨some 7, .val (.faddr 8 (.t 1)), none⟩, ⟨some 8, .val (.faddr 1 (.t 7)), none⟩, ⟨some 9, .val (.load none (.t 8)), none⟩, ⟨some 10, .val (.bin .num .eql (.t 6) (.t 9)), none⟩, ⟨some 3, .val (.mov (.t 10)), none⟩]
def r166 : RC := .seq (.reg g166_0) (.seq (.reg g166_1) (.ret))
def o166 : List RR := [.tmp 3]
theorem k166 : CT 166 11 r166 o166 := ck Tryz.func166 Tryz.ntmps166 (by decide +kernel)
def g167_0 : IL := [⟨some 6, .val (.mov (.c (.bool false))), none⟩]
def g167_1 : IL := [⟨some 7, .val (.mov (.t 2)), none⟩, ⟨some 8, .val (.bin .num .eql (.t 7) (.c (.int .i32 65533))), none⟩, ⟨some 9, .val (.mov (.t 8)), none⟩, ⟨some 10, .val (.mov (.t 0)), (some (9, true))⟩, ⟨some 11, .val (.mov (.t 1)), (some (9, true))⟩, ⟨some 12, .val (.slc none (.t 10) (some (.t 11)) none none), (some (9, true))⟩, ⟨some 13, .call (.f 178) [(.t 12), (.c (.str [239, 191, 189]))], (some (9, true))⟩, ⟨some 14, .val (.un .not (.t 13)), (some (9, true))⟩, ⟨some 15, .val (.pick (.t 9) (.t 14) (.c (.bool false))), none⟩, ⟨some 6, .val (.mov (.t 15)), none⟩]
def r167 : RC := .seq (.reg g167_0) (.seq (.reg g167_1) (.ret))
def o167 : List RR := [.tmp 6]
theorem k167 : CT 167 16 r167 o167 := ck Tryz.func167 Tryz.ntmps167 (by decide +kernel)
def g168_0 : IL := [⟨some 4, .boxN 4 (.t 0), none⟩, ⟨some 8, .val (.mov (.c (.int .i64 0))), none⟩]
def g168_1 : IL := [⟨some 12, .call (.f 179) [], none⟩, ⟨some 13, .val (.faddr 0 (.t 4)), none⟩, ⟨some 14, .val (.loadv 0 4 none (.t 13)), none⟩, ⟨some 15, .val (.mgetp true (.agg [.int .i64 0, .int .i64 0]) (.t 12) (.t 14)), none⟩, ⟨some 11, .val (.mov (.t 15)), none⟩, ⟨some 16, .val (.ext (.t 11) 0), none⟩, ⟨some 17, .val (.ext (.t 11) 1), none⟩, ⟨some 9, .allocN 9 [.int .i64 0, .int .i64 0], none⟩, ⟨none, .storev 0 9 2 (.t 9) (.t 16), none⟩, ⟨some 10, .val (.mov (.t 17)), none⟩]
def g168_2 : IL := [⟨some 19, .val (.mov (.t 10)), none⟩, ⟨some 20, .val (.un .not (.t 19)), none⟩, ⟨some 18, .val (.mov (.t 20)), none⟩]
def g168_3 : IL := [⟨some 8, .val (.mov (.c (.int .i64 8))), none⟩]
def g168_4 : IL := [⟨some 22, .val (.mov (.t 1)), none⟩, ⟨some 23, .val (.bin .num .lss (.t 22) (.c (.int .i64 1))), none⟩, ⟨some 24, .val (.mov (.t 23)), none⟩, ⟨some 25, .val (.mov (.t 1)), (some (24, false))⟩, ⟨some 26, .val (.bin .num .gtr (.t 25) (.c (.int .i64 6))), (some (24, false))⟩, ⟨some 27, .val (.pick (.t 24) (.c (.bool true)) (.t 26)), none⟩, ⟨some 28, .val (.mov (.t 27)), none⟩, ⟨some 29, .val (.faddr 1 (.t 9)), (some (28, false))⟩, ⟨some 30, .val (.load none (.t 29)), (some (28, false))⟩, ⟨some 31, .val (.mov (.t 1)), (some (28, false))⟩, ⟨some 32, .val (.bin .num .shr (.t 30) (.t 31)), (some (28, false))⟩, ⟨some 33, .val (.bin .num .and (.t 32) (.c (.int .i64 1))), (some (28, false))⟩, ⟨some 34, .val (.bin .num .eql (.t 33) (.c (.int .i64 0))), (some (28, false))⟩, ⟨some 35, .val (.pick (.t 28) (.c (.bool true)) (.t 34)), none⟩, ⟨some 21, .val (.mov (.t 35)), none⟩]
def g168_5 : IL := [⟨some 8, .val (.mov (.c (.int .i64 1))), none⟩]
def g168_6 : IL := [⟨some 37, .val (.load (some 8) (.t 4)), none⟩, ⟨some 38, .call (.f 180) [(.t 37)], none⟩, ⟨some 39, .val (.un .not (.t 38)), none⟩, ⟨some 36, .val (.mov (.t 39)), none⟩]
def g168_7 : IL := [⟨some 8, .val (.mov (.c (.int .i64 12))), none⟩]
def g168_8 : IL := [⟨some 41, .val (.mov (.t 3)), none⟩, ⟨some 42, .val (.mov (.t 41)), none⟩, ⟨some 43, .val (.faddr 0 (.t 4)), (some (42, true))⟩, ⟨some 44, .val (.load none (.t 43)), (some (42, true))⟩, ⟨some 45, .val (.mov (.t 2)), (some (42, true))⟩, ⟨some 46, .val (.bin .str .lss (.t 44) (.t 45)), (some (42, true))⟩, ⟨some 47, .val (.pick (.t 42) (.t 46) (.c (.bool false))), none⟩, ⟨some 40, .val (.mov (.t 47)), none⟩]
def g168_9 : IL := [⟨some 8, .val (.mov (.c (.int .i64 11))), none⟩]
def g168_10 : IL := [⟨some 49, .val (.mov (.t 3)), none⟩, ⟨some 50, .val (.mov (.t 49)), none⟩, ⟨some 51, .val (.faddr 0 (.t 4)), (some (50, true))⟩, ⟨some 52, .val (.load none (.t 51)), (some (50, true))⟩, ⟨some 53, .val (.mov (.t 2)), (some (50, true))⟩, ⟨some 54, .val (.bin .str .eql (.t 52) (.t 53)), (some (50, true))⟩, ⟨some 55, .val (.pick (.t 50) (.t 54) (.c (.bool false))), none⟩, ⟨some 48, .val (.mov (.t 55)), none⟩]
def g168_11 : IL := [⟨some 8, .val (.mov (.c (.int .i64 9))), none⟩]
def g168_12 : IL := [⟨some 8, .val (.mov (.c (.int .i64 0))), none⟩]
def r168 : RC := .seq (.reg g168_0) (.seq (.draw g168_1) (.seq (.block 0 (.seq (.reg g168_2) (.cond (.t 18) (.seq (.reg g168_3) (.ret)) (.seq (.reg g168_4) (.cond (.t 21) (.seq (.reg g168_5) (.ret)) (.seq (.reg g168_6) (.cond (.t 36) (.seq (.reg g168_7) (.ret)) (.seq (.reg g168_8) (.cond (.t 40) (.seq (.reg g168_9) (.ret)) (.seq (.reg g168_10) (.cond (.t 48) (.seq (.reg g168_11) (.ret)) (.skip)))))))))))) (.seq (.reg g168_12) (.ret))))
def o168 : List RR := [.tmp 8]
theorem k168 : CT 168 56 r168 o168 := ck Tryz.func168 Tryz.ntmps168 (by decide +kernel)
def g169_0 : IL := [⟨some 2, .val (.mov (.c (.int .i64 0))), none⟩]
def g169_1 : IL := [⟨some 4, .val (.mov (.t 0)), none⟩, ⟨some 5, .val (.bin .num .geq (.t 4) (.c (.int .i32 97))), none⟩, ⟨some 6, .val (.mov (.t 5)), none⟩, ⟨some 7, .val (.mov (.t 0)), (some (6, true))⟩, ⟨some 8, .val (.bin .num .leq (.t 7) (.c (.int .i32 122))), (some (6, true))⟩, ⟨some 9, .val (.pick (.t 6) (.t 8) (.c (.bool false))), none⟩, ⟨some 3, .val (.mov (.t 9)), none⟩]
def g169_2 : IL := [⟨some 2, .val (.mov (.c (.int .i64 1))), none⟩]
def g169_3 : IL := [⟨some 11, .val (.mov (.t 0)), none⟩, ⟨some 12, .val (.bin .num .geq (.t 11) (.c (.int .i32 65))), none⟩, ⟨some 13, .val (.mov (.t 12)), none⟩, ⟨some 14, .val (.mov (.t 0)), (some (13, true))⟩, ⟨some 15, .val (.bin .num .leq (.t 14) (.c (.int .i32 90))), (some (13, true))⟩, ⟨some 16, .val (.pick (.t 13) (.t 15) (.c (.bool false))), none⟩, ⟨some 10, .val (.mov (.t 16)), none⟩]
def g169_4 : IL := [⟨some 2, .val (.mov (.c (.int .i64 2))), none⟩]
def g169_5 : IL := [⟨some 18, .val (.mov (.t 0)), none⟩, ⟨some 19, .val (.bin .num .geq (.t 18) (.c (.int .i32 48))), none⟩, ⟨some 20, .val (.mov (.t 19)), none⟩, ⟨some 21, .val (.mov (.t 0)), (some (20, true))⟩, ⟨some 22, .val (.bin .num .leq (.t 21) (.c (.int .i32 57))), (some (20, true))⟩, ⟨some 23, .val (.pick (.t 20) (.t 22) (.c (.bool false))), none⟩, ⟨some 17, .val (.mov (.t 23)), none⟩]
def g169_6 : IL := [⟨some 2, .val (.mov (.c (.int .i64 3))), none⟩]
def g169_7 : IL := [⟨some 25, .val (.mov (.t 0)), none⟩, ⟨some 26, .val (.bin .num .eql (.t 25) (.c (.int .i32 95))), none⟩, ⟨some 24, .val (.mov (.t 26)), none⟩]
def g169_8 : IL := [⟨some 2, .val (.mov (.c (.int .i64 4))), none⟩]
def g169_9 : IL := [⟨some 2, .val (.mov (.c (.int .i64 0))), none⟩]
def r169 : RC := .seq (.reg g169_0) (.seq (.block 0 (.seq (.reg g169_1) (.cond (.t 3) (.seq (.reg g169_2) (.ret)) (.seq (.reg g169_3) (.cond (.t 10) (.seq (.reg g169_4) (.ret)) (.seq (.reg g169_5) (.cond (.t 17) (.seq (.reg g169_6) (.ret)) (.seq (.reg g169_7) (.cond (.t 24) (.seq (.reg g169_8) (.ret)) (.skip)))))))))) (.seq (.reg g169_9) (.ret)))
def o169 : List RR := [.tmp 2]
theorem k169 : CT 169 27 r169 o169 := ck Tryz.func169 Tryz.ntmps169 (by decide +kernel)
def g170_0 : IL := [⟨some 4, .val (.mov (.c (.int .i64 0))), none⟩]
def g170_1 : IL := [⟨some 6, .val (.mov (.t 0)), none⟩, ⟨some 7, .val (.len 1 (.t 6)), none⟩, ⟨some 8, .val (.mov (.c (.int .i64 0))), none⟩]
def g170_2 : IL := [⟨some 9, .val (.bin .num .lss (.t 8) (.t 7)), none⟩]
def g170_3 : IL := [⟨some 10, .val (.mov (.t 8)), none⟩, ⟨some 5, .val (.mov (.t 10)), none⟩]
def g170_4 : IL := [⟨some 11, .val (.mov (.t 1)), none⟩, ⟨some 12, .val (.mov (.t 0)), none⟩, ⟨some 13, .val (.mov (.t 5)), none⟩, ⟨some 14, .val (.iaddr 3 none (.t 12) (.t 13)), none⟩, ⟨some 15, .val (.load (some 3) (.t 14)), none⟩, ⟨some 16, .callF (.t 11) [(.t 15)], none⟩]
def g170_5 : IL := [⟨some 17, .val (.mov (.t 5)), none⟩, ⟨some 4, .val (.mov (.t 17)), none⟩]
def g170_6 : IL := [⟨some 18, .val (.bin .num .add (.t 8) (.c (.int .i64 1))), none⟩, ⟨some 8, .val (.mov (.t 18)), none⟩]
def l170_0 : RC := .seq (.reg g170_2) (.seq (.cond (.t 9) (.skip) (.exit 0)) (.seq (.block 1 (.seq (.reg g170_3) (.seq (.reg g170_4) (.cond (.t 16) (.seq (.reg g170_5) (.ret)) (.skip))))) (.reg g170_6)))
def g170_7 : IL := [⟨some 4, .val (.mov (.c (.int .i64 (-1)))), none⟩]
def r170 : RC := .seq (.reg g170_0) (.seq (.seq (.reg g170_1) (.block 0 (.loop l170_0))) (.seq (.reg g170_7) (.ret)))
def o170 : List RR := [.tmp 4]
theorem k170 : CT 170 19 r170 o170 := ck Tryz.func170 Tryz.ntmps170 (by decide +kernel)
def g171_0 : IL := [⟨some 4, .val (.mov (.c (.int .i64 0))), none⟩]
def g171_1 : IL := [⟨some 6, .val (.mov (.t 0)), none⟩, ⟨some 7, .val (.len 1 (.t 6)), none⟩, ⟨some 8, .val (.mov (.c (.int .i64 0))), none⟩]
def g171_2 : IL := [⟨some 9, .val (.bin .num .lss (.t 8) (.t 7)), none⟩]
def g171_3 : IL := [⟨some 10, .val (.mov (.t 8)), none⟩, ⟨some 5, .val (.mov (.t 10)), none⟩]
def g171_4 : IL := [⟨some 11, .val (.mov (.t 1)), none⟩, ⟨some 12, .val (.mov (.t 0)), none⟩, ⟨some 13, .val (.mov (.t 5)), none⟩, ⟨some 14, .val (.iaddr 2 none (.t 12) (.t 13)), none⟩, ⟨some 15, .val (.load (some 2) (.t 14)), none⟩, ⟨some 16, .callF (.t 11) [(.t 15)], none⟩]
def g171_5 : IL := [⟨some 17, .val (.mov (.t 5)), none⟩, ⟨some 4, .val (.mov (.t 17)), none⟩]
def g171_6 : IL := [⟨some 18, .val (.bin .num .add (.t 8) (.c (.int .i64 1))), none⟩, ⟨some 8, .val (.mov (.t 18)), none⟩]
def l171_0 : RC := .seq (.reg g171_2) (.seq (.cond (.t 9) (.skip) (.exit 0)) (.seq (.block 1 (.seq (.reg g171_3) (.seq (.reg g171_4) (.cond (.t 16) (.seq (.reg g171_5) (.ret)) (.skip))))) (.reg g171_6)))
def g171_7 : IL := [⟨some 4, .val (.mov (.c (.int .i64 (-1)))), none⟩]
def r171 : RC := .seq (.reg g171_0) (.seq (.seq (.reg g171_1) (.block 0 (.loop l171_0))) (.seq (.reg g171_7) (.ret)))
def o171 : List RR := [.tmp 4]
theorem k171 : CT 171 19 r171 o171 := ck Tryz.func171 Tryz.ntmps171 (by decide +kernel)
def g172_0 : IL := [⟨some 2, .val (.mov (.c (.bool false))), none⟩]
def g172_1 : IL := [⟨some 3, .val (.mov (.t 0)), none⟩, ⟨some 4, .val (.bin .num .eql (.t 3) (.c (.int .i64 7))), none⟩, ⟨some 5, .val (.mov (.t 4)), none⟩, ⟨some 6, .val (.mov (.t 0)), (some (5, false))⟩, ⟨some 7, .val (.bin .num .eql (.t 6) (.c (.int .i64 8))), (some (5, false))⟩, ⟨some 8, .val (.pick (.t 5) (.c (.bool true)) (.t 7)), none⟩, ⟨some 2, .val (.mov (.t 8)), none⟩]
def r172 : RC := .seq (.reg g172_0) (.seq (.reg g172_1) (.ret))
def o172 : List RR := [.tmp 2]
theorem k172 : CT 172 9 r172 o172 := ck Tryz.func172 Tryz.ntmps172 (by decide +kernel)
def g173_0 : IL := [⟨some 4, .val (.mov (.c (.nils))), none⟩]
def g173_1 : IL := [⟨some 10, .val (.mov (.t 0)), none⟩, ⟨some 11, .call (.f 181) [(.t 10)], none⟩, ⟨some 5, .val (.mov (.t 11)), none⟩]
def g173_2 : IL := [⟨some 12, .val (.mov (.t 1)), none⟩, ⟨some 13, .val (.bin .num .lss (.t 12) (.c (.int .i64 0))), none⟩, ⟨some 14, .val (.mov (.t 13)), none⟩, ⟨some 15, .val (.mov (.t 1)), (some (14, false))⟩, ⟨some 16, .val (.mov (.t 5)), (some (14, false))⟩, ⟨some 17, .val (.bin .num .gtr (.t 15) (.t 16)), (some (14, false))⟩, ⟨some 18, .val (.pick (.t 14) (.c (.bool true)) (.t 17)), none⟩]
def g173_3 : IL := [⟨some 19, .val (.mov (.t 5)), none⟩, ⟨some 1, .val (.mov (.t 19)), none⟩]
def g173_4 : IL := [⟨some 20, .val (.mov (.t 1)), none⟩, ⟨some 21, .mk 21 9 1 16 [.str []] (.t 20) (.t 20), none⟩, ⟨some 6, .val (.mov (.t 21)), none⟩]
def g173_5 : IL := [⟨some 7, .val (.mov (.c (.int .i64 0))), none⟩]
def g173_6 : IL := [⟨some 22, .val (.mov (.t 7)), none⟩, ⟨some 23, .val (.mov (.t 1)), none⟩, ⟨some 24, .val (.bin .num .sub (.t 23) (.c (.int .i64 1))), none⟩, ⟨some 25, .val (.bin .num .lss (.t 22) (.t 24)), none⟩]
def g173_8 : IL := [⟨some 29, .val (.mov (.t 0)), none⟩, ⟨some 30, .call (.f 182) [(.t 29)], none⟩, ⟨some 28, .val (.mov (.t 30)), none⟩, ⟨some 31, .val (.ext (.t 28) 0), none⟩, ⟨some 32, .val (.ext (.t 28) 1), none⟩, ⟨some 8, .val (.mov (.t 31)), none⟩, ⟨some 9, .val (.mov (.t 32)), none⟩]
def g173_9 : IL := [⟨some 33, .val (.mov (.t 6)), none⟩, ⟨some 34, .val (.mov (.t 7)), none⟩, ⟨some 35, .val (.mov (.t 0)), none⟩, ⟨some 36, .val (.mov (.t 9)), none⟩, ⟨some 37, .val (.slc none (.t 35) none (some (.t 36)) none), none⟩, ⟨some 38, .val (.iaddr 1 none (.t 33) (.t 34)), none⟩, ⟨none, .store 1 (.t 38) (.t 37), none⟩]
def g173_10 : IL := [⟨some 39, .val (.mov (.t 0)), none⟩, ⟨some 40, .val (.mov (.t 9)), none⟩, ⟨some 41, .val (.slc none (.t 39) (some (.t 40)) none none), none⟩, ⟨some 0, .val (.mov (.t 41)), none⟩]
def g173_7 : IL := [⟨some 26, .val (.mov (.t 7)), none⟩, ⟨some 27, .val (.bin .num .add (.t 26) (.c (.int .i64 1))), none⟩, ⟨some 7, .val (.mov (.t 27)), none⟩]
def l173_0 : RC := .seq (.seq (.reg g173_6) (.cond (.t 25) (.skip) (.exit 0))) (.seq (.block 1 (.seq (.reg g173_8) (.seq (.reg g173_9) (.reg g173_10)))) (.reg g173_7))
def g173_11 : IL := [⟨some 42, .val (.mov (.t 1)), none⟩, ⟨some 43, .val (.bin .num .gtr (.t 42) (.c (.int .i64 0))), none⟩]
def g173_12 : IL := [⟨some 44, .val (.mov (.t 6)), none⟩, ⟨some 45, .val (.mov (.t 1)), none⟩, ⟨some 46, .val (.bin .num .sub (.t 45) (.c (.int .i64 1))), none⟩, ⟨some 47, .val (.mov (.t 0)), none⟩, ⟨some 48, .val (.iaddr 1 none (.t 44) (.t 46)), none⟩, ⟨none, .store 1 (.t 48) (.t 47), none⟩]
def g173_13 : IL := [⟨some 49, .val (.mov (.t 6)), none⟩, ⟨some 4, .val (.mov (.t 49)), none⟩]
def r173 : RC := .seq (.reg g173_0) (.seq (.reg g173_1) (.seq (.seq (.reg g173_2) (.cond (.t 18) (.reg g173_3) (.skip))) (.seq (.reg g173_4) (.seq (.seq (.reg g173_5) (.block 0 (.loop l173_0))) (.seq (.seq (.reg g173_11) (.cond (.t 43) (.reg g173_12) (.skip))) (.seq (.reg g173_13) (.ret)))))))
def o173 : List RR := [.tmp 4]
theorem k173 : CT 173 50 r173 o173 := ck Tryz.func173 Tryz.ntmps173 (by decide +kernel)
def g174_0 : IL := [⟨some 4, .val (.mov (.c (.int .i64 0))), none⟩]
def g174_1 : IL := [⟨some 7, .val (.mov (.t 1)), none⟩, ⟨some 8, .val (.len 0 (.t 7)), none⟩, ⟨some 9, .val (.bin .num .eql (.t 8) (.c (.int .i64 0))), none⟩]
def g174_2 : IL := [⟨some 10, .val (.mov (.t 0)), none⟩, ⟨some 11, .call (.f 181) [(.t 10)], none⟩, ⟨some 12, .val (.bin .num .add (.t 11) (.c (.int .i64 1))), none⟩, ⟨some 4, .val (.mov (.t 12)), none⟩]
def g174_3 : IL := [⟨some 13, .val (.mov (.t 1)), none⟩, ⟨some 14, .val (.len 0 (.t 13)), none⟩, ⟨some 15, .val (.bin .num .eql (.t 14) (.c (.int .i64 1))), none⟩]
def g174_4 : IL := [⟨some 16, .val (.mov (.t 0)), none⟩, ⟨some 17, .val (.mov (.t 1)), none⟩, ⟨some 18, .val (.idx (.t 17) (.c (.int .i64 0))), none⟩, ⟨some 19, .xb true 183 (.t 16) (.t 18), none⟩, ⟨some 4, .val (.mov (.t 19)), none⟩]
def g174_5 : IL := [⟨some 5, .val (.mov (.c (.int .i64 0))), none⟩]
def g174_6 : IL := [⟨some 20, .val (.mov (.t 0)), none⟩, ⟨some 21, .val (.mov (.t 1)), none⟩, ⟨some 22, .call (.f 175) [(.t 20), (.t 21)], none⟩, ⟨some 6, .val (.mov (.t 22)), none⟩]
def g174_7 : IL := [⟨some 23, .val (.mov (.t 6)), none⟩, ⟨some 24, .val (.bin .num .eql (.t 23) (.c (.int .i64 (-1)))), none⟩]
def g174_8 : IL := [⟨some 25, .val (.mov (.t 5)), none⟩, ⟨some 4, .val (.mov (.t 25)), none⟩]
def g174_9 : IL := [⟨some 26, .val (.mov (.t 5)), none⟩, ⟨some 27, .val (.bin .num .add (.t 26) (.c (.int .i64 1))), none⟩, ⟨some 5, .val (.mov (.t 27)), none⟩]
def g174_10 : IL := [⟨some 28, .val (.mov (.t 0)), none⟩, ⟨some 29, .val (.mov (.t 6)), none⟩, ⟨some 30, .val (.mov (.t 1)), none⟩, ⟨some 31, .val (.len 0 (.t 30)), none⟩, ⟨some 32, .val (.bin .num .add (.t 29) (.t 31)), none⟩, ⟨some 33, .val (.slc none (.t 28) (some (.t 32)) none none), none⟩, ⟨some 0, .val (.mov (.t 33)), none⟩]
def l174_0 : RC := .block 1 (.seq (.reg g174_6) (.seq (.seq (.reg g174_7) (.cond (.t 24) (.seq (.reg g174_8) (.ret)) (.skip))) (.seq (.reg g174_9) (.reg g174_10))))
def r174 : RC := .seq (.reg g174_0) (.seq (.seq (.reg g174_1) (.cond (.t 9) (.seq (.reg g174_2) (.ret)) (.skip))) (.seq (.seq (.reg g174_3) (.cond (.t 15) (.seq (.reg g174_4) (.ret)) (.skip))) (.seq (.reg g174_5) (.block 0 (.loop l174_0)))))
def o174 : List RR := [.tmp 4]
theorem k174 : CT 174 34 r174 o174 := ck Tryz.func174 Tryz.ntmps174 (by decide +kernel)
def g175_0 : IL := [⟨some 4, .val (.mov (.c (.int .i64 0))), none⟩]
def g175_1 : IL := [⟨some 5, .val (.mov (.t 0)), none⟩, ⟨some 6, .val (.mov (.t 1)), none⟩, ⟨some 7, .call (.f 184) [(.t 5), (.t 6)], none⟩, ⟨some 4, .val (.mov (.t 7)), none⟩]
def r175 : RC := .seq (.reg g175_0) (.seq (.reg g175_1) (.ret))
def o175 : List RR := [.tmp 4]
theorem k175 : CT 175 8 r175 o175 := ck Tryz.func175 Tryz.ntmps175 (by decide +kernel)
def g176_0 : IL := [⟨some 4, .val (.mov (.c (.int .i64 0))), none⟩]
def g176_1 : IL := [⟨some 6, .val (.mov (.t 0)), none⟩, ⟨some 7, .val (.len 1 (.t 6)), none⟩, ⟨some 8, .val (.mov (.c (.int .i64 0))), none⟩]
def g176_2 : IL := [⟨some 9, .val (.bin .num .lss (.t 8) (.t 7)), none⟩]
def g176_3 : IL := [⟨some 10, .val (.mov (.t 8)), none⟩, ⟨some 5, .val (.mov (.t 10)), none⟩]
def g176_4 : IL := [⟨some 11, .val (.mov (.t 1)), none⟩, ⟨some 12, .val (.mov (.t 0)), none⟩, ⟨some 13, .val (.mov (.t 5)), none⟩, ⟨some 14, .val (.iaddr 16 none (.t 12) (.t 13)), none⟩, ⟨some 15, .val (.load (some 16) (.t 14)), none⟩, ⟨some 16, .callF (.t 11) [(.t 15)], none⟩]
def g176_5 : IL := [⟨some 17, .val (.mov (.t 5)), none⟩, ⟨some 4, .val (.mov (.t 17)), none⟩]
def g176_6 : IL := [⟨some 18, .val (.bin .num .add (.t 8) (.c (.int .i64 1))), none⟩, ⟨some 8, .val (.mov (.t 18)), none⟩]
def l176_0 : RC := .seq (.reg g176_2) (.seq (.cond (.t 9) (.skip) (.exit 0)) (.seq (.block 1 (.seq (.reg g176_3) (.seq (.reg g176_4) (.cond (.t 16) (.seq (.reg g176_5) (.ret)) (.skip))))) (.reg g176_6)))
def g176_7 : IL := [⟨some 4, .val (.mov (.c (.int .i64 (-1)))), none⟩]
def r176 : RC := .seq (.reg g176_0) (.seq (.seq (.reg g176_1) (.block 0 (.loop l176_0))) (.seq (.reg g176_7) (.ret)))
def o176 : List RR := [.tmp 4]
theorem k176 : CT 176 19 r176 o176 := ck Tryz.func176 Tryz.ntmps176 (by decide +kernel)
def g177_0 : IL := [⟨some 2, .boxN 2 (.t 0), none⟩, ⟨some 3, .val (.mov (.c (.bool false))), none⟩]
def g177_1 : IL := [⟨some 4, .val (.faddr 0 (.t 2)), none⟩, ⟨some 5, .val (.load none (.t 4)), none⟩, ⟨some 6, .val (.load none (.t 1)), none⟩, ⟨some 7, .val (.bin .str .eql (.t 5) (.t 6)), none⟩, ⟨some 3, .val (.mov (.t 7)), none⟩]
def r177 : RC := .seq (.reg g177_0) (.seq (.reg g177_1) (.ret))
def o177 : List RR := [.tmp 3]
theorem k177 : CT 177 8 r177 o177 := ck Tryz.func177 Tryz.ntmps177 (by decide +kernel)
def g178_0 : IL := [⟨some 4, .val (.mov (.c (.bool false))), none⟩]
def g178_1 : IL := [⟨some 5, .val (.mov (.t 0)), none⟩, ⟨some 6, .val (.mov (.t 1)), none⟩, ⟨some 7, .call (.f 185) [(.t 5), (.t 6)], none⟩, ⟨some 4, .val (.mov (.t 7)), none⟩]
def r178 : RC := .seq (.reg g178_0) (.seq (.reg g178_1) (.ret))
def o178 : List RR := [.tmp 4]
theorem k178 : CT 178 8 r178 o178 := ck Tryz.func178 Tryz.ntmps178 (by decide +kernel)
def g179_0 : IL := [⟨some 0, .val (.mov (.c (.nilm))), none⟩]
def g179_1 : IL := [⟨some 1, .mkm 1, none⟩, ⟨some 2, .val (.build [.int .i64 0, .int .i64 0] [(0, 1, (.c (.int .i64 1))), (1, 1, (.c (.int .i64 126)))]), none⟩, ⟨none, .mput (.t 1) (.c (.str [100, 101, 112, 114, 101, 99, 97, 116, 101, 100])) (.t 2), none⟩, ⟨some 3, .val (.build [.int .i64 0, .int .i64 0] [(0, 1, (.c (.int .i64 7))), (1, 1, (.c (.int .i64 126)))]), none⟩, ⟨none, .mput (.t 1) (.c (.str [100, 111, 99])) (.t 3), none⟩, ⟨some 4, .val (.build [.int .i64 0, .int .i64 0] [(0, 1, (.c (.int .i64 7))), (1, 1, (.c (.int .i64 84)))]), none⟩, ⟨none, .mput (.t 1) (.c (.str [97, 108, 105, 97, 115])) (.t 4), none⟩, ⟨some 5, .val (.build [.int .i64 0, .int .i64 0] [(0, 1, (.c (.int .i64 4))), (1, 1, (.c (.int .i64 84)))]), none⟩, ⟨none, .mput (.t 1) (.c (.str [115, 105, 110, 99, 101])) (.t 5), none⟩, ⟨some 6, .val (.build [.int .i64 0, .int .i64 0] [(0, 1, (.c (.int .i64 4))), (1, 1, (.c (.int .i64 84)))]), none⟩, ⟨none, .mput (.t 1) (.c (.str [117, 110, 116, 105, 108])) (.t 6), none⟩, ⟨some 7, .val (.build [.int .i64 0, .int .i64 0] [(0, 1, (.c (.int .i64 3))), (1, 1, (.c (.int .i64 4)))]), none⟩, ⟨none, .mput (.t 1) (.c (.str [109, 105, 110])) (.t 7), none⟩, ⟨some 8, .val (.build [.int .i64 0, .int .i64 0] [(0, 1, (.c (.int .i64 3))), (1, 1, (.c (.int .i64 4)))]), none⟩, ⟨none, .mput (.t 1) (.c (.str [109, 97, 120])) (.t 8), none⟩, ⟨some 9, .val (.build [.int .i64 0, .int .i64 0] [(0, 1, (.c (.int .i64 4))), (1, 1, (.c (.int .i64 4)))]), none⟩, ⟨none, .mput (.t 1) (.c (.str [108, 101, 110, 103, 116, 104])) (.t 9), none⟩, ⟨some 10, .val (.build [.int .i64 0, .int .i64 0] [(0, 1, (.c (.int .i64 1))), (1, 1, (.c (.int .i64 4)))]), none⟩, ⟨none, .mput (.t 1) (.c (.str [115, 101, 99, 114, 101, 116])) (.t 10), none⟩, ⟨some 11, .val (.build [.int .i64 0, .int .i64 0] [(0, 1, (.c (.int .i64 1))), (1, 1, (.c (.int .i64 64)))]), none⟩, ⟨none, .mput (.t 1) (.c (.str [105, 100, 101, 109, 112, 111, 116, 101, 110, 116])) (.t 11), none⟩, ⟨some 12, .val (.build [.int .i64 0, .int .i64 0] [(0, 1, (.c (.int .i64 4))), (1, 1, (.c (.int .i64 64)))]), none⟩, ⟨none, .mput (.t 1) (.c (.str [116, 105, 109, 101, 111, 117, 116])) (.t 12), none⟩, ⟨some 13, .val (.build [.int .i64 0, .int .i64 0] [(0, 1, (.c (.int .i64 7))), (1, 1, (.c (.int .i64 64)))]), none⟩, ⟨none, .mput (.t 1) (.c (.str [114, 111, 117, 116, 101])) (.t 13), none⟩, ⟨some 14, .val (.build [.int .i64 0, .int .i64 0] [(0, 1, (.c (.int .i64 7))), (1, 1, (.c (.int .i64 34)))]), none⟩, ⟨none, .mput (.t 1) (.c (.str [111, 119, 110, 101, 114])) (.t 14), none⟩, ⟨some 15, .val (.mov (.t 1)), none⟩, ⟨some 0, .val (.mov (.t 15)), none⟩]
def r179 : RC := .seq (.reg g179_0) (.seq (.reg g179_1) (.ret))
def o179 : List RR := [.tmp 0]
theorem k179 : CT 179 16 r179 o179 := ck Tryz.func179 Tryz.ntmps179 (by decide +kernel)
def g180_0 : IL := [⟨some 1, .boxN 1 (.t 0), none⟩, ⟨some 2, .val (.mov (.c (.bool false))), none⟩]
def g180_1 : IL := [⟨some 4, .val (.faddr 0 (.t 1)), none⟩, ⟨some 5, .val (.load none (.t 4)), none⟩, ⟨some 6, .call (.f 186) [(.t 5)], none⟩, ⟨some 3, .val (.mov (.t 6)), none⟩]
def g180_2 : IL := [⟨some 7, .val (.mov (.t 3)), none⟩, ⟨some 8, .val (.bin .num .neq (.t 7) (.c (.int .i64 0))), none⟩, ⟨some 9, .val (.mov (.t 8)), none⟩, ⟨some 10, .val (.mov (.t 3)), (some (9, true))⟩, ⟨some 11, .val (.faddr 1 (.t 1)), (some (9, true))⟩, ⟨some 12, .val (.load (some 7) (.t 11)), (some (9, true))⟩, ⟨some 13, .call (.f 132) [(.t 10), (.t 12)], (some (9, true))⟩, ⟨some 14, .val (.pick (.t 9) (.t 13) (.c (.bool false))), none⟩, ⟨some 2, .val (.mov (.t 14)), none⟩]
def r180 : RC := .seq (.reg g180_0) (.seq (.reg g180_1) (.seq (.reg g180_2) (.ret)))
def o180 : List RR := [.tmp 2]
theorem k180 : CT 180 15 r180 o180 := ck Tryz.func180 Tryz.ntmps180 (by decide +kernel)
def g181_0 : IL := [⟨some 2, .val (.mov (.c (.int .i64 0))), none⟩]
def g181_1 : IL := [⟨some 3, .val (.mov (.t 0)), none⟩, ⟨some 4, .rngs 4 (.t 3), none⟩]
def g181_2 : IL := [⟨some 5, .nxts (.t 4), none⟩, ⟨some 6, .val (.ext (.t 5) 0), none⟩]
def g181_3 : IL := [⟨some 7, .val (.mov (.t 2)), none⟩, ⟨some 8, .val (.bin .num .add (.t 7) (.c (.int .i64 1))), none⟩, ⟨some 2, .val (.mov (.t 8)), none⟩]
def l181_0 : RC := .seq (.reg g181_2) (.seq (.cond (.t 6) (.skip) (.exit 0)) (.block 1 (.reg g181_3)))
def g181_4 : IL := [⟨some 9, .val (.mov (.t 2)), none⟩, ⟨some 2, .val (.mov (.t 9)), none⟩]
def r181 : RC := .seq (.reg g181_0) (.seq (.seq (.reg g181_1) (.block 0 (.loop l181_0))) (.seq (.reg g181_4) (.ret)))
def o181 : List RR := [.tmp 2]
theorem k181 : CT 181 10 r181 o181 := ck Tryz.func181 Tryz.ntmps181 (by decide +kernel)
def g182_0 : IL := [⟨some 2, .val (.mov (.c (.int .i32 0))), none⟩, ⟨some 3, .val (.mov (.c (.int .i64 0))), none⟩]
def g182_1 : IL := [⟨some 4, .val (.mov (.t 0)), none⟩, ⟨some 5, .val (.bin .str .neq (.t 4) (.c (.str []))), none⟩, ⟨some 6, .val (.mov (.t 5)), none⟩, ⟨some 7, .val (.mov (.t 0)), (some (6, true))⟩, ⟨some 8, .val (.idx (.t 7) (.c (.int .i64 0))), (some (6, true))⟩, ⟨some 9, .val (.bin .num .lss (.t 8) (.c (.int .u8 128))), (some (6, true))⟩, ⟨some 10, .val (.pick (.t 6) (.t 9) (.c (.bool false))), none⟩]
def g182_2 : IL := [⟨some 11, .val (.mov (.t 0)), none⟩, ⟨some 12, .val (.idx (.t 11) (.c (.int .i64 0))), none⟩, ⟨some 13, .val (.cvi .i32 (.t 12)), none⟩, ⟨some 2, .val (.mov (.t 13)), none⟩, ⟨some 3, .val (.mov (.c (.int .i64 1))), none⟩]
def g182_3 : IL := [⟨some 15, .val (.mov (.t 0)), none⟩, ⟨some 16, .call (.f 187) [(.t 15)], none⟩, ⟨some 14, .val (.mov (.t 16)), none⟩, ⟨some 17, .val (.ext (.t 14) 0), none⟩, ⟨some 18, .val (.ext (.t 14) 1), none⟩, ⟨some 2, .val (.mov (.t 17)), none⟩, ⟨some 3, .val (.mov (.t 18)), none⟩]
def r182 : RC := .seq (.reg g182_0) (.seq (.seq (.reg g182_1) (.cond (.t 10) (.seq (.reg g182_2) (.ret)) (.reg g182_3))) (.ret))
def o182 : List RR := [.tmp 2, .tmp 3]
theorem k182 : CT 182 19 r182 o182 := ck Tryz.func182 Tryz.ntmps182 (by decide +kernel)
def g184_0 : IL := [⟨some 4, .val (.mov (.c (.int .i64 0))), none⟩]
def g184_1 : IL := [⟨some 14, .val (.mov (.t 1)), none⟩, ⟨some 15, .val (.len 0 (.t 14)), none⟩, ⟨some 5, .val (.mov (.t 15)), none⟩]
def g184_2 : IL := [⟨some 17, .val (.mov (.t 5)), none⟩, ⟨some 18, .val (.bin .num .eql (.t 17) (.c (.int .i64 0))), none⟩, ⟨some 19, .val (.mov (.t 18)), none⟩, ⟨some 20, .val (.mov (.t 1)), (some (19, false))⟩, ⟨some 21, .val (.mov (.t 0)), (some (19, false))⟩, ⟨some 22, .val (.bin .str .eql (.t 20) (.t 21)), (some (19, false))⟩, ⟨some 23, .val (.pick (.t 19) (.c (.bool true)) (.t 22)), none⟩, ⟨some 16, .val (.mov (.t 23)), none⟩]
def g184_3 : IL := [⟨some 4, .val (.mov (.c (.int .i64 0))), none⟩]
def g184_4 : IL := [⟨some 25, .val (.mov (.t 5)), none⟩, ⟨some 26, .val (.bin .num .eql (.t 25) (.c (.int .i64 1))), none⟩, ⟨some 24, .val (.mov (.t 26)), none⟩]
def g184_5 : IL := [⟨some 27, .val (.mov (.t 0)), none⟩, ⟨some 28, .val (.mov (.t 1)), none⟩, ⟨some 29, .val (.idx (.t 28) (.c (.int .i64 0))), none⟩, ⟨some 30, .call (.f 188) [(.t 27), (.t 29)], none⟩, ⟨some 4, .val (.mov (.t 30)), none⟩]
def g184_6 : IL := [⟨some 32, .val (.mov (.t 5)), none⟩, ⟨some 33, .val (.mov (.t 0)), none⟩, ⟨some 34, .val (.len 0 (.t 33)), none⟩, ⟨some 35, .val (.bin .num .geq (.t 32) (.t 34)), none⟩, ⟨some 31, .val (.mov (.t 35)), none⟩]
def g184_7 : IL := [⟨some 4, .val (.mov (.c (.int .i64 (-1)))), none⟩]
def g184_9 : IL := [⟨some 45, .val (.mov (.t 0)), none⟩, ⟨some 46, .val (.mov (.t 1)), none⟩, ⟨some 47, .call (.f 189) [(.t 45), (.t 46)], none⟩, ⟨some 4, .val (.mov (.t 47)), none⟩]
def g184_10 : IL := [⟨some 48, .val (.mov (.t 1)), none⟩, ⟨some 49, .val (.idx (.t 48) (.c (.int .i64 0))), none⟩, ⟨some 6, .val (.mov (.t 49)), none⟩]
def g184_11 : IL := [⟨some 50, .val (.mov (.t 1)), none⟩, ⟨some 51, .val (.idx (.t 50) (.c (.int .i64 1))), none⟩, ⟨some 7, .val (.mov (.t 51)), none⟩]
def g184_12 : IL := [⟨some 8, .val (.mov (.c (.int .i64 0))), none⟩]
def g184_13 : IL := [⟨some 52, .val (.mov (.t 0)), none⟩, ⟨some 53, .val (.len 0 (.t 52)), none⟩, ⟨some 54, .val (.mov (.t 5)), none⟩, ⟨some 55, .val (.bin .num .sub (.t 53) (.t 54)), none⟩, ⟨some 56, .val (.bin .num .add (.t 55) (.c (.int .i64 1))), none⟩, ⟨some 9, .val (.mov (.t 56)), none⟩]
def g184_14 : IL := [⟨some 10, .val (.mov (.c (.int .i64 0))), none⟩]
def g184_15 : IL := [⟨some 57, .val (.mov (.t 8)), none⟩, ⟨some 58, .val (.mov (.t 9)), none⟩, ⟨some 59, .val (.bin .num .lss (.t 57) (.t 58)), none⟩]
def g184_16 : IL := [⟨some 60, .val (.mov (.t 0)), none⟩, ⟨some 61, .val (.mov (.t 8)), none⟩, ⟨some 62, .val (.idx (.t 60) (.t 61)), none⟩, ⟨some 63, .val (.mov (.t 6)), none⟩, ⟨some 64, .val (.bin .num .neq (.t 62) (.t 63)), none⟩]
def g184_17 : IL := [⟨some 65, .val (.mov (.t 0)), none⟩, ⟨some 66, .val (.mov (.t 8)), none⟩, ⟨some 67, .val (.bin .num .add (.t 66) (.c (.int .i64 1))), none⟩, ⟨some 68, .val (.mov (.t 9)), none⟩, ⟨some 69, .val (.slc none (.t 65) (some (.t 67)) (some (.t 68)) none), none⟩, ⟨some 70, .val (.mov (.t 6)), none⟩, ⟨some 71, .call (.f 188) [(.t 69), (.t 70)], none⟩, ⟨some 11, .val (.mov (.t 71)), none⟩]
def g184_18 : IL := [⟨some 72, .val (.mov (.t 11)), none⟩, ⟨some 73, .val (.bin .num .lss (.t 72) (.c (.int .i64 0))), none⟩]
def g184_19 : IL := [⟨some 4, .val (.mov (.c (.int .i64 (-1)))), none⟩]
def g184_20 : IL := [⟨some 74, .val (.mov (.t 8)), none⟩, ⟨some 75, .val (.mov (.t 11)), none⟩, ⟨some 76, .val (.bin .num .add (.t 75) (.c (.int .i64 1))), none⟩, ⟨some 77, .val (.bin .num .add (.t 74) (.t 76)), none⟩, ⟨some 8, .val (.mov (.t 77)), none⟩]
def g184_21 : IL := [⟨some 78, .val (.mov (.t 0)), none⟩, ⟨some 79, .val (.mov (.t 8)), none⟩, ⟨some 80, .val (.bin .num .add (.t 79) (.c (.int .i64 1))), none⟩, ⟨some 81, .val (.idx (.t 78) (.t 80)), none⟩, ⟨some 82, .val (.mov (.t 7)), none⟩, ⟨some 83, .val (.bin .num .eql (.t 81) (.t 82)), none⟩, ⟨some 84, .val (.mov (.t 83)), none⟩, ⟨some 85, .val (.mov (.t 0)), (some (84, true))⟩, ⟨some 86, .val (.mov (.t 8)), (some (84, true))⟩, ⟨some 87, .val (.mov (.t 8)), (some (84, true))⟩, ⟨some 88, .val (.mov (.t 5)), (some (84, true))⟩, ⟨some 89, .val (.bin .num .add (.t 87) (.t 88)), (some (84, true))⟩, ⟨some 90, .val (.slc none (.t 85) (some (.t 86)) (some (.t 89)) none), (some (84, true))⟩, ⟨some 91, .val (.mov (.t 1)), (some (84, true))⟩, ⟨some 92, .val (.bin .str .eql (.t 90) (.t 91)), (some (84, true))⟩, ⟨some 93, .val (.pick (.t 84) (.t 92) (.c (.bool false))), none⟩]
def g184_22 : IL := [⟨some 94, .val (.mov (.t 8)), none⟩, ⟨some 4, .val (.mov (.t 94)), none⟩]
def g184_23 : IL := [⟨some 95, .val (.mov (.t 8)), none⟩, ⟨some 96, .val (.bin .num .add (.t 95) (.c (.int .i64 1))), none⟩, ⟨some 8, .val (.mov (.t 96)), none⟩]
def g184_24 : IL := [⟨some 97, .val (.mov (.t 10)), none⟩, ⟨some 98, .val (.bin .num .add (.t 97) (.c (.int .i64 1))), none⟩, ⟨some 10, .val (.mov (.t 98)), none⟩]
def g184_26 : IL := [⟨some 108, .val (.mov (.t 0)), none⟩, ⟨some 109, .val (.mov (.t 8)), none⟩, ⟨some 110, .val (.slc none (.t 108) (some (.t 109)) none none), none⟩, ⟨some 111, .val (.mov (.t 1)), none⟩, ⟨some 112, .call (.f 189) [(.t 110), (.t 111)], none⟩, ⟨some 12, .val (.mov (.t 112)), none⟩]
def g184_27 : IL := [⟨some 113, .val (.mov (.t 12)), none⟩, ⟨some 114, .val (.bin .num .geq (.t 113) (.c (.int .i64 0))), none⟩]
def g184_28 : IL := [⟨some 115, .val (.mov (.t 12)), none⟩, ⟨some 116, .val (.mov (.t 8)), none⟩, ⟨some 117, .val (.bin .num .add (.t 115) (.t 116)), none⟩, ⟨some 4, .val (.mov (.t 117)), none⟩]
def g184_29 : IL := [⟨some 4, .val (.mov (.c (.int .i64 (-1)))), none⟩]
def g184_31 : IL := [⟨some 133, .val (.mov (.t 0)), none⟩, ⟨some 134, .val (.mov (.t 8)), none⟩, ⟨some 135, .val (.slc none (.t 133) (some (.t 134)) none none), none⟩, ⟨some 136, .val (.mov (.t 1)), none⟩, ⟨some 137, .call (.f 191) [(.t 135), (.t 136)], none⟩, ⟨some 13, .val (.mov (.t 137)), none⟩]
def g184_32 : IL := [⟨some 138, .val (.mov (.t 13)), none⟩, ⟨some 139, .val (.bin .num .lss (.t 138) (.c (.int .i64 0))), none⟩]
def g184_33 : IL := [⟨some 4, .val (.mov (.c (.int .i64 (-1)))), none⟩]
def g184_34 : IL := [⟨some 140, .val (.mov (.t 8)), none⟩, ⟨some 141, .val (.mov (.t 13)), none⟩, ⟨some 142, .val (.bin .num .add (.t 140) (.t 141)), none⟩, ⟨some 4, .val (.mov (.t 142)), none⟩]
def l184_0 : RC := .seq (.seq (.reg g184_15) (.cond (.t 59) (.skip) (.exit 1))) (.block 2 (.seq (.seq (.reg g184_16) (.cond (.t 64) (.seq (.reg g184_17) (.seq (.seq (.reg g184_18) (.cond (.t 73) (.seq (.reg g184_19) (.ret)) (.skip))) (.reg g184_20))) (.skip))) (.seq (.seq (.reg g184_21) (.cond (.t 93) (.seq (.reg g184_22) (.ret)) (.skip))) (.seq (.reg g184_23) (.seq (.reg g184_24) (.seq (.no) (.cond (.t 107) (.seq (.reg g184_26) (.seq (.seq (.reg g184_27) (.cond (.t 114) (.seq (.reg g184_28) (.ret)) (.skip))) (.seq (.reg g184_29) (.ret)))) (.seq (.no) (.cond (.t 132) (.seq (.reg g184_31) (.seq (.seq (.reg g184_32) (.cond (.t 139) (.seq (.reg g184_33) (.ret)) (.skip))) (.seq (.reg g184_34) (.ret)))) (.skip))))))))))
def g184_35 : IL := [⟨some 4, .val (.mov (.c (.int .i64 (-1)))), none⟩]
def r184 : RC := .seq (.reg g184_0) (.seq (.reg g184_1) (.seq (.block 0 (.seq (.reg g184_2) (.cond (.t 16) (.seq (.reg g184_3) (.ret)) (.seq (.reg g184_4) (.cond (.t 24) (.seq (.reg g184_5) (.ret)) (.seq (.reg g184_6) (.cond (.t 31) (.seq (.reg g184_7) (.ret)) (.seq (.no) (.cond (.t 36) (.seq (.reg g184_9) (.ret)) (.skip)))))))))) (.seq (.reg g184_10) (.seq (.reg g184_11) (.seq (.reg g184_12) (.seq (.reg g184_13) (.seq (.reg g184_14) (.seq (.block 1 (.loop l184_0)) (.seq (.reg g184_35) (.ret))))))))))
def o184 : List RR := [.tmp 4]
theorem k184 : CT 184 143 r184 o184 := ck Tryz.func184 Tryz.ntmps184 (by decide +kernel)
def g185_0 : IL := [⟨some 4, .val (.mov (.c (.bool false))), none⟩]
def g185_1 : IL := [⟨some 5, .val (.mov (.t 0)), none⟩, ⟨some 6, .val (.len 0 (.t 5)), none⟩, ⟨some 7, .val (.mov (.t 1)), none⟩, ⟨some 8, .val (.len 0 (.t 7)), none⟩, ⟨some 9, .val (.bin .num .geq (.t 6) (.t 8)), none⟩, ⟨some 10, .val (.mov (.t 9)), none⟩, ⟨some 11, .val (.mov (.t 0)), (some (10, true))⟩, ⟨some 12, .val (.mov (.t 1)), (some (10, true))⟩, ⟨some 13, .val (.len 0 (.t 12)), (some (10, true))⟩, ⟨some 14, .val (.slc none (.t 11) none (some (.t 13)) none), (some (10, true))⟩, ⟨some 15, .val (.mov (.t 1)), (some (10, true))⟩, ⟨some 16, .val (.bin .str .eql (.t 14) (.t 15)), (some (10, true))⟩, ⟨some 17, .val (.pick (.t 10) (.t 16) (.c (.bool false))), none⟩, ⟨some 4, .val (.mov (.t 17)), none⟩]
def r185 : RC := .seq (.reg g185_0) (.seq (.reg g185_1) (.ret))
def o185 : List RR := [.tmp 4]
theorem k185 : CT 185 18 r185 o185 := ck Tryz.func185 Tryz.ntmps185 (by decide +kernel)
def g186_0 : IL := [⟨some 2, .val (.mov (.c (.int .i64 0))), none⟩]
def g186_1 : IL := [⟨some 3, .call (.f 179) [], none⟩, ⟨some 4, .val (.mov (.t 0)), none⟩, ⟨some 5, .val (.mget false (.agg [.int .i64 0, .int .i64 0]) (.t 3) (.t 4)), none⟩, ⟨some 6, .val (.fld 0 none (.t 5)), none⟩, ⟨some 2, .val (.mov (.t 6)), none⟩]
def r186 : RC := .seq (.reg g186_0) (.seq (.reg g186_1) (.ret))
def o186 : List RR := [.tmp 2]
theorem k186 : CT 186 7 r186 o186 := ck Tryz.func186 Tryz.ntmps186 (by decide +kernel)
def g187_0 : IL := [⟨some 2, .val (.mov (.c (.int .i32 0))), none⟩, ⟨some 3, .val (.mov (.c (.int .i64 0))), none⟩]
def g187_1 : IL := [⟨some 13, .val (.mov (.t 0)), none⟩, ⟨some 14, .val (.len 0 (.t 13)), none⟩, ⟨some 4, .val (.mov (.t 14)), none⟩]
def g187_2 : IL := [⟨some 15, .val (.mov (.t 4)), none⟩, ⟨some 16, .val (.bin .num .lss (.t 15) (.c (.int .i64 1))), none⟩]
def g187_3 : IL := [⟨some 2, .val (.mov (.c (.int .i32 65533))), none⟩, ⟨some 3, .val (.mov (.c (.int .i64 0))), none⟩]
def g187_4 : IL := [⟨some 17, .val (.mov (.t 0)), none⟩, ⟨some 18, .val (.idx (.t 17) (.c (.int .i64 0))), none⟩, ⟨some 5, .val (.mov (.t 18)), none⟩]
def g187_6 : IL := [⟨some 22, .val (.mov (.t 6)), none⟩, ⟨some 23, .val (.bin .num .geq (.t 22) (.c (.int .u8 240))), none⟩]
def g187_7 : IL := [⟨some 24, .val (.mov (.t 6)), none⟩, ⟨some 25, .val (.cvi .i32 (.t 24)), none⟩, ⟨some 26, .val (.bin .num .shl (.t 25) (.c (.int .u64 31))), none⟩, ⟨some 27, .val (.bin .num .shr (.t 26) (.c (.int .u64 31))), none⟩, ⟨some 7, .val (.mov (.t 27)), none⟩]
def g187_8 : IL := [⟨some 28, .val (.mov (.t 0)), none⟩, ⟨some 29, .val (.idx (.t 28) (.c (.int .i64 0))), none⟩, ⟨some 30, .val (.cvi .i32 (.t 29)), none⟩, ⟨some 31, .val (.mov (.t 7)), none⟩, ⟨some 32, .val (.bin .num .andNot (.t 30) (.t 31)), none⟩, ⟨some 33, .val (.mov (.t 7)), none⟩, ⟨some 34, .val (.bin .num .and (.c (.int .i32 65533)) (.t 33)), none⟩, ⟨some 35, .val (.bin .num .or (.t 32) (.t 34)), none⟩, ⟨some 2, .val (.mov (.t 35)), none⟩, ⟨some 3, .val (.mov (.c (.int .i64 1))), none⟩]
def g187_9 : IL := [⟨some 36, .val (.mov (.t 6)), none⟩, ⟨some 37, .val (.bin .num .and (.t 36) (.c (.int .u8 7))), none⟩, ⟨some 38, .val (.cvi .i64 (.t 37)), none⟩, ⟨some 8, .val (.mov (.t 38)), none⟩]
def g187_11 : IL := [⟨some 43, .val (.mov (.t 4)), none⟩, ⟨some 44, .val (.mov (.t 8)), none⟩, ⟨some 45, .val (.bin .num .lss (.t 43) (.t 44)), none⟩]
def g187_12 : IL := [⟨some 2, .val (.mov (.c (.int .i32 65533))), none⟩, ⟨some 3, .val (.mov (.c (.int .i64 1))), none⟩]
def g187_13 : IL := [⟨some 46, .val (.mov (.t 0)), none⟩, ⟨some 47, .val (.idx (.t 46) (.c (.int .i64 1))), none⟩, ⟨some 10, .val (.mov (.t 47)), none⟩]
def g187_14 : IL := [⟨some 48, .val (.mov (.t 10)), none⟩, ⟨some 49, .val (.faddr 0 (.t 9)), none⟩, ⟨some 50, .val (.load none (.t 49)), none⟩, ⟨some 51, .val (.bin .num .lss (.t 48) (.t 50)), none⟩, ⟨some 52, .val (.mov (.t 51)), none⟩, ⟨some 53, .val (.faddr 1 (.t 9)), (some (52, false))⟩, ⟨some 54, .val (.load none (.t 53)), (some (52, false))⟩, ⟨some 55, .val (.mov (.t 10)), (some (52, false))⟩, ⟨some 56, .val (.bin .num .lss (.t 54) (.t 55)), (some (52, false))⟩, ⟨some 57, .val (.pick (.t 52) (.c (.bool true)) (.t 56)), none⟩]
def g187_15 : IL := [⟨some 2, .val (.mov (.c (.int .i32 65533))), none⟩, ⟨some 3, .val (.mov (.c (.int .i64 1))), none⟩]
def g187_16 : IL := [⟨some 58, .val (.mov (.t 8)), none⟩, ⟨some 59, .val (.bin .num .leq (.t 58) (.c (.int .i64 2))), none⟩]
def g187_17 : IL := [⟨some 60, .val (.mov (.t 5)), none⟩, ⟨some 61, .val (.bin .num .and (.t 60) (.c (.int .u8 31))), none⟩, ⟨some 62, .val (.cvi .i32 (.t 61)), none⟩, ⟨some 63, .val (.bin .num .shl (.t 62) (.c (.int .u64 6))), none⟩, ⟨some 64, .val (.mov (.t 10)), none⟩, ⟨some 65, .val (.bin .num .and (.t 64) (.c (.int .u8 63))), none⟩, ⟨some 66, .val (.cvi .i32 (.t 65)), none⟩, ⟨some 67, .val (.bin .num .or (.t 63) (.t 66)), none⟩, ⟨some 2, .val (.mov (.t 67)), none⟩, ⟨some 3, .val (.mov (.c (.int .i64 2))), none⟩]
def g187_18 : IL := [⟨some 68, .val (.mov (.t 0)), none⟩, ⟨some 69, .val (.idx (.t 68) (.c (.int .i64 2))), none⟩, ⟨some 11, .val (.mov (.t 69)), none⟩]
def g187_19 : IL := [⟨some 70, .val (.mov (.t 11)), none⟩, ⟨some 71, .val (.bin .num .lss (.t 70) (.c (.int .u8 128))), none⟩, ⟨some 72, .val (.mov (.t 71)), none⟩, ⟨some 73, .val (.mov (.t 11)), (some (72, false))⟩, ⟨some 74, .val (.bin .num .lss (.c (.int .u8 191)) (.t 73)), (some (72, false))⟩, ⟨some 75, .val (.pick (.t 72) (.c (.bool true)) (.t 74)), none⟩]
def g187_20 : IL := [⟨some 2, .val (.mov (.c (.int .i32 65533))), none⟩, ⟨some 3, .val (.mov (.c (.int .i64 1))), none⟩]
def g187_21 : IL := [⟨some 76, .val (.mov (.t 8)), none⟩, ⟨some 77, .val (.bin .num .leq (.t 76) (.c (.int .i64 3))), none⟩]
def g187_22 : IL := [⟨some 78, .val (.mov (.t 5)), none⟩, ⟨some 79, .val (.bin .num .and (.t 78) (.c (.int .u8 15))), none⟩, ⟨some 80, .val (.cvi .i32 (.t 79)), none⟩, ⟨some 81, .val (.bin .num .shl (.t 80) (.c (.int .u64 12))), none⟩, ⟨some 82, .val (.mov (.t 10)), none⟩, ⟨some 83, .val (.bin .num .and (.t 82) (.c (.int .u8 63))), none⟩, ⟨some 84, .val (.cvi .i32 (.t 83)), none⟩, ⟨some 85, .val (.bin .num .shl (.t 84) (.c (.int .u64 6))), none⟩, ⟨some 86, .val (.bin .num .or (.t 81) (.t 85)), none⟩, ⟨some 87, .val (.mov (.t 11)), none⟩, ⟨some 88, .val (.bin .num .and (.t 87) (.c (.int .u8 63))), none⟩, ⟨some 89, .val (.cvi .i32 (.t 88)), none⟩, ⟨some 90, .val (.bin .num .or (.t 86) (.t 89)), none⟩, ⟨some 2, .val (.mov (.t 90)), none⟩, ⟨some 3, .val (.mov (.c (.int .i64 3))), none⟩]
def g187_23 : IL := [⟨some 91, .val (.mov (.t 0)), none⟩, ⟨some 92, .val (.idx (.t 91) (.c (.int .i64 3))), none⟩, ⟨some 12, .val (.mov (.t 92)), none⟩]
def g187_24 : IL := [⟨some 93, .val (.mov (.t 12)), none⟩, ⟨some 94, .val (.bin .num .lss (.t 93) (.c (.int .u8 128))), none⟩, ⟨some 95, .val (.mov (.t 94)), none⟩, ⟨some 96, .val (.mov (.t 12)), (some (95, false))⟩, ⟨some 97, .val (.bin .num .lss (.c (.int .u8 191)) (.t 96)), (some (95, false))⟩, ⟨some 98, .val (.pick (.t 95) (.c (.bool true)) (.t 97)), none⟩]
def g187_25 : IL := [⟨some 2, .val (.mov (.c (.int .i32 65533))), none⟩, ⟨some 3, .val (.mov (.c (.int .i64 1))), none⟩]
def g187_26 : IL := [⟨some 99, .val (.mov (.t 5)), none⟩, ⟨some 100, .val (.bin .num .and (.t 99) (.c (.int .u8 7))), none⟩, ⟨some 101, .val (.cvi .i32 (.t 100)), none⟩, ⟨some 102, .val (.bin .num .shl (.t 101) (.c (.int .u64 18))), none⟩, ⟨some 103, .val (.mov (.t 10)), none⟩, ⟨some 104, .val (.bin .num .and (.t 103) (.c (.int .u8 63))), none⟩, ⟨some 105, .val (.cvi .i32 (.t 104)), none⟩, ⟨some 106, .val (.bin .num .shl (.t 105) (.c (.int .u64 12))), none⟩, ⟨some 107, .val (.bin .num .or (.t 102) (.t 106)), none⟩, ⟨some 108, .val (.mov (.t 11)), none⟩, ⟨some 109, .val (.bin .num .and (.t 108) (.c (.int .u8 63))), none⟩, ⟨some 110, .val (.cvi .i32 (.t 109)), none⟩, ⟨some 111, .val (.bin .num .shl (.t 110) (.c (.int .u64 6))), none⟩, ⟨some 112, .val (.bin .num .or (.t 107) (.t 111)), none⟩, ⟨some 113, .val (.mov (.t 12)), none⟩, ⟨some 114, .val (.bin .num .and (.t 113) (.c (.int .u8 63))), none⟩, ⟨some 115, .val (.cvi .i32 (.t 114)), none⟩, ⟨some 116, .val (.bin .num .or (.t 112) (.t 115)), none⟩, ⟨some 2, .val (.mov (.t 116)), none⟩, ⟨some 3, .val (.mov (.c (.int .i64 4))), none⟩]
def r187 : RC := .seq (.reg g187_0) (.seq (.reg g187_1) (.seq (.seq (.reg g187_2) (.cond (.t 16) (.seq (.reg g187_3) (.ret)) (.skip))) (.seq (.reg g187_4) (.seq (.no) (.seq (.seq (.reg g187_6) (.cond (.t 23) (.seq (.reg g187_7) (.seq (.reg g187_8) (.ret))) (.skip))) (.seq (.reg g187_9) (.seq (.no) (.seq (.seq (.reg g187_11) (.cond (.t 45) (.seq (.reg g187_12) (.ret)) (.skip))) (.seq (.reg g187_13) (.seq (.seq (.reg g187_14) (.cond (.t 57) (.seq (.reg g187_15) (.ret)) (.skip))) (.seq (.seq (.reg g187_16) (.cond (.t 59) (.seq (.reg g187_17) (.ret)) (.skip))) (.seq (.reg g187_18) (.seq (.seq (.reg g187_19) (.cond (.t 75) (.seq (.reg g187_20) (.ret)) (.skip))) (.seq (.seq (.reg g187_21) (.cond (.t 77) (.seq (.reg g187_22) (.ret)) (.skip))) (.seq (.reg g187_23) (.seq (.seq (.reg g187_24) (.cond (.t 98) (.seq (.reg g187_25) (.ret)) (.skip))) (.seq (.reg g187_26) (.ret))))))))))))))))))
def o187 : List RR := [.tmp 2, .tmp 3]
theorem k187 : CT 187 117 r187 o187 := ck Tryz.func187 Tryz.ntmps187 (by decide +kernel)
def g188_0 : IL := [⟨some 4, .val (.mov (.c (.int .i64 0))), none⟩]
def g188_1 : IL := [⟨some 5, .val (.mov (.t 0)), none⟩, ⟨some 6, .val (.mov (.t 1)), none⟩, ⟨some 7, .xb false 192 (.t 5) (.t 6), none⟩, ⟨some 4, .val (.mov (.t 7)), none⟩]
def r188 : RC := .seq (.reg g188_0) (.seq (.reg g188_1) (.ret))
def o188 : List RR := [.tmp 4]
theorem k188 : CT 188 8 r188 o188 := ck Tryz.func188 Tryz.ntmps188 (by decide +kernel)
def g190_0 : IL := [⟨some 2, .val (.mov (.c (.int .i64 0))), none⟩]
def g190_1 : IL := [⟨some 3, .val (.mov (.t 0)), none⟩, ⟨some 4, .val (.bin .num .add (.t 3) (.c (.int .i64 16))), none⟩, ⟨some 5, .val (.bin .num .quo (.t 4) (.c (.int .i64 8))), none⟩, ⟨some 2, .val (.mov (.t 5)), none⟩]
def r190 : RC := .seq (.reg g190_0) (.seq (.reg g190_1) (.ret))
def o190 : List RR := [.tmp 2]
theorem k190 : CT 190 6 r190 o190 := ck Tryz.func190 Tryz.ntmps190 (by decide +kernel)
def g191_0 : IL := [⟨some 4, .val (.mov (.c (.int .i64 0))), none⟩]
def g191_1 : IL := [⟨some 12, .val (.mov (.t 1)), none⟩, ⟨some 13, .call (.f 193) [(.t 12)], none⟩, ⟨some 11, .val (.mov (.t 13)), none⟩, ⟨some 14, .val (.ext (.t 11) 0), none⟩, ⟨some 15, .val (.ext (.t 11) 1), none⟩, ⟨some 5, .val (.mov (.t 14)), none⟩, ⟨some 6, .val (.mov (.t 15)), none⟩]
def g191_2 : IL := [⟨some 16, .val (.mov (.t 1)), none⟩, ⟨some 17, .val (.len 0 (.t 16)), none⟩, ⟨some 7, .val (.mov (.t 17)), none⟩]
def g191_3 : IL := [⟨some 8, .val (.mov (.c (.int .u32 0))), none⟩]
def g191_4 : IL := [⟨some 9, .val (.mov (.c (.int .i64 0))), none⟩]
def g191_5 : IL := [⟨some 18, .val (.mov (.t 9)), none⟩, ⟨some 19, .val (.mov (.t 7)), none⟩, ⟨some 20, .val (.bin .num .lss (.t 18) (.t 19)), none⟩]
def g191_7 : IL := [⟨some 23, .val (.mov (.t 8)), none⟩, ⟨some 24, .val (.bin .num .mul (.t 23) (.c (.int .u32 16777619))), none⟩, ⟨some 25, .val (.mov (.t 0)), none⟩, ⟨some 26, .val (.mov (.t 9)), none⟩, ⟨some 27, .val (.idx (.t 25) (.t 26)), none⟩, ⟨some 28, .val (.cvi .u32 (.t 27)), none⟩, ⟨some 29, .val (.bin .num .add (.t 24) (.t 28)), none⟩, ⟨some 8, .val (.mov (.t 29)), none⟩]
def g191_6 : IL := [⟨some 21, .val (.mov (.t 9)), none⟩, ⟨some 22, .val (.bin .num .add (.t 21) (.c (.int .i64 1))), none⟩, ⟨some 9, .val (.mov (.t 22)), none⟩]
def l191_0 : RC := .seq (.seq (.reg g191_5) (.cond (.t 20) (.skip) (.exit 0))) (.seq (.block 1 (.reg g191_7)) (.reg g191_6))
def g191_8 : IL := [⟨some 30, .val (.mov (.t 8)), none⟩, ⟨some 31, .val (.mov (.t 5)), none⟩, ⟨some 32, .val (.bin .num .eql (.t 30) (.t 31)), none⟩, ⟨some 33, .val (.mov (.t 32)), none⟩, ⟨some 34, .val (.mov (.t 0)), (some (33, true))⟩, ⟨some 35, .val (.mov (.t 7)), (some (33, true))⟩, ⟨some 36, .val (.slc none (.t 34) none (some (.t 35)) none), (some (33, true))⟩, ⟨some 37, .val (.mov (.t 1)), (some (33, true))⟩, ⟨some 38, .val (.bin .str .eql (.t 36) (.t 37)), (some (33, true))⟩, ⟨some 39, .val (.pick (.t 33) (.t 38) (.c (.bool false))), none⟩]
def g191_9 : IL := [⟨some 4, .val (.mov (.c (.int .i64 0))), none⟩]
def g191_10 : IL := [⟨some 40, .val (.mov (.t 7)), none⟩, ⟨some 10, .val (.mov (.t 40)), none⟩]
def g191_11 : IL := [⟨some 41, .val (.mov (.t 10)), none⟩, ⟨some 42, .val (.mov (.t 0)), none⟩, ⟨some 43, .val (.len 0 (.t 42)), none⟩, ⟨some 44, .val (.bin .num .lss (.t 41) (.t 43)), none⟩]
def g191_12 : IL := [⟨some 45, .val (.mov (.t 8)), none⟩, ⟨some 46, .val (.bin .num .mul (.t 45) (.c (.int .u32 16777619))), none⟩, ⟨some 8, .val (.mov (.t 46)), none⟩]
def g191_13 : IL := [⟨some 47, .val (.mov (.t 8)), none⟩, ⟨some 48, .val (.mov (.t 0)), none⟩, ⟨some 49, .val (.mov (.t 10)), none⟩, ⟨some 50, .val (.idx (.t 48) (.t 49)), none⟩, ⟨some 51, .val (.cvi .u32 (.t 50)), none⟩, ⟨some 52, .val (.bin .num .add (.t 47) (.t 51)), none⟩, ⟨some 8, .val (.mov (.t 52)), none⟩]
def g191_14 : IL := [⟨some 53, .val (.mov (.t 8)), none⟩, ⟨some 54, .val (.mov (.t 6)), none⟩, ⟨some 55, .val (.mov (.t 0)), none⟩, ⟨some 56, .val (.mov (.t 10)), none⟩, ⟨some 57, .val (.mov (.t 7)), none⟩, ⟨some 58, .val (.bin .num .sub (.t 56) (.t 57)), none⟩, ⟨some 59, .val (.idx (.t 55) (.t 58)), none⟩, ⟨some 60, .val (.cvi .u32 (.t 59)), none⟩, ⟨some 61, .val (.bin .num .mul (.t 54) (.t 60)), none⟩, ⟨some 62, .val (.bin .num .sub (.t 53) (.t 61)), none⟩, ⟨some 8, .val (.mov (.t 62)), none⟩]
def g191_15 : IL := [⟨some 63, .val (.mov (.t 10)), none⟩, ⟨some 64, .val (.bin .num .add (.t 63) (.c (.int .i64 1))), none⟩, ⟨some 10, .val (.mov (.t 64)), none⟩]
def g191_16 : IL := [⟨some 65, .val (.mov (.t 8)), none⟩, ⟨some 66, .val (.mov (.t 5)), none⟩, ⟨some 67, .val (.bin .num .eql (.t 65) (.t 66)), none⟩, ⟨some 68, .val (.mov (.t 67)), none⟩, ⟨some 69, .val (.mov (.t 0)), (some (68, true))⟩, ⟨some 70, .val (.mov (.t 10)), (some (68, true))⟩, ⟨some 71, .val (.mov (.t 7)), (some (68, true))⟩, ⟨some 72, .val (.bin .num .sub (.t 70) (.t 71)), (some (68, true))⟩, ⟨some 73, .val (.mov (.t 10)), (some (68, true))⟩, ⟨some 74, .val (.slc none (.t 69) (some (.t 72)) (some (.t 73)) none), (some (68, true))⟩, ⟨some 75, .val (.mov (.t 1)), (some (68, true))⟩, ⟨some 76, .val (.bin .str .eql (.t 74) (.t 75)), (some (68, true))⟩, ⟨some 77, .val (.pick (.t 68) (.t 76) (.c (.bool false))), none⟩]
def g191_17 : IL := [⟨some 78, .val (.mov (.t 10)), none⟩, ⟨some 79, .val (.mov (.t 7)), none⟩, ⟨some 80, .val (.bin .num .sub (.t 78) (.t 79)), none⟩, ⟨some 4, .val (.mov (.t 80)), none⟩]
def l191_1 : RC := .seq (.seq (.reg g191_11) (.cond (.t 44) (.skip) (.exit 2))) (.block 3 (.seq (.reg g191_12) (.seq (.reg g191_13) (.seq (.reg g191_14) (.seq (.reg g191_15) (.seq (.reg g191_16) (.cond (.t 77) (.seq (.reg g191_17) (.ret)) (.skip))))))))
def g191_18 : IL := [⟨some 4, .val (.mov (.c (.int .i64 (-1)))), none⟩]
def r191 : RC := .seq (.reg g191_0) (.seq (.reg g191_1) (.seq (.reg g191_2) (.seq (.reg g191_3) (.seq (.seq (.reg g191_4) (.block 0 (.loop l191_0))) (.seq (.seq (.reg g191_8) (.cond (.t 39) (.seq (.reg g191_9) (.ret)) (.skip))) (.seq (.seq (.reg g191_10) (.block 2 (.loop l191_1))) (.seq (.reg g191_18) (.ret))))))))
def o191 : List RR := [.tmp 4]
theorem k191 : CT 191 81 r191 o191 := ck Tryz.func191 Tryz.ntmps191 (by decide +kernel)
def g193_0 : IL := [⟨some 2, .val (.mov (.c (.int .u32 0))), none⟩, ⟨some 3, .val (.mov (.c (.int .u32 0))), none⟩]
def g193_1 : IL := [⟨some 4, .val (.mov (.c (.int .u32 0))), none⟩]
def g193_2 : IL := [⟨some 5, .val (.mov (.c (.int .i64 0))), none⟩]
def g193_3 : IL := [⟨some 9, .val (.mov (.t 5)), none⟩, ⟨some 10, .val (.mov (.t 0)), none⟩, ⟨some 11, .val (.len 0 (.t 10)), none⟩, ⟨some 12, .val (.bin .num .lss (.t 9) (.t 11)), none⟩]
def g193_5 : IL := [⟨some 15, .val (.mov (.t 4)), none⟩, ⟨some 16, .val (.bin .num .mul (.t 15) (.c (.int .u32 16777619))), none⟩, ⟨some 17, .val (.mov (.t 0)), none⟩, ⟨some 18, .val (.mov (.t 5)), none⟩, ⟨some 19, .val (.idx (.t 17) (.t 18)), none⟩, ⟨some 20, .val (.cvi .u32 (.t 19)), none⟩, ⟨some 21, .val (.bin .num .add (.t 16) (.t 20)), none⟩, ⟨some 4, .val (.mov (.t 21)), none⟩]
def g193_4 : IL := [⟨some 13, .val (.mov (.t 5)), none⟩, ⟨some 14, .val (.bin .num .add (.t 13) (.c (.int .i64 1))), none⟩, ⟨some 5, .val (.mov (.t 14)), none⟩]
def l193_0 : RC := .seq (.seq (.reg g193_3) (.cond (.t 12) (.skip) (.exit 0))) (.seq (.block 1 (.reg g193_5)) (.reg g193_4))
def g193_6 : IL := [⟨some 6, .val (.mov (.c (.int .u32 1))), none⟩, ⟨some 7, .val (.mov (.c (.int .u32 16777619))), none⟩]
def g193_7 : IL := [⟨some 22, .val (.mov (.t 0)), none⟩, ⟨some 23, .val (.len 0 (.t 22)), none⟩, ⟨some 8, .val (.mov (.t 23)), none⟩]
def g193_8 : IL := [⟨some 24, .val (.mov (.t 8)), none⟩, ⟨some 25, .val (.bin .num .gtr (.t 24) (.c (.int .i64 0))), none⟩]
def g193_10 : IL := [⟨some 28, .val (.mov (.t 8)), none⟩, ⟨some 29, .val (.bin .num .and (.t 28) (.c (.int .i64 1))), none⟩, ⟨some 30, .val (.bin .num .neq (.t 29) (.c (.int .i64 0))), none⟩]
def g193_11 : IL := [⟨some 31, .val (.mov (.t 6)), none⟩, ⟨some 32, .val (.mov (.t 7)), none⟩, ⟨some 33, .val (.bin .num .mul (.t 31) (.t 32)), none⟩, ⟨some 6, .val (.mov (.t 33)), none⟩]
def g193_12 : IL := [⟨some 34, .val (.mov (.t 7)), none⟩, ⟨some 35, .val (.mov (.t 7)), none⟩, ⟨some 36, .val (.bin .num .mul (.t 34) (.t 35)), none⟩, ⟨some 7, .val (.mov (.t 36)), none⟩]
def g193_9 : IL := [⟨some 26, .val (.mov (.t 8)), none⟩, ⟨some 27, .val (.bin .num .shr (.t 26) (.c (.int .u64 1))), none⟩, ⟨some 8, .val (.mov (.t 27)), none⟩]
def l193_1 : RC := .seq (.seq (.reg g193_8) (.cond (.t 25) (.skip) (.exit 2))) (.seq (.block 3 (.seq (.seq (.reg g193_10) (.cond (.t 30) (.reg g193_11) (.skip))) (.reg g193_12))) (.reg g193_9))
def g193_13 : IL := [⟨some 37, .val (.mov (.t 4)), none⟩, ⟨some 38, .val (.mov (.t 6)), none⟩, ⟨some 2, .val (.mov (.t 37)), none⟩, ⟨some 3, .val (.mov (.t 38)), none⟩]
def r193 : RC := .seq (.reg g193_0) (.seq (.reg g193_1) (.seq (.seq (.reg g193_2) (.block 0 (.loop l193_0))) (.seq (.reg g193_6) (.seq (.seq (.reg g193_7) (.block 2 (.loop l193_1))) (.seq (.reg g193_13) (.ret))))))
def o193 : List RR := [.tmp 2, .tmp 3]
theorem k193 : CT 193 39 r193 o193 := ck Tryz.func193 Tryz.ntmps193 (by decide +kernel)
def g3_0 : IL := [⟨some 3, .boxN 3 (.t 0), none⟩, ⟨some 6, .val (.mov (.c (.bool false))), none⟩]
def g3_1 : IL := [⟨some 12, .val (.mov (.t 2)), none⟩, ⟨some 13, .val (.len 1 (.t 12)), none⟩, ⟨some 14, .val (.bin .num .gtr (.t 13) (.c (.int .i64 200))), none⟩]
def g3_2 : IL := [⟨some 15, .call (.f 4) [], none⟩, ⟨some 6, .val (.mov (.t 15)), none⟩]
def g3_3 : IL := [⟨some 7, .val (.mov (.c (.int .i64 0))), none⟩]
def g3_4 : IL := [⟨some 16, .val (.mov (.t 7)), none⟩, ⟨some 17, .val (.mov (.t 2)), none⟩, ⟨some 18, .val (.len 1 (.t 17)), none⟩, ⟨some 19, .val (.bin .num .lss (.t 16) (.t 18)), none⟩]
def g3_6 : IL := [⟨some 22, .val (.mov (.t 2)), none⟩, ⟨some 23, .val (.mov (.t 7)), none⟩, ⟨some 24, .val (.iaddr 4 none (.t 22) (.t 23)), none⟩, ⟨some 25, .val (.faddr 3 (.t 24)), none⟩, ⟨some 26, .val (.load none (.t 25)), none⟩, ⟨some 27, .val (.len 1 (.t 26)), none⟩, ⟨some 28, .val (.bin .num .gtr (.t 27) (.c (.int .i64 100))), none⟩]
def g3_7 : IL := [⟨some 29, .call (.f 4) [], none⟩, ⟨some 6, .val (.mov (.t 29)), none⟩]
def g3_5 : IL := [⟨some 20, .val (.mov (.t 7)), none⟩, ⟨some 21, .val (.bin .num .add (.t 20) (.c (.int .i64 1))), none⟩, ⟨some 7, .val (.mov (.t 21)), none⟩]
def l3_0 : RC := .seq (.seq (.reg g3_4) (.cond (.t 19) (.skip) (.exit 0))) (.seq (.block 1 (.seq (.reg g3_6) (.cond (.t 28) (.seq (.reg g3_7) (.ret)) (.skip)))) (.reg g3_5))
def g3_8 : IL := [⟨some 31, .val (.load (some 5) (.t 3)), none⟩, ⟨some 32, .val (.mov (.t 1)), none⟩, ⟨some 33, .call (.f 5) [(.t 31), (.t 32)], none⟩, ⟨some 30, .val (.mov (.t 33)), none⟩, ⟨some 34, .val (.ext (.t 30) 0), none⟩, ⟨some 35, .val (.ext (.t 30) 1), none⟩, ⟨some 8, .val (.mov (.t 34)), none⟩, ⟨some 9, .val (.mov (.t 35)), none⟩]
def g3_9 : IL := [⟨some 37, .val (.load (some 5) (.t 3)), none⟩, ⟨some 38, .val (.mov (.t 1)), none⟩, ⟨some 39, .call (.f 6) [(.t 37), (.t 38)], none⟩, ⟨some 36, .val (.mov (.t 39)), none⟩, ⟨some 40, .val (.ext (.t 36) 0), none⟩, ⟨some 41, .val (.ext (.t 36) 1), none⟩, ⟨some 10, .val (.mov (.t 40)), none⟩, ⟨some 11, .val (.mov (.t 41)), none⟩]
def g3_10 : IL := [⟨some 42, .val (.mov (.t 8)), none⟩, ⟨some 43, .val (.mov (.t 10)), none⟩, ⟨some 44, .val (.bin .bool .eql (.t 42) (.t 43)), none⟩, ⟨some 45, .val (.mov (.t 44)), none⟩, ⟨some 46, .val (.mov (.t 9)), (some (45, true))⟩, ⟨some 47, .val (.mov (.t 11)), (some (45, true))⟩, ⟨some 48, .val (.bin .bool .eql (.t 46) (.t 47)), (some (45, true))⟩, ⟨some 49, .val (.pick (.t 45) (.t 48) (.c (.bool false))), none⟩, ⟨some 50, .val (.mov (.t 49)), none⟩, ⟨some 51, .val (.mov (.t 2)), (some (50, true))⟩, ⟨some 52, .call (.f 7) [(.t 51)], (some (50, true))⟩, ⟨some 53, .val (.mov (.t 2)), (some (50, true))⟩, ⟨some 54, .call (.f 8) [(.t 53)], (some (50, true))⟩, ⟨some 55, .val (.bin .str .eql (.t 52) (.t 54)), (some (50, true))⟩, ⟨some 56, .val (.pick (.t 50) (.t 55) (.c (.bool false))), none⟩, ⟨some 57, .val (.mov (.t 56)), none⟩, ⟨some 58, .call (.f 4) [], (some (57, true))⟩, ⟨some 59, .val (.pick (.t 57) (.t 58) (.c (.bool false))), none⟩, ⟨some 6, .val (.mov (.t 59)), none⟩]
def r3 : RC := .seq (.reg g3_0) (.seq (.seq (.reg g3_1) (.cond (.t 14) (.seq (.reg g3_2) (.ret)) (.skip))) (.seq (.seq (.reg g3_3) (.block 0 (.loop l3_0))) (.seq (.reg g3_8) (.seq (.reg g3_9) (.seq (.reg g3_10) (.ret))))))
def o3 : List RR := [.tmp 6]
theorem k3 : CT 3 60 r3 o3 := ck Tryz.func3 Tryz.ntmps3 (by decide +kernel)
def g5_0 : IL := [⟨some 2, .boxN 2 (.t 0), none⟩, ⟨some 4, .val (.mov (.c (.bool false))), none⟩, ⟨some 5, .val (.mov (.c (.bool false))), none⟩]
def g5_1 : IL := [⟨some 7, .val (.mov (.t 1)), none⟩, ⟨some 8, .call (.f 12) [(.t 7)], none⟩, ⟨some 9, .val (.un .not (.t 8)), none⟩]
def g5_2 : IL := [⟨some 4, .val (.mov (.c (.bool false))), none⟩, ⟨some 5, .val (.mov (.c (.bool false))), none⟩]
def g5_3 : IL := [⟨some 10, .val (.mov (.t 1)), none⟩, ⟨some 11, .val (.bin .num .eql (.t 10) (.c (.int .i64 4))), none⟩, ⟨some 6, .val (.mov (.t 11)), none⟩]
def g5_4 : IL := [⟨some 12, .val (.faddr 0 (.t 2)), none⟩, ⟨some 13, .val (.load none (.t 12)), none⟩]
def g5_5 : IL := [⟨some 15, .val (.bin .num .eql (.t 13) (.c (.int .i64 1))), none⟩, ⟨some 14, .val (.mov (.t 15)), none⟩]
def g5_6 : IL := [⟨some 16, .val (.bin .num .eql (.t 13) (.c (.int .i64 2))), none⟩, ⟨some 14, .val (.mov (.t 16)), none⟩]
def g5_7 : IL := [⟨some 17, .val (.bin .num .eql (.t 13) (.c (.int .i64 11))), none⟩, ⟨some 14, .val (.mov (.t 17)), none⟩]
def g5_8 : IL := [⟨some 18, .val (.bin .num .eql (.t 13) (.c (.int .i64 12))), none⟩, ⟨some 14, .val (.mov (.t 18)), none⟩]
def g5_9 : IL := [⟨some 19, .val (.bin .num .eql (.t 13) (.c (.int .i64 17))), none⟩, ⟨some 14, .val (.mov (.t 19)), none⟩]
def g5_10 : IL := [⟨some 20, .val (.bin .num .eql (.t 13) (.c (.int .i64 18))), none⟩, ⟨some 14, .val (.mov (.t 20)), none⟩]
def g5_11 : IL := [⟨some 21, .val (.bin .num .eql (.t 13) (.c (.int .i64 19))), none⟩, ⟨some 14, .val (.mov (.t 21)), none⟩]
def g5_12 : IL := [⟨some 22, .val (.bin .num .eql (.t 13) (.c (.int .i64 20))), none⟩, ⟨some 14, .val (.mov (.t 22)), none⟩]
def g5_13 : IL := [⟨some 23, .val (.bin .num .eql (.t 13) (.c (.int .i64 21))), none⟩, ⟨some 14, .val (.mov (.t 23)), none⟩]
def g5_14 : IL := [⟨some 24, .val (.bin .num .eql (.t 13) (.c (.int .i64 22))), none⟩, ⟨some 14, .val (.mov (.t 24)), none⟩]
def g5_15 : IL := [⟨some 25, .val (.bin .num .eql (.t 13) (.c (.int .i64 10))), none⟩, ⟨some 14, .val (.mov (.t 25)), none⟩]
def g5_16 : IL := [⟨some 4, .val (.mov (.c (.bool true))), none⟩, ⟨some 5, .val (.mov (.c (.bool true))), none⟩]
def g5_17 : IL := [⟨some 27, .val (.bin .num .eql (.t 13) (.c (.int .i64 3))), none⟩, ⟨some 26, .val (.mov (.t 27)), none⟩]
def g5_18 : IL := [⟨some 28, .val (.bin .num .eql (.t 13) (.c (.int .i64 15))), none⟩, ⟨some 26, .val (.mov (.t 28)), none⟩]
def g5_19 : IL := [⟨some 29, .val (.mov (.t 6)), none⟩, ⟨some 30, .val (.un .not (.t 29)), none⟩, ⟨some 4, .val (.mov (.t 30)), none⟩, ⟨some 5, .val (.mov (.c (.bool false))), none⟩]
def g5_20 : IL := [⟨some 32, .val (.bin .num .eql (.t 13) (.c (.int .i64 4))), none⟩, ⟨some 31, .val (.mov (.t 32)), none⟩]
def g5_21 : IL := [⟨some 33, .val (.bin .num .eql (.t 13) (.c (.int .i64 14))), none⟩, ⟨some 31, .val (.mov (.t 33)), none⟩]
def g5_22 : IL := [⟨some 34, .val (.mov (.t 6)), none⟩, ⟨some 35, .val (.un .not (.t 34)), none⟩, ⟨some 4, .val (.mov (.c (.bool false))), none⟩, ⟨some 5, .val (.mov (.t 35)), none⟩]
def g5_23 : IL := [⟨some 37, .val (.bin .num .eql (.t 13) (.c (.int .i64 5))), none⟩, ⟨some 36, .val (.mov (.t 37)), none⟩]
def g5_24 : IL := [⟨some 38, .val (.bin .num .eql (.t 13) (.c (.int .i64 16))), none⟩, ⟨some 36, .val (.mov (.t 38)), none⟩]
def g5_25 : IL := [⟨some 39, .val (.mov (.t 6)), none⟩, ⟨some 40, .val (.un .not (.t 39)), none⟩, ⟨some 41, .val (.mov (.t 6)), none⟩, ⟨some 42, .val (.un .not (.t 41)), none⟩, ⟨some 4, .val (.mov (.t 40)), none⟩, ⟨some 5, .val (.mov (.t 42)), none⟩]
def g5_26 : IL := [⟨some 44, .val (.bin .num .eql (.t 13) (.c (.int .i64 9))), none⟩, ⟨some 43, .val (.mov (.t 44)), none⟩]
def g5_27 : IL := [⟨some 45, .val (.mov (.t 1)), none⟩, ⟨some 46, .val (.bin .num .eql (.t 45) (.c (.int .i64 1))), none⟩, ⟨some 47, .val (.mov (.t 1)), none⟩, ⟨some 48, .val (.bin .num .eql (.t 47) (.c (.int .i64 1))), none⟩, ⟨some 4, .val (.mov (.t 46)), none⟩, ⟨some 5, .val (.mov (.t 48)), none⟩]
def g5_28 : IL := [⟨some 4, .val (.mov (.c (.bool false))), none⟩, ⟨some 5, .val (.mov (.c (.bool false))), none⟩]
def r5 : RC := .seq (.reg g5_0) (.seq (.seq (.reg g5_1) (.cond (.t 9) (.seq (.reg g5_2) (.ret)) (.skip))) (.seq (.reg g5_3) (.seq (.seq (.reg g5_4) (.block 0 (.seq (.seq (.reg g5_5) (.cond (.t 14) (.skip) (.seq (.reg g5_6) (.cond (.t 14) (.skip) (.seq (.reg g5_7) (.cond (.t 14) (.skip) (.seq (.reg g5_8) (.cond (.t 14) (.skip) (.seq (.reg g5_9) (.cond (.t 14) (.skip) (.seq (.reg g5_10) (.cond (.t 14) (.skip) (.seq (.reg g5_11) (.cond (.t 14) (.skip) (.seq (.reg g5_12) (.cond (.t 14) (.skip) (.seq (.reg g5_13) (.cond (.t 14) (.skip) (.seq (.reg g5_14) (.cond (.t 14) (.skip) (.reg g5_15))))))))))))))))))))) (.cond (.t 14) (.seq (.reg g5_16) (.ret)) (.seq (.seq (.reg g5_17) (.cond (.t 26) (.skip) (.reg g5_18))) (.cond (.t 26) (.seq (.reg g5_19) (.ret)) (.seq (.seq (.reg g5_20) (.cond (.t 31) (.skip) (.reg g5_21))) (.cond (.t 31) (.seq (.reg g5_22) (.ret)) (.seq (.seq (.reg g5_23) (.cond (.t 36) (.skip) (.reg g5_24))) (.cond (.t 36) (.seq (.reg g5_25) (.ret)) (.seq (.reg g5_26) (.cond (.t 43) (.seq (.reg g5_27) (.ret)) (.skip))))))))))))) (.seq (.reg g5_28) (.ret)))))
def o5 : List RR := [.tmp 4, .tmp 5]
theorem k5 : CT 5 49 r5 o5 := ck Tryz.func5 Tryz.ntmps5 (by decide +kernel)
def g7_0 : IL := [⟨some 2, .val (.mov (.c (.str []))), none⟩]
def g7_1 : IL := [⟨some 3, .allocN 2046 [.nilp, .nils], none⟩]
def g7_2 : IL := [⟨some 9, .val (.mov (.t 0)), none⟩, ⟨some 10, .val (.len 1 (.t 9)), none⟩, ⟨some 11, .val (.mov (.c (.int .i64 0))), none⟩]
def g7_3 : IL := [⟨some 12, .val (.bin .num .lss (.t 11) (.t 10)), none⟩]
def g7_4 : IL := [⟨some 13, .val (.iaddr 4 none (.t 9) (.t 11)), none⟩, ⟨some 14, .val (.load (some 4) (.t 13)), none⟩, ⟨some 5, .allocN 5 [.str [], .int .i64 0, .int .i64 0, .nils], none⟩, ⟨none, .store 4 (.t 5) (.t 14), none⟩]
def g7_5 : IL := [⟨some 6, .val (.mov (.c (.str [45]))), none⟩]
def g7_6 : IL := [⟨some 15, .val (.faddr 3 (.t 5)), none⟩, ⟨some 16, .val (.load none (.t 15)), none⟩, ⟨some 17, .val (.len 1 (.t 16)), none⟩, ⟨some 18, .val (.mov (.c (.int .i64 0))), none⟩]
def g7_7 : IL := [⟨some 19, .val (.bin .num .lss (.t 18) (.t 17)), none⟩]
def g7_8 : IL := [⟨some 20, .val (.mov (.t 18)), none⟩, ⟨some 21, .val (.iaddr 1 none (.t 16) (.t 18)), none⟩, ⟨some 22, .val (.load none (.t 21)), none⟩, ⟨some 7, .val (.mov (.t 20)), none⟩, ⟨some 8, .val (.mov (.t 22)), none⟩]
def g7_9 : IL := [⟨some 23, .val (.mov (.t 7)), none⟩, ⟨some 24, .val (.bin .num .eql (.t 23) (.c (.int .i64 0))), none⟩]
def g7_10 : IL := [⟨some 25, .val (.mov (.t 8)), none⟩, ⟨some 26, .call (.f 13) [(.t 25)], none⟩, ⟨some 6, .val (.mov (.t 26)), none⟩]
def g7_11 : IL := [⟨some 27, .val (.mov (.t 6)), none⟩, ⟨some 28, .val (.mov (.t 8)), none⟩, ⟨some 29, .call (.f 13) [(.t 28)], none⟩, ⟨some 30, .val (.bin .str .add (.c (.str [46])) (.t 29)), none⟩, ⟨some 31, .val (.bin .str .add (.t 27) (.t 30)), none⟩, ⟨some 6, .val (.mov (.t 31)), none⟩]
def g7_12 : IL := [⟨some 32, .val (.bin .num .add (.t 18) (.c (.int .i64 1))), none⟩, ⟨some 18, .val (.mov (.t 32)), none⟩]
def l7_0 : RC := .seq (.reg g7_7) (.seq (.cond (.t 19) (.skip) (.exit 2)) (.seq (.block 3 (.seq (.reg g7_8) (.seq (.reg g7_9) (.cond (.t 24) (.reg g7_10) (.reg g7_11))))) (.reg g7_12)))
def g7_13 : IL := [⟨some 33, .val (.faddr 0 (.t 5)), none⟩, ⟨some 34, .val (.loadv 0 5 none (.t 33)), none⟩, ⟨some 35, .val (.bin .str .add (.t 34) (.c (.str [32]))), none⟩, ⟨some 36, .val (.faddr 1 (.t 5)), none⟩, ⟨some 37, .val (.loadv 0 5 none (.t 36)), none⟩, ⟨some 38, .call (.f 13) [(.t 37)], none⟩, ⟨some 39, .val (.bin .str .add (.t 35) (.t 38)), none⟩, ⟨some 40, .val (.bin .str .add (.t 39) (.c (.str [32]))), none⟩, ⟨some 41, .val (.faddr 2 (.t 5)), none⟩, ⟨some 42, .val (.loadv 0 5 none (.t 41)), none⟩, ⟨some 43, .call (.f 15) [(.t 42)], none⟩, ⟨some 44, .val (.bin .str .add (.t 40) (.t 43)), none⟩, ⟨some 45, .val (.bin .str .add (.t 44) (.c (.str [32]))), none⟩, ⟨some 46, .val (.mov (.t 6)), none⟩, ⟨some 47, .val (.bin .str .add (.t 45) (.t 46)), none⟩, ⟨some 48, .val (.bin .str .add (.t 47) (.c (.str [10]))), none⟩, ⟨some 49, .callF (.f 14) [(.t 3), (.t 48)], none⟩]
def g7_14 : IL := [⟨some 50, .val (.bin .num .add (.t 11) (.c (.int .i64 1))), none⟩, ⟨some 11, .val (.mov (.t 50)), none⟩]
def l7_1 : RC := .gho (.drop 5) (.seq (.reg g7_3) (.seq (.cond (.t 12) (.skip) (.exit 0)) (.seq (.block 1 (.seq (.reg g7_4) (.seq (.reg g7_5) (.seq (.seq (.reg g7_6) (.block 2 (.loop l7_0))) (.draw g7_13))))) (.reg g7_14))))
def g7_15 : IL := [⟨some 51, .callF (.f 16) [(.t 3)], none⟩, ⟨some 2, .val (.mov (.t 51)), none⟩]
def r7 : RC := .seq (.reg g7_0) (.seq (.reg g7_1) (.gho (.vecc 2046 1 2005 1) (.seq (.seq (.reg g7_2) (.block 0 (.loop l7_1))) (.seq (.reg g7_15) (.ret)))))
def o7 : List RR := [.tmp 2]
theorem k7 : CT 7 52 r7 o7 := ck Tryz.func7 Tryz.ntmps7 (by decide +kernel)
def g6_0 : IL := [⟨some 2, .boxN 2 (.t 0), none⟩, ⟨some 4, .val (.mov (.c (.bool false))), none⟩, ⟨some 5, .val (.mov (.c (.bool false))), none⟩]
def g6_1 : IL := [⟨some 7, .val (.mov (.t 1)), none⟩, ⟨some 8, .val (.bin .num .neq (.t 7) (.c (.int .i64 1))), none⟩, ⟨some 9, .val (.mov (.t 8)), none⟩, ⟨some 10, .val (.mov (.t 1)), (some (9, true))⟩, ⟨some 11, .val (.bin .num .neq (.t 10) (.c (.int .i64 2))), (some (9, true))⟩, ⟨some 12, .val (.pick (.t 9) (.t 11) (.c (.bool false))), none⟩, ⟨some 13, .val (.mov (.t 12)), none⟩, ⟨some 14, .val (.mov (.t 1)), (some (13, true))⟩, ⟨some 15, .val (.bin .num .neq (.t 14) (.c (.int .i64 4))), (some (13, true))⟩, ⟨some 16, .val (.pick (.t 13) (.t 15) (.c (.bool false))), none⟩]
def g6_2 : IL := [⟨some 4, .val (.mov (.c (.bool false))), none⟩, ⟨some 5, .val (.mov (.c (.bool false))), none⟩]
def g6_3 : IL := [⟨some 17, .val (.mov (.t 1)), none⟩, ⟨some 18, .val (.bin .num .neq (.t 17) (.c (.int .i64 4))), none⟩, ⟨some 6, .val (.mov (.t 18)), none⟩]
def g6_4 : IL := [⟨some 19, .val (.faddr 0 (.t 2)), none⟩, ⟨some 20, .val (.load none (.t 19)), none⟩]
def g6_5 : IL := [⟨some 22, .val (.bin .num .eql (.t 20) (.c (.int .i64 1))), none⟩, ⟨some 21, .val (.mov (.t 22)), none⟩]
def g6_6 : IL := [⟨some 23, .val (.bin .num .eql (.t 20) (.c (.int .i64 2))), none⟩, ⟨some 21, .val (.mov (.t 23)), none⟩]
def g6_7 : IL := [⟨some 24, .val (.bin .num .eql (.t 20) (.c (.int .i64 11))), none⟩, ⟨some 21, .val (.mov (.t 24)), none⟩]
def g6_8 : IL := [⟨some 25, .val (.bin .num .eql (.t 20) (.c (.int .i64 12))), none⟩, ⟨some 21, .val (.mov (.t 25)), none⟩]
def g6_9 : IL := [⟨some 26, .val (.bin .num .eql (.t 20) (.c (.int .i64 17))), none⟩, ⟨some 21, .val (.mov (.t 26)), none⟩]
def g6_10 : IL := [⟨some 27, .val (.bin .num .eql (.t 20) (.c (.int .i64 18))), none⟩, ⟨some 21, .val (.mov (.t 27)), none⟩]
def g6_11 : IL := [⟨some 28, .val (.bin .num .eql (.t 20) (.c (.int .i64 19))), none⟩, ⟨some 21, .val (.mov (.t 28)), none⟩]
def g6_12 : IL := [⟨some 29, .val (.bin .num .eql (.t 20) (.c (.int .i64 20))), none⟩, ⟨some 21, .val (.mov (.t 29)), none⟩]
def g6_13 : IL := [⟨some 30, .val (.bin .num .eql (.t 20) (.c (.int .i64 21))), none⟩, ⟨some 21, .val (.mov (.t 30)), none⟩]
def g6_14 : IL := [⟨some 31, .val (.bin .num .eql (.t 20) (.c (.int .i64 22))), none⟩, ⟨some 21, .val (.mov (.t 31)), none⟩]
def g6_15 : IL := [⟨some 32, .val (.bin .num .eql (.t 20) (.c (.int .i64 10))), none⟩, ⟨some 21, .val (.mov (.t 32)), none⟩]
def g6_16 : IL := [⟨some 4, .val (.mov (.c (.bool true))), none⟩, ⟨some 5, .val (.mov (.c (.bool true))), none⟩]
def g6_17 : IL := [⟨some 34, .val (.bin .num .eql (.t 20) (.c (.int .i64 3))), none⟩, ⟨some 33, .val (.mov (.t 34)), none⟩]
def g6_18 : IL := [⟨some 35, .val (.bin .num .eql (.t 20) (.c (.int .i64 15))), none⟩, ⟨some 33, .val (.mov (.t 35)), none⟩]
def g6_19 : IL := [⟨some 36, .val (.mov (.t 6)), none⟩, ⟨some 4, .val (.mov (.t 36)), none⟩, ⟨some 5, .val (.mov (.c (.bool false))), none⟩]
def g6_20 : IL := [⟨some 38, .val (.bin .num .eql (.t 20) (.c (.int .i64 4))), none⟩, ⟨some 37, .val (.mov (.t 38)), none⟩]
def g6_21 : IL := [⟨some 39, .val (.bin .num .eql (.t 20) (.c (.int .i64 14))), none⟩, ⟨some 37, .val (.mov (.t 39)), none⟩]
def g6_22 : IL := [⟨some 40, .val (.mov (.t 6)), none⟩, ⟨some 4, .val (.mov (.c (.bool false))), none⟩, ⟨some 5, .val (.mov (.t 40)), none⟩]
def g6_23 : IL := [⟨some 42, .val (.bin .num .eql (.t 20) (.c (.int .i64 5))), none⟩, ⟨some 41, .val (.mov (.t 42)), none⟩]
def g6_24 : IL := [⟨some 43, .val (.bin .num .eql (.t 20) (.c (.int .i64 16))), none⟩, ⟨some 41, .val (.mov (.t 43)), none⟩]
def g6_25 : IL := [⟨some 44, .val (.mov (.t 6)), none⟩, ⟨some 45, .val (.mov (.t 6)), none⟩, ⟨some 4, .val (.mov (.t 44)), none⟩, ⟨some 5, .val (.mov (.t 45)), none⟩]
def g6_26 : IL := [⟨some 47, .val (.bin .num .eql (.t 20) (.c (.int .i64 9))), none⟩, ⟨some 46, .val (.mov (.t 47)), none⟩]
def g6_27 : IL := [⟨some 48, .val (.mov (.t 1)), none⟩, ⟨some 49, .val (.bin .num .eql (.t 48) (.c (.int .i64 1))), none⟩, ⟨some 50, .val (.mov (.t 1)), none⟩, ⟨some 51, .val (.bin .num .eql (.t 50) (.c (.int .i64 1))), none⟩, ⟨some 4, .val (.mov (.t 49)), none⟩, ⟨some 5, .val (.mov (.t 51)), none⟩]
def g6_28 : IL := [⟨some 4, .val (.mov (.c (.bool false))), none⟩, ⟨some 5, .val (.mov (.c (.bool false))), none⟩]
def r6 : RC := .seq (.reg g6_0) (.seq (.seq (.reg g6_1) (.cond (.t 16) (.seq (.reg g6_2) (.ret)) (.skip))) (.seq (.reg g6_3) (.seq (.seq (.reg g6_4) (.block 0 (.seq (.seq (.reg g6_5) (.cond (.t 21) (.skip) (.seq (.reg g6_6) (.cond (.t 21) (.skip) (.seq (.reg g6_7) (.cond (.t 21) (.skip) (.seq (.reg g6_8) (.cond (.t 21) (.skip) (.seq (.reg g6_9) (.cond (.t 21) (.skip) (.seq (.reg g6_10) (.cond (.t 21) (.skip) (.seq (.reg g6_11) (.cond (.t 21) (.skip) (.seq (.reg g6_12) (.cond (.t 21) (.skip) (.seq (.reg g6_13) (.cond (.t 21) (.skip) (.seq (.reg g6_14) (.cond (.t 21) (.skip) (.reg g6_15))))))))))))))))))))) (.cond (.t 21) (.seq (.reg g6_16) (.ret)) (.seq (.seq (.reg g6_17) (.cond (.t 33) (.skip) (.reg g6_18))) (.cond (.t 33) (.seq (.reg g6_19) (.ret)) (.seq (.seq (.reg g6_20) (.cond (.t 37) (.skip) (.reg g6_21))) (.cond (.t 37) (.seq (.reg g6_22) (.ret)) (.seq (.seq (.reg g6_23) (.cond (.t 41) (.skip) (.reg g6_24))) (.cond (.t 41) (.seq (.reg g6_25) (.ret)) (.seq (.reg g6_26) (.cond (.t 46) (.seq (.reg g6_27) (.ret)) (.skip))))))))))))) (.seq (.reg g6_28) (.ret)))))
def o6 : List RR := [.tmp 4, .tmp 5]
theorem k6 : CT 6 52 r6 o6 := ck Tryz.func6 Tryz.ntmps6 (by decide +kernel)
def g8_0 : IL := [⟨some 2, .val (.mov (.c (.str []))), none⟩]
def g8_1 : IL := [⟨some 3, .val (.mov (.c (.str []))), none⟩]
def g8_2 : IL := [⟨some 4, .val (.mov (.c (.int .i64 0))), none⟩]
def g8_3 : IL := [⟨some 7, .val (.mov (.t 4)), none⟩, ⟨some 8, .val (.mov (.t 0)), none⟩, ⟨some 9, .val (.len 1 (.t 8)), none⟩, ⟨some 10, .val (.bin .num .lss (.t 7) (.t 9)), none⟩]
def g8_5 : IL := [⟨some 5, .val (.mov (.c (.str []))), none⟩]
def g8_6 : IL := [⟨some 6, .val (.mov (.c (.int .i64 0))), none⟩]
def g8_7 : IL := [⟨some 13, .val (.mov (.t 6)), none⟩, ⟨some 14, .val (.mov (.t 0)), none⟩, ⟨some 15, .val (.mov (.t 4)), none⟩, ⟨some 16, .val (.iaddr 4 none (.t 14) (.t 15)), none⟩, ⟨some 17, .val (.faddr 3 (.t 16)), none⟩, ⟨some 18, .val (.load none (.t 17)), none⟩, ⟨some 19, .val (.len 1 (.t 18)), none⟩, ⟨some 20, .val (.bin .num .lss (.t 13) (.t 19)), none⟩]
def g8_9 : IL := [⟨some 23, .val (.mov (.t 6)), none⟩, ⟨some 24, .val (.bin .num .gtr (.t 23) (.c (.int .i64 0))), none⟩]
def g8_10 : IL := [⟨some 25, .val (.mov (.t 5)), none⟩, ⟨some 26, .val (.bin .str .add (.t 25) (.c (.str [46]))), none⟩, ⟨some 5, .val (.mov (.t 26)), none⟩]
def g8_11 : IL := [⟨some 27, .val (.mov (.t 5)), none⟩, ⟨some 28, .val (.mov (.t 0)), none⟩, ⟨some 29, .val (.mov (.t 4)), none⟩, ⟨some 30, .val (.iaddr 4 none (.t 28) (.t 29)), none⟩, ⟨some 31, .val (.faddr 3 (.t 30)), none⟩, ⟨some 32, .val (.load none (.t 31)), none⟩, ⟨some 33, .val (.mov (.t 6)), none⟩, ⟨some 34, .val (.iaddr 1 none (.t 32) (.t 33)), none⟩, ⟨some 35, .val (.load none (.t 34)), none⟩, ⟨some 36, .call (.f 17) [(.t 35)], none⟩, ⟨some 37, .val (.bin .str .add (.t 27) (.t 36)), none⟩, ⟨some 5, .val (.mov (.t 37)), none⟩]
def g8_8 : IL := [⟨some 21, .val (.mov (.t 6)), none⟩, ⟨some 22, .val (.bin .num .add (.t 21) (.c (.int .i64 1))), none⟩, ⟨some 6, .val (.mov (.t 22)), none⟩]
def l8_0 : RC := .seq (.seq (.reg g8_7) (.cond (.t 20) (.skip) (.exit 2))) (.seq (.block 3 (.seq (.seq (.reg g8_9) (.cond (.t 24) (.reg g8_10) (.skip))) (.reg g8_11))) (.reg g8_8))
def g8_12 : IL := [⟨some 38, .val (.mov (.t 5)), none⟩, ⟨some 39, .val (.bin .str .eql (.t 38) (.c (.str []))), none⟩]
def g8_13 : IL := [⟨some 5, .val (.mov (.c (.str [45]))), none⟩]
def g8_14 : IL := [⟨some 40, .val (.mov (.t 3)), none⟩, ⟨some 41, .val (.mov (.t 0)), none⟩, ⟨some 42, .val (.mov (.t 4)), none⟩, ⟨some 43, .val (.iaddr 4 none (.t 41) (.t 42)), none⟩, ⟨some 44, .val (.faddr 0 (.t 43)), none⟩, ⟨some 45, .val (.loadr none (.t 44)), none⟩, ⟨some 46, .val (.bin .str .add (.t 40) (.t 45)), none⟩, ⟨some 47, .val (.bin .str .add (.t 46) (.c (.str [32]))), none⟩, ⟨some 48, .val (.mov (.t 0)), none⟩, ⟨some 49, .val (.mov (.t 4)), none⟩, ⟨some 50, .val (.iaddr 4 none (.t 48) (.t 49)), none⟩, ⟨some 51, .val (.faddr 1 (.t 50)), none⟩, ⟨some 52, .val (.loadr none (.t 51)), none⟩, ⟨some 53, .call (.f 17) [(.t 52)], none⟩, ⟨some 54, .val (.bin .str .add (.t 47) (.t 53)), none⟩, ⟨some 55, .val (.bin .str .add (.t 54) (.c (.str [32]))), none⟩, ⟨some 56, .val (.mov (.t 0)), none⟩, ⟨some 57, .val (.mov (.t 4)), none⟩, ⟨some 58, .val (.iaddr 4 none (.t 56) (.t 57)), none⟩, ⟨some 59, .val (.faddr 2 (.t 58)), none⟩, ⟨some 60, .val (.loadr none (.t 59)), none⟩, ⟨some 61, .call (.f 15) [(.t 60)], none⟩, ⟨some 62, .val (.bin .str .add (.t 55) (.t 61)), none⟩, ⟨some 63, .val (.bin .str .add (.t 62) (.c (.str [32]))), none⟩, ⟨some 64, .val (.mov (.t 5)), none⟩, ⟨some 65, .val (.bin .str .add (.t 63) (.t 64)), none⟩, ⟨some 66, .val (.bin .str .add (.t 65) (.c (.str [10]))), none⟩, ⟨some 3, .val (.mov (.t 66)), none⟩]
def g8_4 : IL := [⟨some 11, .val (.mov (.t 4)), none⟩, ⟨some 12, .val (.bin .num .add (.t 11) (.c (.int .i64 1))), none⟩, ⟨some 4, .val (.mov (.t 12)), none⟩]
def l8_1 : RC := .seq (.seq (.reg g8_3) (.cond (.t 10) (.skip) (.exit 0))) (.seq (.block 1 (.seq (.reg g8_5) (.seq (.seq (.reg g8_6) (.block 2 (.loop l8_0))) (.seq (.seq (.reg g8_12) (.cond (.t 39) (.reg g8_13) (.skip))) (.draw g8_14))))) (.reg g8_4))
def g8_15 : IL := [⟨some 67, .val (.mov (.t 3)), none⟩, ⟨some 2, .val (.mov (.t 67)), none⟩]
def r8 : RC := .seq (.reg g8_0) (.seq (.reg g8_1) (.seq (.seq (.reg g8_2) (.block 0 (.loop l8_1))) (.seq (.reg g8_15) (.ret))))
def o8 : List RR := [.tmp 2]
theorem k8 : CT 8 68 r8 o8 := ck Tryz.func8 Tryz.ntmps8 (by decide +kernel)
def g17_0 : IL := [⟨some 2, .val (.mov (.c (.str []))), none⟩]
def g17_1 : IL := [⟨some 3, .val (.mov (.t 0)), none⟩, ⟨some 4, .val (.cvi .u64 (.t 3)), none⟩, ⟨some 5, .val (.build [.int .i64 0, .int .u64 0, .str [], .nils, .nils, .nils, .nils] [(0, 1, (.c (.int .i64 3))), (1, 1, (.t 4))]), none⟩, ⟨some 6, .call (.f 24) [(.t 5)], none⟩, ⟨some 2, .val (.mov (.t 6)), none⟩]
def r17 : RC := .seq (.reg g17_0) (.seq (.reg g17_1) (.ret))
def o17 : List RR := [.tmp 2]
theorem k17 : CT 17 7 r17 o17 := ck Tryz.func17 Tryz.ntmps17 (by decide +kernel)
def g24_0 : IL := [⟨some 1, .boxN 1 (.t 0), none⟩, ⟨some 2, .val (.mov (.c (.str []))), none⟩]
def g24_1 : IL := [⟨some 3, .val (.faddr 0 (.t 1)), none⟩, ⟨some 4, .val (.load none (.t 3)), none⟩, ⟨some 5, .val (.load (some 7) (.t 1)), none⟩, ⟨some 6, .call (.f 37) [(.t 4), (.t 5)], none⟩, ⟨some 7, .val (.un .not (.t 6)), none⟩]
def g24_2 : IL := [⟨some 2, .val (.mov (.c (.str []))), none⟩]
def g24_3 : IL := [⟨some 8, .val (.faddr 0 (.t 1)), none⟩, ⟨some 9, .val (.load none (.t 8)), none⟩]
def g24_4 : IL := [⟨some 11, .val (.bin .num .eql (.t 9) (.c (.int .i64 1))), none⟩, ⟨some 10, .val (.mov (.t 11)), none⟩]
def g24_5 : IL := [⟨some 12, .val (.faddr 1 (.t 1)), none⟩, ⟨some 13, .val (.load none (.t 12)), none⟩, ⟨some 14, .val (.bin .num .eql (.t 13) (.c (.int .u64 1))), none⟩]
def g24_6 : IL := [⟨some 2, .val (.mov (.c (.str [116, 114, 117, 101]))), none⟩]
def g24_7 : IL := [⟨some 2, .val (.mov (.c (.str [102, 97, 108, 115, 101]))), none⟩]
def g24_8 : IL := [⟨some 16, .val (.bin .num .eql (.t 9) (.c (.int .i64 2))), none⟩, ⟨some 15, .val (.mov (.t 16)), none⟩]
def g24_9 : IL := [⟨some 17, .val (.bin .num .eql (.t 9) (.c (.int .i64 3))), none⟩, ⟨some 15, .val (.mov (.t 17)), none⟩]
def g24_10 : IL := [⟨some 18, .val (.faddr 1 (.t 1)), none⟩, ⟨some 19, .val (.load none (.t 18)), none⟩, ⟨some 20, .val (.bin .num .geq (.t 19) (.c (.int .u64 9223372036854775808))), none⟩]
def g24_11 : IL := [⟨some 21, .val (.faddr 1 (.t 1)), none⟩, ⟨some 22, .val (.load none (.t 21)), none⟩, ⟨some 23, .val (.un .neg (.t 22)), none⟩, ⟨some 24, .call (.f 38) [(.t 23)], none⟩, ⟨some 25, .val (.bin .str .add (.c (.str [45])) (.t 24)), none⟩, ⟨some 2, .val (.mov (.t 25)), none⟩]
def g24_12 : IL := [⟨some 26, .val (.faddr 1 (.t 1)), none⟩, ⟨some 27, .val (.load none (.t 26)), none⟩, ⟨some 28, .call (.f 38) [(.t 27)], none⟩, ⟨some 2, .val (.mov (.t 28)), none⟩]
def g24_13 : IL := [⟨some 30, .val (.bin .num .eql (.t 9) (.c (.int .i64 6))), none⟩, ⟨some 29, .val (.mov (.t 30)), none⟩]
def g24_14 : IL := [⟨some 31, .val (.faddr 1 (.t 1)), none⟩, ⟨some 32, .val (.load none (.t 31)), none⟩, ⟨some 33, .call (.f 39) [(.t 32)], none⟩]
def g24_15 : IL := [⟨some 35, .val (.bin .num .eql (.t 33) (.c (.int .i64 0))), none⟩, ⟨some 34, .val (.mov (.t 35)), none⟩]
def g24_16 : IL := [⟨some 2, .val (.mov (.c (.str [110, 97, 110]))), none⟩]
def g24_17 : IL := [⟨some 37, .val (.bin .num .eql (.t 33) (.c (.int .i64 1))), none⟩, ⟨some 36, .val (.mov (.t 37)), none⟩]
def g24_18 : IL := [⟨some 38, .val (.faddr 1 (.t 1)), none⟩, ⟨some 39, .val (.load none (.t 38)), none⟩, ⟨some 40, .val (.bin .num .geq (.t 39) (.c (.int .u64 9223372036854775808))), none⟩]
def g24_19 : IL := [⟨some 2, .val (.mov (.c (.str [45, 105, 110, 102]))), none⟩]
def g24_20 : IL := [⟨some 2, .val (.mov (.c (.str [105, 110, 102]))), none⟩]
def g24_21 : IL := [⟨some 41, .val (.faddr 1 (.t 1)), none⟩, ⟨some 42, .val (.load none (.t 41)), none⟩, ⟨some 43, .call (.f 40) [(.t 42)], none⟩, ⟨some 44, .val (.bin .str .add (.c (.str [48, 120])) (.t 43)), none⟩, ⟨some 2, .val (.mov (.t 44)), none⟩]
def g24_22 : IL := [⟨some 46, .val (.bin .num .eql (.t 9) (.c (.int .i64 7))), none⟩, ⟨some 45, .val (.mov (.t 46)), none⟩]
def g24_23 : IL := [⟨some 47, .val (.faddr 2 (.t 1)), none⟩, ⟨some 48, .val (.load none (.t 47)), none⟩, ⟨some 49, .call (.f 41) [(.t 48)], none⟩, ⟨some 2, .val (.mov (.t 49)), none⟩]
def g24_24 : IL := [⟨some 51, .val (.bin .num .eql (.t 9) (.c (.int .i64 8))), none⟩, ⟨some 50, .val (.mov (.t 51)), none⟩]
def g24_25 : IL := [⟨some 52, .val (.faddr 2 (.t 1)), none⟩, ⟨some 53, .val (.load none (.t 52)), none⟩, ⟨some 54, .call (.f 42) [(.t 53)], none⟩, ⟨some 55, .call (.f 41) [(.t 54)], none⟩, ⟨some 56, .val (.bin .str .add (.c (.str [120])) (.t 55)), none⟩, ⟨some 2, .val (.mov (.t 56)), none⟩]
def g24_26 : IL := [⟨some 57, .val (.faddr 1 (.t 1)), none⟩, ⟨some 58, .val (.load none (.t 57)), none⟩, ⟨some 59, .call (.f 38) [(.t 58)], none⟩, ⟨some 2, .val (.mov (.t 59)), none⟩]
def r24 : RC := .seq (.reg g24_0) (.seq (.seq (.reg g24_1) (.cond (.t 7) (.seq (.reg g24_2) (.ret)) (.skip))) (.seq (.seq (.reg g24_3) (.block 0 (.seq (.reg g24_4) (.cond (.t 10) (.seq (.seq (.reg g24_5) (.cond (.t 14) (.seq (.reg g24_6) (.ret)) (.skip))) (.seq (.reg g24_7) (.ret))) (.seq (.seq (.reg g24_8) (.cond (.t 15) (.skip) (.reg g24_9))) (.cond (.t 15) (.seq (.seq (.reg g24_10) (.cond (.t 20) (.seq (.reg g24_11) (.ret)) (.skip))) (.seq (.reg g24_12) (.ret))) (.seq (.reg g24_13) (.cond (.t 29) (.seq (.seq (.reg g24_14) (.block 1 (.seq (.reg g24_15) (.cond (.t 34) (.seq (.reg g24_16) (.ret)) (.seq (.reg g24_17) (.cond (.t 36) (.seq (.seq (.reg g24_18) (.cond (.t 40) (.seq (.reg g24_19) (.ret)) (.skip))) (.seq (.reg g24_20) (.ret))) (.skip))))))) (.seq (.reg g24_21) (.ret))) (.seq (.reg g24_22) (.cond (.t 45) (.seq (.reg g24_23) (.ret)) (.seq (.reg g24_24) (.cond (.t 50) (.seq (.reg g24_25) (.ret)) (.skip))))))))))))) (.seq (.reg g24_26) (.ret))))
def o24 : List RR := [.tmp 2]
theorem k24 : CT 24 60 r24 o24 := ck Tryz.func24 Tryz.ntmps24 (by decide +kernel)
def g38_0 : IL := [⟨some 2, .val (.mov (.c (.str []))), none⟩]
def g38_1 : IL := [⟨some 4, .val (.mov (.t 0)), none⟩, ⟨some 5, .val (.bin .num .rem (.t 4) (.c (.int .u64 10))), none⟩, ⟨some 6, .val (.bin .num .add (.c (.int .u64 48)) (.t 5)), none⟩, ⟨some 7, .val (.cvi .u8 (.t 6)), none⟩, ⟨some 8, .bsl 1 1 [.int .u8 0] [(0, 1, (.t 7))], none⟩, ⟨some 9, .val (.b2s (.t 8)), none⟩, ⟨some 3, .val (.mov (.t 9)), none⟩]
def g38_2 : IL := [⟨some 10, .val (.mov (.t 0)), none⟩, ⟨some 11, .val (.bin .num .geq (.t 10) (.c (.int .u64 10))), none⟩]
def g38_3 : IL := [⟨some 12, .val (.mov (.t 0)), none⟩, ⟨some 13, .val (.bin .num .quo (.t 12) (.c (.int .u64 10))), none⟩, ⟨some 0, .val (.mov (.t 13)), none⟩]
def g38_4 : IL := [⟨some 14, .val (.mov (.t 0)), none⟩, ⟨some 15, .val (.bin .num .rem (.t 14) (.c (.int .u64 10))), none⟩, ⟨some 16, .val (.bin .num .add (.c (.int .u64 48)) (.t 15)), none⟩, ⟨some 17, .val (.cvi .u8 (.t 16)), none⟩, ⟨some 18, .bsl 1 1 [.int .u8 0] [(0, 1, (.t 17))], none⟩, ⟨some 19, .val (.b2s (.t 18)), none⟩, ⟨some 20, .val (.mov (.t 3)), none⟩, ⟨some 21, .val (.bin .str .add (.t 19) (.t 20)), none⟩, ⟨some 3, .val (.mov (.t 21)), none⟩]
def l38_0 : RC := .seq (.seq (.reg g38_2) (.cond (.t 11) (.skip) (.exit 0))) (.block 1 (.seq (.reg g38_3) (.reg g38_4)))
def g38_5 : IL := [⟨some 22, .val (.mov (.t 3)), none⟩, ⟨some 2, .val (.mov (.t 22)), none⟩]
def r38 : RC := .seq (.reg g38_0) (.seq (.reg g38_1) (.seq (.block 0 (.loop l38_0)) (.seq (.reg g38_5) (.ret))))
def o38 : List RR := [.tmp 2]
theorem k38 : CT 38 23 r38 o38 := ck Tryz.func38 Tryz.ntmps38 (by decide +kernel)
def g37_0 : IL := [⟨some 3, .boxN 3 (.t 1), none⟩, ⟨some 4, .val (.mov (.c (.bool false))), none⟩]
def g37_1 : IL := [⟨some 6, .val (.mov (.t 0)), none⟩, ⟨some 7, .call (.f 60) [(.t 6)], none⟩, ⟨some 8, .val (.un .not (.t 7)), none⟩, ⟨some 9, .val (.mov (.t 8)), none⟩, ⟨some 10, .val (.faddr 0 (.t 3)), (some (9, false))⟩, ⟨some 11, .val (.load none (.t 10)), (some (9, false))⟩, ⟨some 12, .val (.mov (.t 0)), (some (9, false))⟩, ⟨some 13, .val (.bin .num .neq (.t 11) (.t 12)), (some (9, false))⟩, ⟨some 14, .val (.pick (.t 9) (.c (.bool true)) (.t 13)), none⟩, ⟨some 15, .val (.mov (.t 14)), none⟩, ⟨some 16, .val (.load (some 7) (.t 3)), (some (15, false))⟩, ⟨some 17, .call (.f 61) [(.t 16)], (some (15, false))⟩, ⟨some 18, .val (.un .not (.t 17)), (some (15, false))⟩, ⟨some 19, .val (.pick (.t 15) (.c (.bool true)) (.t 18)), none⟩]
def g37_2 : IL := [⟨some 4, .val (.mov (.c (.bool false))), none⟩]
def g37_3 : IL := [⟨some 20, .val (.mov (.t 0)), none⟩, ⟨some 21, .call (.f 62) [(.t 20)], none⟩]
def g37_4 : IL := [⟨some 22, .val (.faddr 1 (.t 3)), none⟩, ⟨some 23, .val (.load none (.t 22)), none⟩, ⟨some 24, .val (.bin .num .eql (.t 23) (.c (.int .u64 0))), none⟩, ⟨some 25, .val (.mov (.t 24)), none⟩, ⟨some 26, .val (.faddr 2 (.t 3)), (some (25, true))⟩, ⟨some 27, .val (.load none (.t 26)), (some (25, true))⟩, ⟨some 28, .val (.len 0 (.t 27)), (some (25, true))⟩, ⟨some 29, .val (.bin .num .leq (.t 28) (.c (.int .i64 4096))), (some (25, true))⟩, ⟨some 30, .val (.pick (.t 25) (.t 29) (.c (.bool false))), none⟩, ⟨some 31, .val (.mov (.t 30)), none⟩, ⟨some 32, .val (.mov (.t 0)), (some (31, true))⟩, ⟨some 33, .val (.bin .num .eql (.t 32) (.c (.int .i64 8))), (some (31, true))⟩, ⟨some 34, .val (.mov (.t 33)), (some (31, true))⟩, ⟨some 35, .val (.faddr 2 (.t 3)), (some (34, false))⟩, ⟨some 36, .val (.load none (.t 35)), (some (34, false))⟩, ⟨some 37, .call (.f 63) [(.t 36)], (some (34, false))⟩, ⟨some 38, .val (.pick (.t 34) (.c (.bool true)) (.t 37)), (some (31, true))⟩, ⟨some 39, .val (.pick (.t 31) (.t 38) (.c (.bool false))), none⟩, ⟨some 4, .val (.mov (.t 39)), none⟩]
def g37_5 : IL := [⟨some 40, .val (.faddr 2 (.t 3)), none⟩, ⟨some 41, .val (.load none (.t 40)), none⟩, ⟨some 42, .val (.bin .str .neq (.t 41) (.c (.str []))), none⟩]
def g37_6 : IL := [⟨some 4, .val (.mov (.c (.bool false))), none⟩]
def g37_7 : IL := [⟨some 43, .val (.mov (.t 0)), none⟩]
def g37_8 : IL := [⟨some 45, .val (.bin .num .eql (.t 43) (.c (.int .i64 1))), none⟩, ⟨some 44, .val (.mov (.t 45)), none⟩]
def g37_9 : IL := [⟨some 46, .val (.faddr 1 (.t 3)), none⟩, ⟨some 47, .val (.load none (.t 46)), none⟩, ⟨some 48, .val (.bin .num .leq (.t 47) (.c (.int .u64 1))), none⟩, ⟨some 4, .val (.mov (.t 48)), none⟩]
def g37_10 : IL := [⟨some 50, .val (.bin .num .eql (.t 43) (.c (.int .i64 2))), none⟩, ⟨some 49, .val (.mov (.t 50)), none⟩]
def g37_11 : IL := [⟨some 51, .val (.faddr 1 (.t 3)), none⟩, ⟨some 52, .val (.load none (.t 51)), none⟩, ⟨some 53, .val (.cvi .i64 (.t 52)), none⟩, ⟨some 5, .val (.mov (.t 53)), none⟩]
def g37_12 : IL := [⟨some 54, .val (.mov (.t 5)), none⟩, ⟨some 55, .val (.bin .num .geq (.t 54) (.c (.int .i64 (-2147483648)))), none⟩, ⟨some 56, .val (.mov (.t 55)), none⟩, ⟨some 57, .val (.mov (.t 5)), (some (56, true))⟩, ⟨some 58, .val (.bin .num .leq (.t 57) (.c (.int .i64 2147483647))), (some (56, true))⟩, ⟨some 59, .val (.pick (.t 56) (.t 58) (.c (.bool false))), none⟩, ⟨some 4, .val (.mov (.t 59)), none⟩]
def g37_13 : IL := [⟨some 61, .val (.bin .num .eql (.t 43) (.c (.int .i64 4))), none⟩, ⟨some 60, .val (.mov (.t 61)), none⟩]
def g37_14 : IL := [⟨some 62, .val (.faddr 1 (.t 3)), none⟩, ⟨some 63, .val (.load none (.t 62)), none⟩, ⟨some 64, .val (.bin .num .lss (.t 63) (.c (.int .u64 4294967296))), none⟩, ⟨some 4, .val (.mov (.t 64)), none⟩]
def g37_15 : IL := [⟨some 66, .val (.bin .num .eql (.t 43) (.c (.int .i64 9))), none⟩, ⟨some 65, .val (.mov (.t 66)), none⟩]
def g37_16 : IL := [⟨some 67, .val (.faddr 1 (.t 3)), none⟩, ⟨some 68, .val (.load none (.t 67)), none⟩, ⟨some 69, .val (.bin .num .lss (.t 68) (.c (.int .u64 2147483648))), none⟩, ⟨some 4, .val (.mov (.t 69)), none⟩]
def g37_17 : IL := [⟨some 4, .val (.mov (.c (.bool true))), none⟩]
def r37 : RC := .seq (.reg g37_0) (.seq (.seq (.reg g37_1) (.cond (.t 19) (.seq (.reg g37_2) (.ret)) (.skip))) (.seq (.seq (.reg g37_3) (.cond (.t 21) (.seq (.reg g37_4) (.ret)) (.skip))) (.seq (.seq (.reg g37_5) (.cond (.t 42) (.seq (.reg g37_6) (.ret)) (.skip))) (.seq (.seq (.reg g37_7) (.block 0 (.seq (.reg g37_8) (.cond (.t 44) (.seq (.reg g37_9) (.ret)) (.seq (.reg g37_10) (.cond (.t 49) (.seq (.reg g37_11) (.seq (.reg g37_12) (.ret))) (.seq (.reg g37_13) (.cond (.t 60) (.seq (.reg g37_14) (.ret)) (.seq (.reg g37_15) (.cond (.t 65) (.seq (.reg g37_16) (.ret)) (.skip))))))))))) (.seq (.reg g37_17) (.ret))))))
def o37 : List RR := [.tmp 4]
theorem k37 : CT 37 70 r37 o37 := ck Tryz.func37 Tryz.ntmps37 (by decide +kernel)
def g60_0 : IL := [⟨some 2, .val (.mov (.c (.bool false))), none⟩]
def g60_1 : IL := [⟨some 3, .val (.mov (.t 0)), none⟩, ⟨some 4, .val (.bin .num .geq (.t 3) (.c (.int .i64 1))), none⟩, ⟨some 5, .val (.mov (.t 4)), none⟩, ⟨some 6, .val (.mov (.t 0)), (some (5, true))⟩, ⟨some 7, .val (.bin .num .leq (.t 6) (.c (.int .i64 9))), (some (5, true))⟩, ⟨some 8, .val (.pick (.t 5) (.t 7) (.c (.bool false))), none⟩, ⟨some 2, .val (.mov (.t 8)), none⟩]
def r60 : RC := .seq (.reg g60_0) (.seq (.reg g60_1) (.ret))
def o60 : List RR := [.tmp 2]
theorem k60 : CT 60 9 r60 o60 := ck Tryz.func60 Tryz.ntmps60 (by decide +kernel)
def g61_0 : IL := [⟨some 1, .boxN 1 (.t 0), none⟩, ⟨some 2, .val (.mov (.c (.bool false))), none⟩]
def g61_1 : IL := [⟨some 3, .val (.faddr 3 (.t 1)), none⟩, ⟨some 4, .val (.load none (.t 3)), none⟩, ⟨some 5, .val (.len 1 (.t 4)), none⟩, ⟨some 6, .val (.bin .num .eql (.t 5) (.c (.int .i64 0))), none⟩, ⟨some 7, .val (.mov (.t 6)), none⟩, ⟨some 8, .val (.faddr 4 (.t 1)), (some (7, true))⟩, ⟨some 9, .val (.load none (.t 8)), (some (7, true))⟩, ⟨some 10, .val (.len 1 (.t 9)), (some (7, true))⟩, ⟨some 11, .val (.bin .num .eql (.t 10) (.c (.int .i64 0))), (some (7, true))⟩, ⟨some 12, .val (.pick (.t 7) (.t 11) (.c (.bool false))), none⟩, ⟨some 13, .val (.mov (.t 12)), none⟩, ⟨some 14, .val (.faddr 5 (.t 1)), (some (13, true))⟩, ⟨some 15, .val (.load none (.t 14)), (some (13, true))⟩, ⟨some 16, .val (.len 1 (.t 15)), (some (13, true))⟩, ⟨some 17, .val (.bin .num .eql (.t 16) (.c (.int .i64 0))), (some (13, true))⟩, ⟨some 18, .val (.pick (.t 13) (.t 17) (.c (.bool false))), none⟩, ⟨some 19, .val (.mov (.t 18)), none⟩, ⟨some 20, .val (.faddr 6 (.t 1)), (some (19, true))⟩, ⟨some 21, .val (.load none (.t 20)), (some (19, true))⟩, ⟨some 22, .val (.len 1 (.t 21)), (some (19, true))⟩, ⟨some 23, .val (.bin .num .eql (.t 22) (.c (.int .i64 0))), (some (19, true))⟩, ⟨some 24, .val (.pick (.t 19) (.t 23) (.c (.bool false))), none⟩, ⟨some 2, .val (.mov (.t 24)), none⟩]
def r61 : RC := .seq (.reg g61_0) (.seq (.reg g61_1) (.ret))
def o61 : List RR := [.tmp 2]
theorem k61 : CT 61 25 r61 o61 := ck Tryz.func61 Tryz.ntmps61 (by decide +kernel)
def g62_0 : IL := [⟨some 2, .val (.mov (.c (.bool false))), none⟩]
def g62_1 : IL := [⟨some 3, .val (.mov (.t 0)), none⟩, ⟨some 4, .val (.bin .num .eql (.t 3) (.c (.int .i64 7))), none⟩, ⟨some 5, .val (.mov (.t 4)), none⟩, ⟨some 6, .val (.mov (.t 0)), (some (5, false))⟩, ⟨some 7, .val (.bin .num .eql (.t 6) (.c (.int .i64 8))), (some (5, false))⟩, ⟨some 8, .val (.pick (.t 5) (.c (.bool true)) (.t 7)), none⟩, ⟨some 2, .val (.mov (.t 8)), none⟩]
def r62 : RC := .seq (.reg g62_0) (.seq (.reg g62_1) (.ret))
def o62 : List RR := [.tmp 2]
theorem k62 : CT 62 9 r62 o62 := ck Tryz.func62 Tryz.ntmps62 (by decide +kernel)
def g15_0 : IL := [⟨some 2, .val (.mov (.c (.str []))), none⟩]
def g15_1 : IL := [⟨some 4, .val (.build [.str [], .str [], .str [], .str [], .str [], .str [], .str [], .str [], .str [], .str [], .str [], .str [], .str [], .str [], .str [], .str [], .str [], .str [], .str [], .str [], .str [], .str [], .str [], .str [], .str [], .str []] [(0, 1, (.c (.str [111, 107]))), (1, 1, (.c (.str [97, 114, 103, 117, 109, 101, 110, 116]))), (2, 1, (.c (.str [115, 121, 110, 116, 97, 120]))), (3, 1, (.c (.str [108, 105, 109, 105, 116]))), (4, 1, (.c (.str [115, 104, 111, 114, 116]))), (5, 1, (.c (.str [102, 111, 114, 109]))), (6, 1, (.c (.str [114, 97, 110, 103, 101]))), (7, 1, (.c (.str [117, 116, 102]))), (8, 1, (.c (.str [110, 97, 109, 101]))), (9, 1, (.c (.str [116, 119, 105, 99, 101]))), (10, 1, (.c (.str [110, 111, 110, 101]))), (11, 1, (.c (.str [111, 114, 100, 101, 114]))), (12, 1, (.c (.str [116, 121, 112, 101]))), (13, 1, (.c (.str [119, 105, 114, 101]))), (14, 1, (.c (.str [109, 105, 115, 115, 105, 110, 103]))), (15, 1, (.c (.str [117, 110, 105, 111, 110]))), (16, 1, (.c (.str [101, 110, 117, 109]))), (17, 1, (.c (.str [100, 101, 112, 116, 104]))), (18, 1, (.c (.str [101, 120, 116, 114, 97]))), (19, 1, (.c (.str [99, 121, 99, 108, 101]))), (20, 1, (.c (.str [115, 116, 97, 116, 101]))), (21, 1, (.c (.str [100, 101, 110, 105, 101, 100]))), (22, 1, (.c (.str [102, 117, 108, 108]))), (23, 1, (.c (.str [108, 97, 116, 101]))), (24, 1, (.c (.str [99, 111, 110, 102, 108, 105, 99, 116]))), (25, 1, (.c (.str [115, 117, 109])))]), none⟩, ⟨some 3, .allocN 3 [.str [], .str [], .str [], .str [], .str [], .str [], .str [], .str [], .str [], .str [], .str [], .str [], .str [], .str [], .str [], .str [], .str [], .str [], .str [], .str [], .str [], .str [], .str [], .str [], .str [], .str []], none⟩, ⟨none, .store 26 (.t 3) (.t 4), none⟩]
def g15_2 : IL := [⟨some 5, .val (.mov (.t 0)), none⟩, ⟨some 6, .val (.bin .num .lss (.t 5) (.c (.int .i64 0))), none⟩, ⟨some 7, .val (.mov (.t 6)), none⟩, ⟨some 8, .val (.mov (.t 0)), (some (7, false))⟩, ⟨some 9, .val (.bin .num .geq (.t 8) (.c (.int .i64 26))), (some (7, false))⟩, ⟨some 10, .val (.pick (.t 7) (.c (.bool true)) (.t 9)), none⟩]
def g15_3 : IL := [⟨some 2, .val (.mov (.c (.str [117, 110, 107, 110, 111, 119, 110]))), none⟩]
def g15_4 : IL := [⟨some 11, .val (.mov (.t 0)), none⟩, ⟨some 12, .val (.iaddr 1 (some 26) (.t 3) (.t 11)), none⟩, ⟨some 13, .val (.load none (.t 12)), none⟩, ⟨some 2, .val (.mov (.t 13)), none⟩]
def r15 : RC := .seq (.reg g15_0) (.seq (.reg g15_1) (.seq (.seq (.reg g15_2) (.cond (.t 10) (.seq (.reg g15_3) (.ret)) (.skip))) (.seq (.reg g15_4) (.ret))))
def o15 : List RR := [.tmp 2]
theorem k15 : CT 15 14 r15 o15 := ck Tryz.func15 Tryz.ntmps15 (by decide +kernel)
def g14_0 : IL := [⟨some 4, .val (.mov (.c (.int .i64 0))), none⟩, ⟨some 5, .val (.mov (.c (.nili))), none⟩]
def g14_1 : IL := [⟨some 6, .val (.mov (.t 0)), none⟩, ⟨some 7, .callF (.f 23) [(.t 6)], none⟩]
def g14_2 : IL := [⟨some 8, .val (.mov (.t 0)), none⟩, ⟨some 9, .val (.mov (.t 0)), none⟩, ⟨some 10, .val (.nilck (.t 9)), none⟩, ⟨some 11, .val (.faddr 1 (.t 10)), none⟩, ⟨some 12, .val (.load none (.t 11)), none⟩, ⟨some 13, .val (.mov (.t 1)), none⟩, ⟨some 14, .appS 5 (.t 12) (.t 13), none⟩, ⟨some 15, .val (.nilck (.t 8)), none⟩, ⟨some 16, .val (.faddr 1 (.t 15)), none⟩, ⟨none, .store 1 (.t 16) (.t 14), none⟩]
def g14_3 : IL := [⟨some 17, .val (.mov (.t 1)), none⟩, ⟨some 18, .val (.len 0 (.t 17)), none⟩, ⟨some 4, .val (.mov (.t 18)), none⟩, ⟨some 5, .val (.mov (.c (.nili))), none⟩]
def r14 : RC := .seq (.reg g14_0) (.seq (.reg g14_1) (.seq (.reg g14_2) (.seq (.reg g14_3) (.ret))))
def o14 : List RR := [.tmp 4, .tmp 5]
theorem k14 : CT 14 19 r14 o14 := ck Tryz.func14 Tryz.ntmps14 (by decide +kernel)
def g16_0 : IL := [⟨some 2, .val (.mov (.c (.str []))), none⟩]
def g16_1 : IL := [⟨some 3, .val (.mov (.t 0)), none⟩, ⟨some 4, .val (.nilck (.t 3)), none⟩, ⟨some 5, .val (.faddr 1 (.t 4)), none⟩, ⟨some 6, .val (.loado none (.t 5)), none⟩, ⟨some 7, .usd (.t 6), none⟩, ⟨some 8, .val (.mov (.t 0)), none⟩, ⟨some 9, .val (.nilck (.t 8)), none⟩, ⟨some 10, .val (.faddr 1 (.t 9)), none⟩, ⟨some 11, .val (.loado none (.t 10)), none⟩, ⟨some 12, .val (.len 1 (.t 11)), none⟩, ⟨some 13, .ustr 5 (.t 7) (.t 12), none⟩, ⟨some 2, .val (.mov (.t 13)), none⟩]
def r16 : RC := .seq (.reg g16_0) (.seq (.draw g16_1) (.ret))
def o16 : List RR := [.tmp 2]
theorem k16 : CT 16 14 r16 o16 := ck Tryz.func16 Tryz.ntmps16 (by decide +kernel)
def g23_0 : IL := [⟨some 2, .val (.mov (.t 0)), none⟩, ⟨some 3, .val (.nilck (.t 2)), none⟩, ⟨some 4, .val (.faddr 0 (.t 3)), none⟩, ⟨some 5, .val (.load none (.t 4)), none⟩, ⟨some 6, .val (.bin .ptr .eql (.t 5) (.c (.nilp))), none⟩]
def g23_1 : IL := [⟨some 7, .val (.mov (.t 0)), none⟩, ⟨some 8, .val (.mov (.t 0)), none⟩, ⟨some 9, .val (.toU (.t 8)), none⟩, ⟨some 10, .val (.same (.t 9)), none⟩, ⟨some 11, .val (.ofU 46 2 (.t 10)), none⟩, ⟨some 12, .val (.nilck (.t 7)), none⟩, ⟨some 13, .val (.faddr 0 (.t 12)), none⟩, ⟨none, .store 1 (.t 13) (.t 11), none⟩]
def g23_2 : IL := [⟨some 14, .val (.mov (.t 0)), none⟩, ⟨some 15, .val (.nilck (.t 14)), none⟩, ⟨some 16, .val (.faddr 0 (.t 15)), none⟩, ⟨some 17, .val (.load none (.t 16)), none⟩, ⟨some 18, .val (.mov (.t 0)), none⟩, ⟨some 19, .val (.bin .ptr .neq (.t 17) (.t 18)), none⟩]
def r23 : RC := .seq (.reg g23_0) (.cond (.t 6) (.reg g23_1) (.seq (.reg g23_2) (.cond (.t 19) (.no) (.skip))))
def o23 : List RR := []
theorem k23 : CT 23 20 r23 o23 := ck Tryz.func23 Tryz.ntmps23 (by decide +kernel)
end Go.Proofs.YtaobkcgjidhpkaaGreatDoor.Rc

namespace Go.Proofs.YtaobkcgjidhpkaaGreatDoor.Bt
open Go

theorem wu64 (n : Int) : IntKind.u64.wrap n = n % 18446744073709551616 := by simp [IntKind.wrap, IntKind.bits, IntKind.signed]
theorem wu8 (n : Int) : IntKind.u8.wrap n = n % 256 := by simp [IntKind.wrap, IntKind.bits, IntKind.signed]
theorem wi64 (n : Int) : IntKind.i64.wrap n = (n + 9223372036854775808) % 18446744073709551616 - 9223372036854775808 := IntKind.wrap_i64 n

end Go.Proofs.YtaobkcgjidhpkaaGreatDoor.Bt

set_option linter.unusedSimpArgs false
namespace Go.Proofs.YtaobkcgjidhpkaaGreatDoor.Va
open Go Am Rc Bt

def RB (v : AV) : Prop := ∃ b, v = .bool b
theorem rb (b : Bool) : RB (.bool b) = True := eq_true ⟨b, rfl⟩
theorem RB.rf {v : AV} {l : List AV} (h : RB v) : v.rf = true ∧ (AV.rfL l = true ∨ v.nl = true) := by
  obtain ⟨b, rfl⟩ := h
  exact ⟨rfl, .inr rfl⟩

end Go.Proofs.YtaobkcgjidhpkaaGreatDoor.Va

set_option linter.unusedSimpArgs false
namespace Go.Proofs.YtaobkcgjidhpkaaGreatDoor.Va
open Go Am Rc Bt

theorem wi64_s (i : Nat) (n : Nat) (h : i < n) (hn : n ≤ maxLen) : IntKind.i64.wrap ((i : Int) + 1) = ((i + 1 : Nat) : Int) := by
  simp only [maxLen] at hn
  rw [wi64]; omega

theorem lt_t {i n : Nat} (h : i < n) : decide ((i : Int) < (n : Int)) = true := by simp; omega
theorem lt_f {i n : Nat} (h : ¬ i < n) : decide ((i : Int) < (n : Int)) = false := by simp; omega
theorem nneg (i : Nat) : (0 ≤ (i : Int)) = True := by simp

end Go.Proofs.YtaobkcgjidhpkaaGreatDoor.Va

set_option linter.unusedSimpArgs false
namespace Go.Proofs.YtaobkcgjidhpkaaGreatDoor.Va
open Go Am Rc Bt

theorem c23 (p v : AV) (h fr : Nat → Ob) (m : Mem) (hs : fr 2046 = .cells [p, v]) (hp : p = .nilp ∨ p = .ptr 0 2046 0) :
    ACalls Tryz.prog 23 [.ptr 1 2046 0] (h :: fr :: m) fun x m1 => x = .tup [] ∧ m1 = h :: upd fr 2046 (.cells [.ptr 0 2046 0, v]) :: m := by
  refine k23.go (by simp) ?_
  rcases hp with rfl | rfl
  · simp only [g23_0, g23_1, g23_2, r23, o23, hs, RR.evL, eES, eEX, Nat.reduceBEq, Int.reduceLE, Int.reduceLT, Int.reduceToNat, Int.reduceEq, ↓reduceIte, reduceCtorEq, Nat.reducePow, Nat.reduceAdd, Nat.reduceLeDiff, Nat.reduceLT, Nat.reduceSub, Nat.reduceEqDiff]
  · simp only [g23_0, g23_1, g23_2, r23, o23, hs, RR.evL, upd_eta _ _ _ hs, eES, eEX, Nat.reduceBEq, Int.reduceLE, Int.reduceLT, Int.reduceToNat, Int.reduceEq, ↓reduceIte, reduceCtorEq, Nat.reducePow, Nat.reduceAdd, Nat.reduceLeDiff, Nat.reduceLT, Nat.reduceSub, Nat.reduceEqDiff]

structure Bld (fr : Nat → Ob) (bs : List UInt8) : Prop where
  mk ::
  cell : ∃ p g, fr 2046 = .cells [p, .vec 0 2005 g 0 bs.length false] ∧ fr 2005 = .vec g 1 (bytesAV bs) ∧ (p = .nilp ∨ p = .ptr 0 2046 0)

def wrote (fr : Nat → Ob) (g : Nat) (bs : List UInt8) : Nat → Ob :=
  upd (upd fr 2005 (.vec g 1 (bytesAV bs))) 2046 (.cells [.ptr 0 2046 0, .vec 0 2005 g 0 bs.length false])

theorem wrote_bld (fr : Nat → Ob) (g : Nat) (bs : List UInt8) : Bld (wrote fr g bs) bs :=
  ⟨_, g, by rw [wrote, upd_same], by rw [wrote, upd_ne _ _ (by decide), upd_same], .inr rfl⟩

theorem wrote_ne {fr : Nat → Ob} {g : Nat} {bs : List UInt8} {s : Nat} (h1 : s ≠ 2005) (h2 : s ≠ 2046) : wrote fr g bs s = fr s := by
  rw [wrote, upd_ne _ _ h2, upd_ne _ _ h1]

theorem c14 (bs t : List UInt8) (fr : Nat → Ob) (m : Mem) (h : Bld fr bs) (hl : bs.length + t.length ≤ 140737488355328) :
    ∃ g, ACalls Tryz.prog 14 [.ptr 0 2046 0, .str t] (fr :: m) fun x m1 => x = .tup [.int .i64 (t.length : Int), .nili] ∧ m1 = wrote fr g (bs ++ t) :: m := by
  obtain ⟨p, g, h1, h2, h3⟩ := h.cell
  refine ⟨g + 1, ?_⟩
  refine k14.go (by simp) ?_
  simp only [g14_0, g14_1, g14_2, g14_3, r14, o14, h1, h2, eES, eEX, Nat.reduceBEq, Int.reduceLE, Int.reduceLT, Int.reduceToNat, Int.reduceEq, ↓reduceIte, reduceCtorEq, Nat.reducePow, Nat.reduceAdd, Nat.reduceLeDiff, Nat.reduceLT, Nat.reduceSub, Nat.reduceEqDiff]
  refine aops_callF (c23 p _ _ fr m h1 h3) rfl ?_
  simp only [h1, h2, eES, eEX, Nat.reduceBEq, Int.reduceLE, Int.reduceLT, Int.reduceToNat, Int.reduceEq, ↓reduceIte, reduceCtorEq, Nat.reducePow, Nat.reduceAdd, Nat.reduceLeDiff, Nat.reduceLT, Nat.reduceSub, Nat.reduceEqDiff]
  refine aops_appS (xs := bytesAV bs) rfl (by simp only [h2, eES, eEX, Nat.reduceBEq, Int.reduceLE, Int.reduceLT, Int.reduceToNat, Int.reduceEq, ↓reduceIte, reduceCtorEq, Nat.reducePow, Nat.reduceAdd, Nat.reduceLeDiff, Nat.reduceLT, Nat.reduceSub, Nat.reduceEqDiff]) rfl (by simp [bytesAV]) rfl hl ?_
  have hb : bytesAV bs ++ bytesAV t = bytesAV (bs ++ t) := by simp [bytesAV]
  have hn : bs.length + t.length = (bs ++ t).length := by simp
  simp only [h1, h2, hb, hn, eES, eEX, Nat.reduceBEq, Int.reduceLE, Int.reduceLT, Int.reduceToNat, Int.reduceEq, ↓reduceIte, reduceCtorEq, Nat.reducePow, Nat.reduceAdd, Nat.reduceLeDiff, Nat.reduceLT, Nat.reduceSub, Nat.reduceEqDiff]
  rw [upd_comm _ _ _ _ _ (by decide), upd_upd, upd_comm _ _ _ _ _ (by decide), wrote]

def spent (fr : Nat → Ob) (bs : List UInt8) : Nat → Ob :=
  if bs.length = 0 then fr else match fr 2005 with
    | .vec g _ _ => upd fr 2005 (.vec (g + 1) 1 [])
    | _ => fr

theorem c16 (bs : List UInt8) (fr : Nat → Ob) (m : Mem) (h : Bld fr bs) (hl : bs.length ≤ 140737488355328) :
    ACalls Tryz.prog 16 [.ptr 0 2046 0] (fr :: m) fun x m1 => x = .str bs ∧ m1 = spent fr bs :: m := by
  obtain ⟨p, g, h1, h2, h3⟩ := h.cell
  refine k16.go (by simp) ?_
  simp only [g16_0, g16_1, r16, o16, h1, h2, eES, eEX, Nat.reduceBEq, Int.reduceLE, Int.reduceLT, Int.reduceToNat, Int.reduceEq, ↓reduceIte, reduceCtorEq, Nat.reducePow, Nat.reduceAdd, Nat.reduceLeDiff, Nat.reduceLT, Nat.reduceSub, Nat.reduceEqDiff]
  refine ⟨1, 2005, g, bs.length, 1, bytesAV bs, by decide, rfl, h2, ?_⟩
  by_cases h0 : bs.length = 0
  · have hb : bs = [] := List.eq_nil_of_length_eq_zero h0
    subst hb
    simp only [updO, h1, h2, List.length_nil, Int.natCast_zero, eES, eEX, Nat.reduceBEq, Int.reduceLE, Int.reduceLT, Int.reduceToNat, Int.reduceEq, ↓reduceIte, reduceCtorEq, Nat.reducePow, Nat.reduceAdd, Nat.reduceLeDiff, Nat.reduceLT, Nat.reduceSub, Nat.reduceEqDiff]
    refine .inl ⟨rfl, rfl, ?_⟩
    simp only [updO, h1, h2, spent, List.length_nil, eES, eEX, Nat.reduceBEq, Int.reduceLE, Int.reduceLT, Int.reduceToNat, Int.reduceEq, ↓reduceIte, reduceCtorEq, Nat.reducePow, Nat.reduceAdd, Nat.reduceLeDiff, Nat.reduceLT, Nat.reduceSub, Nat.reduceEqDiff]
  · simp only [h0, updO, h1, h2, eES, eEX, Nat.reduceBEq, Int.reduceLE, Int.reduceLT, Int.reduceToNat, Int.reduceEq, ↓reduceIte, reduceCtorEq, Nat.reducePow, Nat.reduceAdd, Nat.reduceLeDiff, Nat.reduceLT, Nat.reduceSub, Nat.reduceEqDiff]
    refine .inr ⟨1, g, bs.length, bytesAV bs, bs, rfl, rfl, h2, by simp [bytesAV], h0, List.take_of_length_le (by simp [bytesAV]), ?_⟩
    simp only [h0, updO, h1, h2, spent, eES, eEX, Nat.reduceBEq, Int.reduceLE, Int.reduceLT, Int.reduceToNat, Int.reduceEq, ↓reduceIte, reduceCtorEq, Nat.reducePow, Nat.reduceAdd, Nat.reduceLeDiff, Nat.reduceLT, Nat.reduceSub, Nat.reduceEqDiff]

end Go.Proofs.YtaobkcgjidhpkaaGreatDoor.Va

namespace Go.Proofs.YtaobkcgjidhpkaaGreatDoor.Ev
open Go Am Rc

def tab : Tab := fun k => match k with
  | 4 => some (r4, o4, 27)
  | 9 => some (r9, o9, 51)
  | 10 => some (r10, o10, 13)
  | 11 => some (r11, o11, 21)
  | 12 => some (r12, o12, 13)
  | 18 => some (r18, o18, 67)
  | 19 => some (r19, o19, 121)
  | 20 => some (r20, o20, 130)
  | 21 => some (r21, o21, 64)
  | 25 => some (r25, o25, 45)
  | 26 => some (r26, o26, 15)
  | 27 => some (r27, o27, 19)
  | 28 => some (r28, o28, 29)
  | 29 => some (r29, o29, 23)
  | 30 => some (r30, o30, 43)
  | 31 => some (r31, o31, 89)
  | 32 => some (r32, o32, 72)
  | 33 => some (r33, o33, 61)
  | 34 => some (r34, o34, 91)
  | 43 => some (r43, o43, 7)
  | 44 => some (r44, o44, 68)
  | 46 => some (r46, o46, 19)
  | 47 => some (r47, o47, 8)
  | 48 => some (r48, o48, 23)
  | 49 => some (r49, o49, 12)
  | 50 => some (r50, o50, 76)
  | 51 => some (r51, o51, 54)
  | 52 => some (r52, o52, 11)
  | 53 => some (r53, o53, 15)
  | 54 => some (r54, o54, 43)
  | 55 => some (r55, o55, 21)
  | 66 => some (r66, o66, 99)
  | 67 => some (r67, o67, 12)
  | 68 => some (r68, o68, 19)
  | 69 => some (r69, o69, 9)
  | 70 => some (r70, o70, 19)
  | 72 => some (r72, o72, 18)
  | 73 => some (r73, o73, 8)
  | 74 => some (r74, o74, 20)
  | 75 => some (r75, o75, 12)
  | 76 => some (r76, o76, 8)
  | 77 => some (r77, o77, 40)
  | 78 => some (r78, o78, 6)
  | 79 => some (r79, o79, 28)
  | 80 => some (r80, o80, 68)
  | 81 => some (r81, o81, 19)
  | 90 => some (r90, o90, 56)
  | 91 => some (r91, o91, 27)
  | 92 => some (r92, o92, 20)
  | 93 => some (r93, o93, 19)
  | 94 => some (r94, o94, 42)
  | 95 => some (r95, o95, 79)
  | 97 => some (r97, o97, 106)
  | 98 => some (r98, o98, 19)
  | 99 => some (r99, o99, 9)
  | 100 => some (r100, o100, 19)
  | 101 => some (r101, o101, 9)
  | 102 => some (r102, o102, 8)
  | 103 => some (r103, o103, 19)
  | 104 => some (r104, o104, 45)
  | 105 => some (r105, o105, 61)
  | 106 => some (r106, o106, 77)
  | 107 => some (r107, o107, 19)
  | 110 => some (r110, o110, 9)
  | 111 => some (r111, o111, 10)
  | 112 => some (r112, o112, 19)
  | 113 => some (r113, o113, 30)
  | 114 => some (r114, o114, 20)
  | 115 => some (r115, o115, 11)
  | 116 => some (r116, o116, 112)
  | 117 => some (r117, o117, 52)
  | 118 => some (r118, o118, 6)
  | 119 => some (r119, o119, 15)
  | 120 => some (r120, o120, 11)
  | 121 => some (r121, o121, 10)
  | 124 => some (r124, o124, 8)
  | 125 => some (r125, o125, 19)
  | 126 => some (r126, o126, 8)
  | 127 => some (r127, o127, 20)
  | 128 => some (r128, o128, 9)
  | 129 => some (r129, o129, 10)
  | 130 => some (r130, o130, 9)
  | 131 => some (r131, o131, 9)
  | 132 => some (r132, o132, 39)
  | 133 => some (r133, o133, 28)
  | 134 => some (r134, o134, 14)
  | 135 => some (r135, o135, 19)
  | 136 => some (r136, o136, 8)
  | 137 => some (r137, o137, 19)
  | 138 => some (r138, o138, 8)
  | 139 => some (r139, o139, 27)
  | 140 => some (r140, o140, 12)
  | 141 => some (r141, o141, 5)
  | 142 => some (r142, o142, 19)
  | 143 => some (r143, o143, 57)
  | 144 => some (r144, o144, 50)
  | 145 => some (r145, o145, 59)
  | 146 => some (r146, o146, 16)
  | 147 => some (r147, o147, 31)
  | 148 => some (r148, o148, 20)
  | 149 => some (r149, o149, 36)
  | 150 => some (r150, o150, 9)
  | 152 => some (r152, o152, 9)
  | 153 => some (r153, o153, 14)
  | 154 => some (r154, o154, 20)
  | 155 => some (r155, o155, 28)
  | 156 => some (r156, o156, 28)
  | 157 => some (r157, o157, 9)
  | 158 => some (r158, o158, 29)
  | 159 => some (r159, o159, 66)
  | 160 => some (r160, o160, 9)
  | 162 => some (r162, o162, 19)
  | 163 => some (r163, o163, 9)
  | 164 => some (r164, o164, 9)
  | 165 => some (r165, o165, 34)
  | 166 => some (r166, o166, 11)
  | 167 => some (r167, o167, 16)
  | 168 => some (r168, o168, 56)
  | 169 => some (r169, o169, 27)
  | 170 => some (r170, o170, 19)
  | 171 => some (r171, o171, 19)
  | 172 => some (r172, o172, 9)
  | 173 => some (r173, o173, 50)
  | 174 => some (r174, o174, 34)
  | 175 => some (r175, o175, 8)
  | 176 => some (r176, o176, 19)
  | 177 => some (r177, o177, 8)
  | 178 => some (r178, o178, 8)
  | 179 => some (r179, o179, 16)
  | 180 => some (r180, o180, 15)
  | 181 => some (r181, o181, 10)
  | 182 => some (r182, o182, 19)
  | 184 => some (r184, o184, 143)
  | 185 => some (r185, o185, 18)
  | 186 => some (r186, o186, 7)
  | 187 => some (r187, o187, 117)
  | 188 => some (r188, o188, 8)
  | 190 => some (r190, o190, 6)
  | 191 => some (r191, o191, 81)
  | 193 => some (r193, o193, 39)
  | _ => none

theorem tab_ok : TabOk Tryz.prog tab := by
  intro k c rs N h
  unfold tab at h
  split at h
  · cases h; exact k4
  · cases h; exact k9
  · cases h; exact k10
  · cases h; exact k11
  · cases h; exact k12
  · cases h; exact k18
  · cases h; exact k19
  · cases h; exact k20
  · cases h; exact k21
  · cases h; exact k25
  · cases h; exact k26
  · cases h; exact k27
  · cases h; exact k28
  · cases h; exact k29
  · cases h; exact k30
  · cases h; exact k31
  · cases h; exact k32
  · cases h; exact k33
  · cases h; exact k34
  · cases h; exact k43
  · cases h; exact k44
  · cases h; exact k46
  · cases h; exact k47
  · cases h; exact k48
  · cases h; exact k49
  · cases h; exact k50
  · cases h; exact k51
  · cases h; exact k52
  · cases h; exact k53
  · cases h; exact k54
  · cases h; exact k55
  · cases h; exact k66
  · cases h; exact k67
  · cases h; exact k68
  · cases h; exact k69
  · cases h; exact k70
  · cases h; exact k72
  · cases h; exact k73
  · cases h; exact k74
  · cases h; exact k75
  · cases h; exact k76
  · cases h; exact k77
  · cases h; exact k78
  · cases h; exact k79
  · cases h; exact k80
  · cases h; exact k81
  · cases h; exact k90
  · cases h; exact k91
  · cases h; exact k92
  · cases h; exact k93
  · cases h; exact k94
  · cases h; exact k95
  · cases h; exact k97
  · cases h; exact k98
  · cases h; exact k99
  · cases h; exact k100
  · cases h; exact k101
  · cases h; exact k102
  · cases h; exact k103
  · cases h; exact k104
  · cases h; exact k105
  · cases h; exact k106
  · cases h; exact k107
  · cases h; exact k110
  · cases h; exact k111
  · cases h; exact k112
  · cases h; exact k113
  · cases h; exact k114
  · cases h; exact k115
  · cases h; exact k116
  · cases h; exact k117
  · cases h; exact k118
  · cases h; exact k119
  · cases h; exact k120
  · cases h; exact k121
  · cases h; exact k124
  · cases h; exact k125
  · cases h; exact k126
  · cases h; exact k127
  · cases h; exact k128
  · cases h; exact k129
  · cases h; exact k130
  · cases h; exact k131
  · cases h; exact k132
  · cases h; exact k133
  · cases h; exact k134
  · cases h; exact k135
  · cases h; exact k136
  · cases h; exact k137
  · cases h; exact k138
  · cases h; exact k139
  · cases h; exact k140
  · cases h; exact k141
  · cases h; exact k142
  · cases h; exact k143
  · cases h; exact k144
  · cases h; exact k145
  · cases h; exact k146
  · cases h; exact k147
  · cases h; exact k148
  · cases h; exact k149
  · cases h; exact k150
  · cases h; exact k152
  · cases h; exact k153
  · cases h; exact k154
  · cases h; exact k155
  · cases h; exact k156
  · cases h; exact k157
  · cases h; exact k158
  · cases h; exact k159
  · cases h; exact k160
  · cases h; exact k162
  · cases h; exact k163
  · cases h; exact k164
  · cases h; exact k165
  · cases h; exact k166
  · cases h; exact k167
  · cases h; exact k168
  · cases h; exact k169
  · cases h; exact k170
  · cases h; exact k171
  · cases h; exact k172
  · cases h; exact k173
  · cases h; exact k174
  · cases h; exact k175
  · cases h; exact k176
  · cases h; exact k177
  · cases h; exact k178
  · cases h; exact k179
  · cases h; exact k180
  · cases h; exact k181
  · cases h; exact k182
  · cases h; exact k184
  · cases h; exact k185
  · cases h; exact k186
  · cases h; exact k187
  · cases h; exact k188
  · cases h; exact k190
  · cases h; exact k191
  · cases h; exact k193
  · cases h

end Go.Proofs.YtaobkcgjidhpkaaGreatDoor.Ev

namespace Go.Proofs.YtaobkcgjidhpkaaGreatDoor.Ev
open Go Am Rc

def nat : Cal := fun _ _ _ => none

theorem nat_ok : CalOk Tryz.prog nat := by
  intro k args m v m' h
  cases h

end Go.Proofs.YtaobkcgjidhpkaaGreatDoor.Ev

set_option linter.unusedSimpArgs false
namespace Go.Proofs.YtaobkcgjidhpkaaGreatDoor.Va
open Go Am Rc Bt Br

def knf (f : Int) : Bool := f == 1 || f == 2 || f == 4
def ga (k : Int) : Bool := k == 1 || k == 2 || k == 11 || k == 12 || k == 17 || k == 18 || k == 19 || k == 20 || k == 21 || k == 22 || k == 10
def sfa (k f : Int) : Bool := knf f && (bif ga k then true else bif k == 3 || k == 15 then !(f == 4) else bif k == 5 || k == 16 then !(f == 4) else bif k == 9 then f == 1 else false)
def sfb (k f : Int) : Bool := knf f && (bif ga k then true else bif k == 4 || k == 14 then !(f == 4) else bif k == 5 || k == 16 then !(f == 4) else bif k == 9 then f == 1 else false)
theorem kinds (k : Int) : (k = 1 ∨ k = 2 ∨ k = 3 ∨ k = 4 ∨ k = 5 ∨ k = 6 ∨ k = 7 ∨ k = 8 ∨ k = 9 ∨ k = 10 ∨ k = 11 ∨ k = 12 ∨ k = 13 ∨ k = 14 ∨ k = 15 ∨ k = 16 ∨ k = 17 ∨ k = 18 ∨ k = 19 ∨ k = 20 ∨ k = 21 ∨ k = 22) ∨ (k < 1 ∨ 22 < k) := by omega
theorem off_kind {k : Int} (h : k < 1 ∨ 22 < k) {c : Int} (hc : 1 ≤ c ∧ c ≤ 22) : (k == c) = false := by
  rw [beq_eq_false_iff_ne]
  omega
theorem sf_off {k : Int} (h : k < 1 ∨ 22 < k) (f : Int) : sfa k f = false ∧ sfb k f = false := by
  have o := fun (c : Int) (hc : 1 ≤ c ∧ c ≤ 22) => off_kind h hc
  unfold sfa sfb ga
  rw [o 1 (by decide), o 2 (by decide), o 3 (by decide), o 4 (by decide), o 5 (by decide), o 9 (by decide), o 10 (by decide), o 11 (by decide), o 12 (by decide), o 14 (by decide), o 15 (by decide), o 16 (by decide), o 17 (by decide), o 18 (by decide), o 19 (by decide), o 20 (by decide), o 21 (by decide), o 22 (by decide)]
  simp

theorem y12 (f : Int) : Fn1 Tryz.prog 12 [.int .i64 f] (.bool (knf f)) := by
  refine k12.fn (by simp) ?_
  simp only [g12_0, g12_1, r12, o12, knf, eES, eEX, Nat.reduceBEq, Int.reduceLE, Int.reduceLT, Int.reduceToNat, Int.reduceEq, ↓reduceIte, reduceCtorEq, Nat.reducePow, Nat.reduceAdd, Nat.reduceLeDiff, Nat.reduceLT, Nat.reduceSub, Nat.reduceEqDiff]
  cases a1 : (f == 1) <;> cases a2 : (f == 2) <;> simp only [a1, a2, Bool.true_or, Bool.false_or, eES, eEX, Nat.reduceBEq, Int.reduceLE, Int.reduceLT, Int.reduceToNat, Int.reduceEq, ↓reduceIte, reduceCtorEq, Nat.reducePow, Nat.reduceAdd, Nat.reduceLeDiff, Nat.reduceLT, Nat.reduceSub, Nat.reduceEqDiff]

section
variable (k n f : Int) (a b c : List UInt8)
theorem y5 : Fn1 Tryz.prog 5 [.agg [.int .i64 k, .str a, .int .i64 n, .str b, .str c], .int .i64 f] (.tup [.bool (sfa k f), .bool (sfb k f)]) := by
  refine k5.fn (by simp) ?_
  simp only [g5_0, g5_1, g5_2, g5_3, g5_4, g5_5, g5_6, g5_7, g5_8, g5_9, g5_10, g5_11, g5_12, g5_13, g5_14, g5_15, g5_16, g5_17, g5_18, g5_19, g5_20, g5_21, g5_22, g5_23, g5_24, g5_25, g5_26, g5_27, g5_28, r5, o5, Int.reduceBEq, Int.reduceBNe, eES, eEX, Nat.reduceBEq, Int.reduceLE, Int.reduceLT, Int.reduceToNat, Int.reduceEq, ↓reduceIte, reduceCtorEq, Nat.reducePow, Nat.reduceAdd, Nat.reduceLeDiff, Nat.reduceLT, Nat.reduceSub, Nat.reduceEqDiff]
  refine aops_call (y12 f) rfl rfl rfl (.inl rfl) ?_
  cases hf : knf f
  · simp only [sfa, sfb, hf, Bool.false_and, Int.reduceBEq, Int.reduceBNe, eES, eEX, Nat.reduceBEq, Int.reduceLE, Int.reduceLT, Int.reduceToNat, Int.reduceEq, ↓reduceIte, reduceCtorEq, Nat.reducePow, Nat.reduceAdd, Nat.reduceLeDiff, Nat.reduceLT, Nat.reduceSub, Nat.reduceEqDiff]
  rcases kinds k with h | h
  · rcases h with rfl | rfl | rfl | rfl | rfl | rfl | rfl | rfl | rfl | rfl | rfl | rfl | rfl | rfl | rfl | rfl | rfl | rfl | rfl | rfl | rfl | rfl <;>
      simp only [sfa, sfb, ga, hf, Bool.true_and, Int.reduceBEq, Int.reduceBNe, eES, eEX, Nat.reduceBEq, Int.reduceLE, Int.reduceLT, Int.reduceToNat, Int.reduceEq, ↓reduceIte, reduceCtorEq, Nat.reducePow, Nat.reduceAdd, Nat.reduceLeDiff, Nat.reduceLT, Nat.reduceSub, Nat.reduceEqDiff] <;> (try rfl)
  · obtain ⟨e1, e2⟩ := sf_off h f
    have o := fun (c : Int) (hc : 1 ≤ c ∧ c ≤ 22) => off_kind h hc
    rw [e1, e2]
    simp only [o 1 (by decide), o 2 (by decide), o 3 (by decide), o 4 (by decide), o 5 (by decide), o 9 (by decide), o 10 (by decide), o 11 (by decide), o 12 (by decide), o 14 (by decide), o 15 (by decide), o 16 (by decide), o 17 (by decide), o 18 (by decide), o 19 (by decide), o 20 (by decide), o 21 (by decide), o 22 (by decide), Int.reduceBEq, Int.reduceBNe, eES, eEX, Nat.reduceBEq, Int.reduceLE, Int.reduceLT, Int.reduceToNat, Int.reduceEq, ↓reduceIte, reduceCtorEq, Nat.reducePow, Nat.reduceAdd, Nat.reduceLeDiff, Nat.reduceLT, Nat.reduceSub, Nat.reduceEqDiff]

set_option maxRecDepth 8000 in
set_option maxHeartbeats 2000000 in
theorem y6 : Fn1 Tryz.prog 6 [.agg [.int .i64 k, .str a, .int .i64 n, .str b, .str c], .int .i64 f] (.tup [.bool (sfa k f), .bool (sfb k f)]) := by
  have e : knf f = (f == 1 || f == 2 || f == 4) := rfl
  have n1 : (f != 1) = !(f == 1) := rfl
  have n2 : (f != 2) = !(f == 2) := rfl
  have n4 : (f != 4) = !(f == 4) := rfl
  refine k6.fn (by simp) ?_
  simp only [g6_0, g6_1, g6_2, g6_3, g6_4, g6_5, g6_6, g6_7, g6_8, g6_9, g6_10, g6_11, g6_12, g6_13, g6_14, g6_15, g6_16, g6_17, g6_18, g6_19, g6_20, g6_21, g6_22, g6_23, g6_24, g6_25, g6_26, g6_27, g6_28, r6, o6, n1, n2, n4, Int.reduceBEq, Int.reduceBNe, eES, eEX, Nat.reduceBEq, Int.reduceLE, Int.reduceLT, Int.reduceToNat, Int.reduceEq, ↓reduceIte, reduceCtorEq, Nat.reducePow, Nat.reduceAdd, Nat.reduceLeDiff, Nat.reduceLT, Nat.reduceSub, Nat.reduceEqDiff]
  cases hf : knf f
  · rw [hf] at e
    simp only [Bool.false_eq, Bool.or_eq_false_iff] at e
    obtain ⟨⟨a1, a2⟩, a4⟩ := e
    simp only [n1, n2, n4, a1, a2, a4, Bool.not_false, sfa, sfb, hf, Bool.false_and, Int.reduceBEq, Int.reduceBNe, eES, eEX, Nat.reduceBEq, Int.reduceLE, Int.reduceLT, Int.reduceToNat, Int.reduceEq, ↓reduceIte, reduceCtorEq, Nat.reducePow, Nat.reduceAdd, Nat.reduceLeDiff, Nat.reduceLT, Nat.reduceSub, Nat.reduceEqDiff]
  rw [hf] at e
  have hc : f = 1 ∨ f = 2 ∨ f = 4 := by
    simp only [Bool.true_eq, Bool.or_eq_true, beq_iff_eq] at e
    omega
  clear e n1 n2 n4
  rcases kinds k with h | h
  · rcases h with rfl | rfl | rfl | rfl | rfl | rfl | rfl | rfl | rfl | rfl | rfl | rfl | rfl | rfl | rfl | rfl | rfl | rfl | rfl | rfl | rfl | rfl <;> rcases hc with rfl | rfl | rfl <;>
      simp only [sfa, sfb, ga, hf, Bool.not_true, Bool.not_false, Bool.true_and, Int.reduceBEq, Int.reduceBNe, eES, eEX, Nat.reduceBEq, Int.reduceLE, Int.reduceLT, Int.reduceToNat, Int.reduceEq, ↓reduceIte, reduceCtorEq, Nat.reducePow, Nat.reduceAdd, Nat.reduceLeDiff, Nat.reduceLT, Nat.reduceSub, Nat.reduceEqDiff] <;> (try rfl)
  · obtain ⟨e1, e2⟩ := sf_off h f
    have o := fun (c : Int) (hc : 1 ≤ c ∧ c ≤ 22) => off_kind h hc
    rw [e1, e2]
    rcases hc with rfl | rfl | rfl <;>
      simp only [Bool.not_true, Bool.not_false, o 1 (by decide), o 2 (by decide), o 3 (by decide), o 4 (by decide), o 5 (by decide), o 9 (by decide), o 10 (by decide), o 11 (by decide), o 12 (by decide), o 14 (by decide), o 15 (by decide), o 16 (by decide), o 17 (by decide), o 18 (by decide), o 19 (by decide), o 20 (by decide), o 21 (by decide), o 22 (by decide), Int.reduceBEq, Int.reduceBNe, eES, eEX, Nat.reduceBEq, Int.reduceLE, Int.reduceLT, Int.reduceToNat, Int.reduceEq, ↓reduceIte, reduceCtorEq, Nat.reducePow, Nat.reduceAdd, Nat.reduceLeDiff, Nat.reduceLT, Nat.reduceSub, Nat.reduceEqDiff]
end

def tabE : Tab := fun k => match k with
  | 15 => some (r15, o15, 14)
  | _ => none
theorem tabE_ok : TabOk Tryz.prog tabE := by
  intro k c rs N h
  unfold tabE at h
  split at h
  · cases h; exact k15
  · cases h
def pKs (s : List UInt8) : Option (AV × Mem) → Bool
  | some (.str t, _) => t == s
  | _ => false
theorem ern_run : ((List.range 26).all fun n => pKs (ern (n : Nat)) (evcall Ev.nat tabE (evC Ev.nat tabE 300) 15 [.int .i64 ((n : Nat) : Int)] [])) = true := by decide +kernel
theorem y15 (e : Int) : Fn1 Tryz.prog 15 [.int .i64 e] (.str (ern e)) := by
  by_cases h : 0 ≤ e ∧ e < 26
  · obtain ⟨n, rfl⟩ := Int.eq_ofNat_of_zero_le h.1
    have h1 := List.all_eq_true.1 ern_run n (List.mem_range.2 (by omega))
    unfold pKs at h1
    split at h1
    · rename_i t m' h2
      rw [beq_iff_eq] at h1
      subst h1
      exact (evcall_ok Ev.nat_ok tabE_ok (evC_ok Ev.nat_ok tabE_ok 300) _ _ _ _ _ h2).mono fun _ _ e => e.1
    · cases h1
  · have he : ern e = [117, 110, 107, 110, 111, 119, 110] := if_neg h
    rw [he]
    refine k15.fn (by simp) ?_
    simp only [g15_0, g15_1, g15_2, g15_3, g15_4, r15, o15, splice, List.take_succ_cons, List.take_zero, List.drop_succ_cons, List.drop_zero, List.drop_nil, List.append_nil, List.cons_append, List.nil_append, List.length_cons, List.length_nil, List.all_cons, List.all_nil, AV.leaf, eES, eEX, Nat.reduceBEq, Int.reduceLE, Int.reduceLT, Int.reduceToNat, Int.reduceEq, ↓reduceIte, reduceCtorEq, Nat.reducePow, Nat.reduceAdd, Nat.reduceLeDiff, Nat.reduceLT, Nat.reduceSub, Nat.reduceEqDiff]
    by_cases h0 : e < 0
    · have d0 : decide (e < 0) = true := decide_eq_true h0
      simp only [d0, splice, List.take_succ_cons, List.take_zero, List.drop_succ_cons, List.drop_zero, List.drop_nil, List.append_nil, List.cons_append, List.nil_append, List.length_cons, List.length_nil, List.all_cons, List.all_nil, AV.leaf, eES, eEX, Nat.reduceBEq, Int.reduceLE, Int.reduceLT, Int.reduceToNat, Int.reduceEq, ↓reduceIte, reduceCtorEq, Nat.reducePow, Nat.reduceAdd, Nat.reduceLeDiff, Nat.reduceLT, Nat.reduceSub, Nat.reduceEqDiff]
    · have d0 : decide (e < 0) = false := decide_eq_false h0
      have d1 : decide (e ≥ 26) = true := decide_eq_true (by omega)
      simp only [d0, d1, splice, List.take_succ_cons, List.take_zero, List.drop_succ_cons, List.drop_zero, List.drop_nil, List.append_nil, List.cons_append, List.nil_append, List.length_cons, List.length_nil, List.all_cons, List.all_nil, AV.leaf, eES, eEX, Nat.reduceBEq, Int.reduceLE, Int.reduceLT, Int.reduceToNat, Int.reduceEq, ↓reduceIte, reduceCtorEq, Nat.reducePow, Nat.reduceAdd, Nat.reduceLeDiff, Nat.reduceLT, Nat.reduceSub, Nat.reduceEqDiff]

end Go.Proofs.YtaobkcgjidhpkaaGreatDoor.Va

set_option linter.unusedSimpArgs false
namespace Go.Proofs.YtaobkcgjidhpkaaGreatDoor.Va
open Go Am Rc Bt Br

theorem tm10 (u : Nat) : Int.tmod ((u : Nat) : Int) 10 = ((u % 10 : Nat) : Int) := by
  rw [Int.tmod_eq_emod_of_nonneg (by omega)]; omega
theorem td10 (u : Nat) : Int.tdiv ((u : Nat) : Int) 10 = ((u / 10 : Nat) : Int) := by
  rw [Int.tdiv_eq_ediv_of_nonneg (by omega)]; omega
theorem dg8 (u : Nat) : IntKind.u8.wrap (IntKind.u64.wrap (48 + ((u % 10 : Nat) : Int))) = ((48 + u % 10 : Nat) : Int) := by
  rw [wu64, wu8]; omega
theorem wu_nat {u : Nat} (h : u < 18446744073709551616) : IntKind.u64.wrap ((u : Nat) : Int) = ((u : Nat) : Int) := by
  rw [wu64]; omega
theorem bt1 (n : Nat) : bytesOf [.int .u8 ((n : Nat) : Int)] = some [UInt8.ofNat n] := by
  simp [bytesOf]

theorem el1 (m : Mem) (n : Int) : elemsOf m (.list [.int .u8 n]) = some [.int .u8 n] := rfl

def DcI (u : Nat) (k : Nat) (st : St) : Prop :=
  ∃ f v s, st = ⟨f, [noObs], []⟩ ∧ k = v ∧ v < 18446744073709551616 ∧ (if v < 10 then [] else Lib.decDigits (v / 10)) ++ s = Lib.decDigits u ∧ f 0 = .int .u64 (v : Nat) ∧ f 3 = .str s

theorem y38 (u : Nat) (hu : u < 18446744073709551616) : Fn1 Tryz.prog 38 [.int .u64 (u : Nat)] (.str (Lib.decDigits u)) := by
  have hle := dd_len 19 u (by omega)
  refine k38.fn (by simp) ?_
  simp only [g38_0, g38_1, g38_2, g38_3, g38_4, g38_5, r38, o38, tm10, dg8, bt1, el1, Option.map_some, splice, List.take_succ_cons, List.take_zero, List.drop_succ_cons, List.drop_zero, List.drop_nil, List.append_nil, List.cons_append, List.nil_append, List.length_cons, List.length_nil, List.all_cons, List.all_nil, AV.leaf, eES, eEX, Nat.reduceBEq, Int.reduceLE, Int.reduceLT, Int.reduceToNat, Int.reduceEq, ↓reduceIte, reduceCtorEq, Nat.reducePow, Nat.reduceAdd, Nat.reduceLeDiff, Nat.reduceLT, Nat.reduceSub, Nat.reduceEqDiff]
  refine aops_bsl1 rfl ?_
  simp only [bt1, el1, Option.map_some, splice, List.take_succ_cons, List.take_zero, List.drop_succ_cons, List.drop_zero, List.drop_nil, List.append_nil, List.cons_append, List.nil_append, List.length_cons, List.length_nil, List.all_cons, List.all_nil, AV.leaf, eES, eEX, Nat.reduceBEq, Int.reduceLE, Int.reduceLT, Int.reduceToNat, Int.reduceEq, ↓reduceIte, reduceCtorEq, Nat.reducePow, Nat.reduceAdd, Nat.reduceLeDiff, Nat.reduceLT, Nat.reduceSub, Nat.reduceEqDiff]
  refine awp_loop (DcI u) _ ⟨_, u, _, rfl, rfl, hu, ?_, (by first | rfl | simp only [eES, eEX, Nat.reduceBEq, Int.reduceLE, Int.reduceLT, Int.reduceToNat, Int.reduceEq, ↓reduceIte, reduceCtorEq, Nat.reducePow, Nat.reduceAdd, Nat.reduceLeDiff, Nat.reduceLT, Nat.reduceSub, Nat.reduceEqDiff]), (by first | rfl | simp only [eES, eEX, Nat.reduceBEq, Int.reduceLE, Int.reduceLT, Int.reduceToNat, Int.reduceEq, ↓reduceIte, reduceCtorEq, Nat.reducePow, Nat.reduceAdd, Nat.reduceLeDiff, Nat.reduceLT, Nat.reduceSub, Nat.reduceEqDiff])⟩ ?_
  · conv => rhs; rw [Lib.decDigits]
    split
    · rename_i h
      rw [Nat.mod_eq_of_lt h]; rfl
    · rfl
  rintro v st ⟨f, _, s, rfl, rfl, hv, hs, h0, h3⟩
  simp only [l38_0, g38_0, g38_1, g38_2, g38_3, g38_4, g38_5, r38, o38, h0, h3, eES, eEX, Nat.reduceBEq, Int.reduceLE, Int.reduceLT, Int.reduceToNat, Int.reduceEq, ↓reduceIte, reduceCtorEq, Nat.reducePow, Nat.reduceAdd, Nat.reduceLeDiff, Nat.reduceLT, Nat.reduceSub, Nat.reduceEqDiff]
  by_cases h10 : v < 10
  · have d0 : decide (((v : Nat) : Int) ≥ 10) = false := decide_eq_false (by omega)
    rw [if_pos h10, List.nil_append] at hs
    simp only [d0, hs, h0, h3, eES, eEX, Nat.reduceBEq, Int.reduceLE, Int.reduceLT, Int.reduceToNat, Int.reduceEq, ↓reduceIte, reduceCtorEq, Nat.reducePow, Nat.reduceAdd, Nat.reduceLeDiff, Nat.reduceLT, Nat.reduceSub, Nat.reduceEqDiff]
  · have d0 : decide (((v : Nat) : Int) ≥ 10) = true := decide_eq_true (by omega)
    rw [if_neg h10] at hs
    have hlen : s.length ≤ 20 := by
      have := congrArg List.length hs
      rw [List.length_append] at this
      omega
    have hw : IntKind.u64.wrap ((v / 10 : Nat) : Int) = ((v / 10 : Nat) : Int) := wu_nat (by omega)
    have hl2 : (1 + s.length ≤ 9223372036854775807) = True := eq_true (by omega)
    simp only [d0, tm10, td10, dg8, bt1, hw, h0, h3, splice, List.take_succ_cons, List.take_zero, List.drop_succ_cons, List.drop_zero, List.drop_nil, List.append_nil, List.cons_append, List.nil_append, List.length_cons, List.length_nil, List.all_cons, List.all_nil, AV.leaf, eES, eEX, Nat.reduceBEq, Int.reduceLE, Int.reduceLT, Int.reduceToNat, Int.reduceEq, ↓reduceIte, reduceCtorEq, Nat.reducePow, Nat.reduceAdd, Nat.reduceLeDiff, Nat.reduceLT, Nat.reduceSub, Nat.reduceEqDiff]
    refine aops_bsl1 rfl ?_
    simp only [bt1, el1, Option.map_some, astr, hl2, if_true, h0, h3, splice, List.take_succ_cons, List.take_zero, List.drop_succ_cons, List.drop_zero, List.drop_nil, List.append_nil, List.cons_append, List.nil_append, List.length_cons, List.length_nil, List.all_cons, List.all_nil, AV.leaf, eES, eEX, Nat.reduceBEq, Int.reduceLE, Int.reduceLT, Int.reduceToNat, Int.reduceEq, ↓reduceIte, reduceCtorEq, Nat.reducePow, Nat.reduceAdd, Nat.reduceLeDiff, Nat.reduceLT, Nat.reduceSub, Nat.reduceEqDiff]
    refine ⟨v / 10, by omega, _, v / 10, _, rfl, rfl, by omega, ?_, (by first | rfl | simp only [eES, eEX, Nat.reduceBEq, Int.reduceLE, Int.reduceLT, Int.reduceToNat, Int.reduceEq, ↓reduceIte, reduceCtorEq, Nat.reducePow, Nat.reduceAdd, Nat.reduceLeDiff, Nat.reduceLT, Nat.reduceSub, Nat.reduceEqDiff]), (by first | rfl | simp only [eES, eEX, Nat.reduceBEq, Int.reduceLE, Int.reduceLT, Int.reduceToNat, Int.reduceEq, ↓reduceIte, reduceCtorEq, Nat.reducePow, Nat.reduceAdd, Nat.reduceLeDiff, Nat.reduceLT, Nat.reduceSub, Nat.reduceEqDiff])⟩
    rw [← hs]
    conv => rhs; rw [Lib.decDigits]
    split
    · rename_i h
      rw [Nat.mod_eq_of_lt h]; rfl
    · rw [List.append_assoc]; rfl

theorem sn0 : (!(([] : List UInt8) == [])) = false := rfl
theorem z00 : (((0 : Nat) : Int) == 0) = true := rfl
theorem f60 : Fn1 Tryz.prog 60 [.int .i64 3] (.bool true) := by
  refine k60.fn (by simp) ?_
  simp only [g60_0, g60_1, r60, o60, Int.reduceBEq, Int.reduceBNe, eES, eEX, Nat.reduceBEq, Int.reduceLE, Int.reduceLT, Int.reduceToNat, Int.reduceEq, ↓reduceIte, reduceCtorEq, Nat.reducePow, Nat.reduceAdd, Nat.reduceLeDiff, Nat.reduceLT, Nat.reduceSub, Nat.reduceEqDiff]
theorem f62 : Fn1 Tryz.prog 62 [.int .i64 3] (.bool false) := by
  refine k62.fn (by simp) ?_
  simp only [g62_0, g62_1, r62, o62, Int.reduceBEq, Int.reduceBNe, eES, eEX, Nat.reduceBEq, Int.reduceLE, Int.reduceLT, Int.reduceToNat, Int.reduceEq, ↓reduceIte, reduceCtorEq, Nat.reducePow, Nat.reduceAdd, Nat.reduceLeDiff, Nat.reduceLT, Nat.reduceSub, Nat.reduceEqDiff]
theorem f61 (b : Int) : Fn1 Tryz.prog 61 [.agg [.int .i64 3, .int .u64 b, .str [], .list [], .list [], .list [], .list []]] (.bool true) := by
  refine k61.fn (by simp) ?_
  simp only [g61_0, g61_1, r61, o61, z00, splice, List.take_succ_cons, List.take_zero, List.drop_succ_cons, List.drop_zero, List.drop_nil, List.append_nil, List.cons_append, List.nil_append, List.length_cons, List.length_nil, List.all_cons, List.all_nil, AV.leaf, Int.reduceBEq, Int.reduceBNe, eES, eEX, Nat.reduceBEq, Int.reduceLE, Int.reduceLT, Int.reduceToNat, Int.reduceEq, ↓reduceIte, reduceCtorEq, Nat.reducePow, Nat.reduceAdd, Nat.reduceLeDiff, Nat.reduceLT, Nat.reduceSub, Nat.reduceEqDiff]
theorem f37 (b : Int) : Fn1 Tryz.prog 37 [.int .i64 3, .agg [.int .i64 3, .int .u64 b, .str [], .list [], .list [], .list [], .list []]] (.bool true) := by
  refine k37.fn (by simp) ?_
  simp only [g37_0, g37_1, g37_2, g37_3, g37_4, g37_5, g37_6, g37_7, g37_8, g37_9, g37_10, g37_11, g37_12, g37_13, g37_14, g37_15, g37_16, g37_17, r37, o37, splice, List.take_succ_cons, List.take_zero, List.drop_succ_cons, List.drop_zero, List.drop_nil, List.append_nil, List.cons_append, List.nil_append, List.length_cons, List.length_nil, List.all_cons, List.all_nil, AV.leaf, Int.reduceBEq, Int.reduceBNe, eES, eEX, Nat.reduceBEq, Int.reduceLE, Int.reduceLT, Int.reduceToNat, Int.reduceEq, ↓reduceIte, reduceCtorEq, Nat.reducePow, Nat.reduceAdd, Nat.reduceLeDiff, Nat.reduceLT, Nat.reduceSub, Nat.reduceEqDiff]
  refine aops_call f60 rfl rfl rfl (.inl rfl) ?_
  simp only [splice, List.take_succ_cons, List.take_zero, List.drop_succ_cons, List.drop_zero, List.drop_nil, List.append_nil, List.cons_append, List.nil_append, List.length_cons, List.length_nil, List.all_cons, List.all_nil, AV.leaf, Int.reduceBEq, Int.reduceBNe, eES, eEX, Nat.reduceBEq, Int.reduceLE, Int.reduceLT, Int.reduceToNat, Int.reduceEq, ↓reduceIte, reduceCtorEq, Nat.reducePow, Nat.reduceAdd, Nat.reduceLeDiff, Nat.reduceLT, Nat.reduceSub, Nat.reduceEqDiff]
  refine aops_call (f61 b) rfl rfl rfl (.inl rfl) ?_
  simp only [splice, List.take_succ_cons, List.take_zero, List.drop_succ_cons, List.drop_zero, List.drop_nil, List.append_nil, List.cons_append, List.nil_append, List.length_cons, List.length_nil, List.all_cons, List.all_nil, AV.leaf, Int.reduceBEq, Int.reduceBNe, eES, eEX, Nat.reduceBEq, Int.reduceLE, Int.reduceLT, Int.reduceToNat, Int.reduceEq, ↓reduceIte, reduceCtorEq, Nat.reducePow, Nat.reduceAdd, Nat.reduceLeDiff, Nat.reduceLT, Nat.reduceSub, Nat.reduceEqDiff]
  refine aops_call f62 rfl rfl rfl (.inl rfl) ?_
  simp only [astr, sn0, splice, List.take_succ_cons, List.take_zero, List.drop_succ_cons, List.drop_zero, List.drop_nil, List.append_nil, List.cons_append, List.nil_append, List.length_cons, List.length_nil, List.all_cons, List.all_nil, AV.leaf, Int.reduceBEq, Int.reduceBNe, eES, eEX, Nat.reduceBEq, Int.reduceLE, Int.reduceLT, Int.reduceToNat, Int.reduceEq, ↓reduceIte, reduceCtorEq, Nat.reducePow, Nat.reduceAdd, Nat.reduceLeDiff, Nat.reduceLT, Nat.reduceSub, Nat.reduceEqDiff]

theorem f24 (n : Int) (hn : (Lit.int .i64 n).wf = true) : Fn1 Tryz.prog 24 [.agg [.int .i64 3, .int .u64 (IntKind.u64.wrap n), .str [], .list [], .list [], .list [], .list []]] (.str (Lib.itoa n)) := by
  have h1 := i64_lo hn
  have h2 := i64_hi hn
  have hw : IntKind.u64.wrap n = if n < 0 then n + 18446744073709551616 else n := by
    rw [wu64]; split <;> omega
  unfold Lib.itoa
  refine k24.fn (by simp) ?_
  simp only [g24_0, g24_1, g24_2, g24_3, g24_4, g24_5, g24_6, g24_7, g24_8, g24_9, g24_10, g24_11, g24_12, g24_13, g24_14, g24_15, g24_16, g24_17, g24_18, g24_19, g24_20, g24_21, g24_22, g24_23, g24_24, g24_25, g24_26, r24, o24, splice, List.take_succ_cons, List.take_zero, List.drop_succ_cons, List.drop_zero, List.drop_nil, List.append_nil, List.cons_append, List.nil_append, List.length_cons, List.length_nil, List.all_cons, List.all_nil, AV.leaf, Int.reduceBEq, Int.reduceBNe, eES, eEX, Nat.reduceBEq, Int.reduceLE, Int.reduceLT, Int.reduceToNat, Int.reduceEq, ↓reduceIte, reduceCtorEq, Nat.reducePow, Nat.reduceAdd, Nat.reduceLeDiff, Nat.reduceLT, Nat.reduceSub, Nat.reduceEqDiff]
  refine aops_call (f37 _) rfl rfl rfl (.inl rfl) ?_
  by_cases h0 : n < 0
  · rw [if_pos h0] at hw ⊢
    have d0 : decide (n + 18446744073709551616 ≥ 9223372036854775808) = true := decide_eq_true (by omega)
    have w1 : IntKind.u64.wrap (0 - (n + 18446744073709551616)) = ((n.natAbs : Nat) : Int) := by rw [wu64]; omega
    have hl2 : (1 + (Lib.decDigits n.natAbs).length ≤ 9223372036854775807) = True := eq_true (by have := dd_len 19 n.natAbs (by omega); omega)
    simp only [hw, d0, w1, splice, List.take_succ_cons, List.take_zero, List.drop_succ_cons, List.drop_zero, List.drop_nil, List.append_nil, List.cons_append, List.nil_append, List.length_cons, List.length_nil, List.all_cons, List.all_nil, AV.leaf, Int.reduceBEq, Int.reduceBNe, eES, eEX, Nat.reduceBEq, Int.reduceLE, Int.reduceLT, Int.reduceToNat, Int.reduceEq, ↓reduceIte, reduceCtorEq, Nat.reducePow, Nat.reduceAdd, Nat.reduceLeDiff, Nat.reduceLT, Nat.reduceSub, Nat.reduceEqDiff]
    refine aops_call (y38 n.natAbs (by omega)) rfl rfl rfl (.inl rfl) ?_
    simp only [astr, sn0, hl2, if_true, splice, List.take_succ_cons, List.take_zero, List.drop_succ_cons, List.drop_zero, List.drop_nil, List.append_nil, List.cons_append, List.nil_append, List.length_cons, List.length_nil, List.all_cons, List.all_nil, AV.leaf, Int.reduceBEq, Int.reduceBNe, eES, eEX, Nat.reduceBEq, Int.reduceLE, Int.reduceLT, Int.reduceToNat, Int.reduceEq, ↓reduceIte, reduceCtorEq, Nat.reducePow, Nat.reduceAdd, Nat.reduceLeDiff, Nat.reduceLT, Nat.reduceSub, Nat.reduceEqDiff]
  · rw [if_neg h0] at hw ⊢
    have d0 : decide (n ≥ 9223372036854775808) = false := decide_eq_false (by omega)
    have w1 : n = ((n.toNat : Nat) : Int) := by omega
    have hd := y38 n.toNat (by omega)
    rw [← w1] at hd
    simp only [hw, d0, splice, List.take_succ_cons, List.take_zero, List.drop_succ_cons, List.drop_zero, List.drop_nil, List.append_nil, List.cons_append, List.nil_append, List.length_cons, List.length_nil, List.all_cons, List.all_nil, AV.leaf, Int.reduceBEq, Int.reduceBNe, eES, eEX, Nat.reduceBEq, Int.reduceLE, Int.reduceLT, Int.reduceToNat, Int.reduceEq, ↓reduceIte, reduceCtorEq, Nat.reducePow, Nat.reduceAdd, Nat.reduceLeDiff, Nat.reduceLT, Nat.reduceSub, Nat.reduceEqDiff]
    refine aops_call hd rfl rfl rfl (.inl rfl) ?_
    simp only [splice, List.take_succ_cons, List.take_zero, List.drop_succ_cons, List.drop_zero, List.drop_nil, List.append_nil, List.cons_append, List.nil_append, List.length_cons, List.length_nil, List.all_cons, List.all_nil, AV.leaf, Int.reduceBEq, Int.reduceBNe, eES, eEX, Nat.reduceBEq, Int.reduceLE, Int.reduceLT, Int.reduceToNat, Int.reduceEq, ↓reduceIte, reduceCtorEq, Nat.reducePow, Nat.reduceAdd, Nat.reduceLeDiff, Nat.reduceLT, Nat.reduceSub, Nat.reduceEqDiff]

theorem y17 (n : Int) (hn : (Lit.int .i64 n).wf = true) : Fn1 Tryz.prog 17 [.int .i64 n] (.str (Lib.itoa n)) := by
  refine k17.fn (by simp) ?_
  simp only [g17_0, g17_1, r17, o17, splice, List.take_succ_cons, List.take_zero, List.drop_succ_cons, List.drop_zero, List.drop_nil, List.append_nil, List.cons_append, List.nil_append, List.length_cons, List.length_nil, List.all_cons, List.all_nil, AV.leaf, eES, eEX, Nat.reduceBEq, Int.reduceLE, Int.reduceLT, Int.reduceToNat, Int.reduceEq, ↓reduceIte, reduceCtorEq, Nat.reducePow, Nat.reduceAdd, Nat.reduceLeDiff, Nat.reduceLT, Nat.reduceSub, Nat.reduceEqDiff]
  refine aops_call (f24 n hn) rfl rfl rfl (.inl rfl) ?_
  simp only [splice, List.take_succ_cons, List.take_zero, List.drop_succ_cons, List.drop_zero, List.drop_nil, List.append_nil, List.cons_append, List.nil_append, List.length_cons, List.length_nil, List.all_cons, List.all_nil, AV.leaf, eES, eEX, Nat.reduceBEq, Int.reduceLE, Int.reduceLT, Int.reduceToNat, Int.reduceEq, ↓reduceIte, reduceCtorEq, Nat.reducePow, Nat.reduceAdd, Nat.reduceLeDiff, Nat.reduceLT, Nat.reduceSub, Nat.reduceEqDiff]

end Go.Proofs.YtaobkcgjidhpkaaGreatDoor.Va

set_option linter.unusedSimpArgs false
namespace Go.Proofs.YtaobkcgjidhpkaaGreatDoor.Va
open Go Am Rc Bt Br

theorem aadd {a b : List UInt8} (h : a.length + b.length ≤ 9223372036854775807) : astr .add a b = some (.str (a ++ b)) := if_pos h
theorem getF {l : List FD} {i : Nat} {x : FD} (h : l[i]? = some x) : (l.map fav)[i]? = some (.agg [.str x.dfn, .int .i64 x.num, .int .i64 x.err, .list (x.path.map fun n => .int .i64 n)]) := by
  rw [List.getElem?_map, h]; rfl
theorem getN {l : List Int} {i : Nat} {n : Int} (h : l[i]? = some n) : (l.map fun n => AV.int .i64 n)[i]? = some (.int .i64 n) := by
  rw [List.getElem?_map, h]; rfl

section
variable {M : Nat} (x : FD) (hx : x.ok M) (hp : x.path.length ≤ 100) (Q : Exit → St → Prop)
include hx hp

theorem sin (l : List FD) (i : Nat) (hi : l[i]? = some x) (s : List UInt8) (f : Fr) (h0 : f 0 = .list (l.map fav)) (h3 : f 3 = .str s) (h4 : f 4 = .int .i64 (i : Nat)) (h5 : f 5 = .str []) (h6 : f 6 = .int .i64 0)
    (hq : ∀ f : Fr, f 0 = .list (l.map fav) → f 3 = .str s → f 4 = .int .i64 (i : Nat) → f 5 = .str (pj x.path) → Q (.exit 2) ⟨f, [noObs], []⟩) : awp Tryz.prog (.loop l8_0) ⟨f, [noObs], []⟩ Q := by
  let I : Nat → St → Prop := fun k st => ∃ f j, st = ⟨f, [noObs], []⟩ ∧ k = x.path.length - j ∧ j ≤ x.path.length ∧ f 0 = .list (l.map fav) ∧ f 3 = .str s ∧ f 4 = .int .i64 (i : Nat) ∧ f 5 = .str (pj (x.path.take j)) ∧ f 6 = .int .i64 (j : Nat)
  have hg := getF hi
  refine awp_loop I _ ⟨f, 0, rfl, rfl, Nat.zero_le _, h0, h3, h4, h5, h6⟩ ?_
  clear h0 h3 h4 h5 h6
  rintro _ st ⟨f, j, rfl, rfl, hj, h0, h3, h4, h5, h6⟩
  simp only [l8_0, g8_0, g8_1, g8_2, g8_3, g8_5, g8_6, g8_7, g8_9, g8_10, g8_11, g8_8, g8_12, g8_13, g8_14, g8_4, g8_15, r8, o8, nneg, Int.toNat_natCast, aiaddr, hg, List.length_map, h0, h3, h4, h5, h6, splice, List.take_succ_cons, List.take_zero, List.drop_succ_cons, List.drop_zero, List.drop_nil, List.append_nil, List.cons_append, List.nil_append, List.length_cons, List.length_nil, List.all_cons, List.all_nil, AV.leaf, eES, eEX, Nat.reduceBEq, Int.reduceLE, Int.reduceLT, Int.reduceToNat, Int.reduceEq, ↓reduceIte, reduceCtorEq, Nat.reducePow, Nat.reduceAdd, Nat.reduceLeDiff, Nat.reduceLT, Nat.reduceSub, Nat.reduceEqDiff]
  by_cases hlt : j < x.path.length
  case neg =>
    have e : x.path.take j = x.path := List.take_of_length_le (by omega)
    rw [e] at h5
    simp only [lt_f hlt, h0, h3, h4, h5, h6, splice, List.take_succ_cons, List.take_zero, List.drop_succ_cons, List.drop_zero, List.drop_nil, List.append_nil, List.cons_append, List.nil_append, List.length_cons, List.length_nil, List.all_cons, List.all_nil, AV.leaf, eES, eEX, Nat.reduceBEq, Int.reduceLE, Int.reduceLT, Int.reduceToNat, Int.reduceEq, ↓reduceIte, reduceCtorEq, Nat.reducePow, Nat.reduceAdd, Nat.reduceLeDiff, Nat.reduceLT, Nat.reduceSub, Nat.reduceEqDiff]
    exact hq _ (by first | rfl | exact h0 | simp only [h0, eES, eEX, Nat.reduceBEq, Int.reduceLE, Int.reduceLT, Int.reduceToNat, Int.reduceEq, ↓reduceIte, reduceCtorEq, Nat.reducePow, Nat.reduceAdd, Nat.reduceLeDiff, Nat.reduceLT, Nat.reduceSub, Nat.reduceEqDiff]) (by first | rfl | exact h3 | simp only [h3, eES, eEX, Nat.reduceBEq, Int.reduceLE, Int.reduceLT, Int.reduceToNat, Int.reduceEq, ↓reduceIte, reduceCtorEq, Nat.reducePow, Nat.reduceAdd, Nat.reduceLeDiff, Nat.reduceLT, Nat.reduceSub, Nat.reduceEqDiff]) (by first | rfl | exact h4 | simp only [h4, eES, eEX, Nat.reduceBEq, Int.reduceLE, Int.reduceLT, Int.reduceToNat, Int.reduceEq, ↓reduceIte, reduceCtorEq, Nat.reducePow, Nat.reduceAdd, Nat.reduceLeDiff, Nat.reduceLT, Nat.reduceSub, Nat.reduceEqDiff]) (by first | rfl | exact h5 | simp only [h5, eES, eEX, Nat.reduceBEq, Int.reduceLE, Int.reduceLT, Int.reduceToNat, Int.reduceEq, ↓reduceIte, reduceCtorEq, Nat.reducePow, Nat.reduceAdd, Nat.reduceLeDiff, Nat.reduceLT, Nat.reduceSub, Nat.reduceEqDiff])
  obtain ⟨n, hn⟩ : ∃ n, x.path[j]? = some n := ⟨x.path[j], List.getElem?_eq_getElem hlt⟩
  have hgn := getN hn
  have hwf := hx.path n (List.mem_of_getElem? hn)
  have e1 := wi64_s j _ hlt (by simp only [maxLen]; omega)
  have hd := y17 n hwf
  have hil := itoa_len hwf
  have hpl := pj_len (l := x.path.take j) fun m hm => hx.path m (List.mem_of_mem_take hm)
  have htl : (x.path.take j).length ≤ 100 := by rw [List.length_take]; omega
  rcases Nat.eq_zero_or_pos j with rfl | hj0
  · have d0 : decide (((0 : Nat) : Int) > 0) = false := rfl
    have p1 : astr .add [] (Lib.itoa n) = some (.str (Lib.itoa n)) := aadd (a := []) (by simp; omega)
    have h5' : f 5 = .str [] := by rw [h5]; rfl
    simp only [lt_t hlt, d0, nneg, Int.toNat_natCast, aiaddr, hg, hgn, h0, h3, h4, h5', h6, splice, List.take_succ_cons, List.take_zero, List.drop_succ_cons, List.drop_zero, List.drop_nil, List.append_nil, List.cons_append, List.nil_append, List.length_cons, List.length_nil, List.all_cons, List.all_nil, AV.leaf, eES, eEX, Nat.reduceBEq, Int.reduceLE, Int.reduceLT, Int.reduceToNat, Int.reduceEq, ↓reduceIte, reduceCtorEq, Nat.reducePow, Nat.reduceAdd, Nat.reduceLeDiff, Nat.reduceLT, Nat.reduceSub, Nat.reduceEqDiff]
    refine aops_call hd rfl rfl rfl (.inl rfl) ?_
    simp only [p1, h0, h3, h4, h5', h6, e1, splice, List.take_succ_cons, List.take_zero, List.drop_succ_cons, List.drop_zero, List.drop_nil, List.append_nil, List.cons_append, List.nil_append, List.length_cons, List.length_nil, List.all_cons, List.all_nil, AV.leaf, eES, eEX, Nat.reduceBEq, Int.reduceLE, Int.reduceLT, Int.reduceToNat, Int.reduceEq, ↓reduceIte, reduceCtorEq, Nat.reducePow, Nat.reduceAdd, Nat.reduceLeDiff, Nat.reduceLT, Nat.reduceSub, Nat.reduceEqDiff]
    exact ⟨x.path.length - (0 + 1), by omega, _, 0 + 1, rfl, rfl, by omega, (by first | rfl | exact h0 | simp only [h0, eES, eEX, Nat.reduceBEq, Int.reduceLE, Int.reduceLT, Int.reduceToNat, Int.reduceEq, ↓reduceIte, reduceCtorEq, Nat.reducePow, Nat.reduceAdd, Nat.reduceLeDiff, Nat.reduceLT, Nat.reduceSub, Nat.reduceEqDiff]), (by first | rfl | exact h3 | simp only [h3, eES, eEX, Nat.reduceBEq, Int.reduceLE, Int.reduceLT, Int.reduceToNat, Int.reduceEq, ↓reduceIte, reduceCtorEq, Nat.reducePow, Nat.reduceAdd, Nat.reduceLeDiff, Nat.reduceLT, Nat.reduceSub, Nat.reduceEqDiff]), (by first | rfl | exact h4 | simp only [h4, eES, eEX, Nat.reduceBEq, Int.reduceLE, Int.reduceLT, Int.reduceToNat, Int.reduceEq, ↓reduceIte, reduceCtorEq, Nat.reducePow, Nat.reduceAdd, Nat.reduceLeDiff, Nat.reduceLT, Nat.reduceSub, Nat.reduceEqDiff]), (by rw [pj_one hn]; exact (by first | rfl | simp only [eES, eEX, Nat.reduceBEq, Int.reduceLE, Int.reduceLT, Int.reduceToNat, Int.reduceEq, ↓reduceIte, reduceCtorEq, Nat.reducePow, Nat.reduceAdd, Nat.reduceLeDiff, Nat.reduceLT, Nat.reduceSub, Nat.reduceEqDiff])), (by first | rfl | simp only [eES, eEX, Nat.reduceBEq, Int.reduceLE, Int.reduceLT, Int.reduceToNat, Int.reduceEq, ↓reduceIte, reduceCtorEq, Nat.reducePow, Nat.reduceAdd, Nat.reduceLeDiff, Nat.reduceLT, Nat.reduceSub, Nat.reduceEqDiff])⟩
  · have d0 : decide ((j : Int) > 0) = true := decide_eq_true (by omega)
    have p1 : astr .add (pj (x.path.take j)) [46] = some (.str (pj (x.path.take j) ++ [46])) := aadd (by simp only [List.length_cons, List.length_nil]; omega)
    have p2 : astr .add (pj (x.path.take j) ++ [46]) (Lib.itoa n) = some (.str (pj (x.path.take (j + 1)))) := by
      rw [aadd (by simp only [List.length_append, List.length_cons, List.length_nil]; omega), pj_snoc hn hj0, List.append_assoc]
      rfl
    simp only [lt_t hlt, d0, p1, nneg, Int.toNat_natCast, aiaddr, hg, hgn, h0, h3, h4, h5, h6, splice, List.take_succ_cons, List.take_zero, List.drop_succ_cons, List.drop_zero, List.drop_nil, List.append_nil, List.cons_append, List.nil_append, List.length_cons, List.length_nil, List.all_cons, List.all_nil, AV.leaf, eES, eEX, Nat.reduceBEq, Int.reduceLE, Int.reduceLT, Int.reduceToNat, Int.reduceEq, ↓reduceIte, reduceCtorEq, Nat.reducePow, Nat.reduceAdd, Nat.reduceLeDiff, Nat.reduceLT, Nat.reduceSub, Nat.reduceEqDiff]
    refine aops_call hd rfl rfl rfl (.inl rfl) ?_
    simp only [p2, h0, h3, h4, h5, h6, e1, splice, List.take_succ_cons, List.take_zero, List.drop_succ_cons, List.drop_zero, List.drop_nil, List.append_nil, List.cons_append, List.nil_append, List.length_cons, List.length_nil, List.all_cons, List.all_nil, AV.leaf, eES, eEX, Nat.reduceBEq, Int.reduceLE, Int.reduceLT, Int.reduceToNat, Int.reduceEq, ↓reduceIte, reduceCtorEq, Nat.reducePow, Nat.reduceAdd, Nat.reduceLeDiff, Nat.reduceLT, Nat.reduceSub, Nat.reduceEqDiff]
    exact ⟨x.path.length - (j + 1), by omega, _, j + 1, rfl, rfl, by omega, (by first | rfl | exact h0 | simp only [h0, eES, eEX, Nat.reduceBEq, Int.reduceLE, Int.reduceLT, Int.reduceToNat, Int.reduceEq, ↓reduceIte, reduceCtorEq, Nat.reducePow, Nat.reduceAdd, Nat.reduceLeDiff, Nat.reduceLT, Nat.reduceSub, Nat.reduceEqDiff]), (by first | rfl | exact h3 | simp only [h3, eES, eEX, Nat.reduceBEq, Int.reduceLE, Int.reduceLT, Int.reduceToNat, Int.reduceEq, ↓reduceIte, reduceCtorEq, Nat.reducePow, Nat.reduceAdd, Nat.reduceLeDiff, Nat.reduceLT, Nat.reduceSub, Nat.reduceEqDiff]), (by first | rfl | exact h4 | simp only [h4, eES, eEX, Nat.reduceBEq, Int.reduceLE, Int.reduceLT, Int.reduceToNat, Int.reduceEq, ↓reduceIte, reduceCtorEq, Nat.reducePow, Nat.reduceAdd, Nat.reduceLeDiff, Nat.reduceLT, Nat.reduceSub, Nat.reduceEqDiff]), (by first | rfl | simp only [eES, eEX, Nat.reduceBEq, Int.reduceLE, Int.reduceLT, Int.reduceToNat, Int.reduceEq, ↓reduceIte, reduceCtorEq, Nat.reducePow, Nat.reduceAdd, Nat.reduceLeDiff, Nat.reduceLT, Nat.reduceSub, Nat.reduceEqDiff]), (by first | rfl | simp only [eES, eEX, Nat.reduceBEq, Int.reduceLE, Int.reduceLT, Int.reduceToNat, Int.reduceEq, ↓reduceIte, reduceCtorEq, Nat.reducePow, Nat.reduceAdd, Nat.reduceLeDiff, Nat.reduceLT, Nat.reduceSub, Nat.reduceEqDiff])⟩

theorem pin (f : Fr) (fr : Nat → Ob) (bs : List UInt8) (a9 a10 a11 : AV) (h3 : f 3 = .ptr 0 2046 0) (h5 : f 5 = .ptr 0 5 0) (h6 : f 6 = .str [45]) (h9 : f 9 = a9) (h10 : f 10 = a10) (h11 : f 11 = a11)
    (h16 : f 16 = .list (x.path.map fun n => .int .i64 n)) (h17 : f 17 = .int .i64 (x.path.length : Nat)) (h18 : f 18 = .int .i64 0) (m5 : fr 5 = .cells x.cells) (hB : Bld fr bs)
    (hq : ∀ (f : Fr) (fr : Nat → Ob), f 3 = .ptr 0 2046 0 → f 5 = .ptr 0 5 0 → f 6 = .str (pth x.path) → f 9 = a9 → f 10 = a10 → f 11 = a11 → fr 5 = .cells x.cells → Bld fr bs → Q (.exit 2) ⟨f, [fr], []⟩) : awp Tryz.prog (.loop l7_0) ⟨f, [fr], []⟩ Q := by
  let I : Nat → St → Prop := fun k st => ∃ f j, st = ⟨f, [fr], []⟩ ∧ k = x.path.length - j ∧ j ≤ x.path.length ∧ f 3 = .ptr 0 2046 0 ∧ f 5 = .ptr 0 5 0 ∧ f 6 = .str (if j = 0 then [45] else pj (x.path.take j)) ∧ f 9 = a9 ∧ f 10 = a10 ∧ f 11 = a11 ∧ f 16 = .list (x.path.map fun n => .int .i64 n) ∧ f 17 = .int .i64 (x.path.length : Nat) ∧ f 18 = .int .i64 (j : Nat)
  refine awp_loop I _ ⟨f, 0, rfl, rfl, Nat.zero_le _, h3, h5, h6, h9, h10, h11, h16, h17, h18⟩ ?_
  clear h3 h5 h6 h9 h10 h11 h16 h17 h18
  rintro _ st ⟨f, j, rfl, rfl, hj, h3, h5, h6, h9, h10, h11, h16, h17, h18⟩
  simp only [l7_0, g7_0, g7_1, g7_2, g7_3, g7_4, g7_5, g7_6, g7_7, g7_8, g7_9, g7_10, g7_11, g7_12, g7_13, g7_14, g7_15, r7, o7, h3, h5, h6, h9, h10, h11, h16, h17, h18, splice, List.take_succ_cons, List.take_zero, List.drop_succ_cons, List.drop_zero, List.drop_nil, List.append_nil, List.cons_append, List.nil_append, List.length_cons, List.length_nil, List.all_cons, List.all_nil, AV.leaf, eES, eEX, Nat.reduceBEq, Int.reduceLE, Int.reduceLT, Int.reduceToNat, Int.reduceEq, ↓reduceIte, reduceCtorEq, Nat.reducePow, Nat.reduceAdd, Nat.reduceLeDiff, Nat.reduceLT, Nat.reduceSub, Nat.reduceEqDiff]
  by_cases hlt : j < x.path.length
  case neg =>
    have e : j = x.path.length := by omega
    have e2 : (if j = 0 then [45] else pj (x.path.take j)) = pth x.path := by
      subst e
      unfold pth
      rw [List.take_length]
      by_cases h0 : x.path = []
      · rw [if_pos (by rw [h0]; rfl), if_pos h0]
      · rw [if_neg (fun h => h0 (List.eq_nil_of_length_eq_zero h)), if_neg h0]
    rw [e2] at h6
    simp only [lt_f hlt, h3, h5, h6, h9, h10, h11, splice, List.take_succ_cons, List.take_zero, List.drop_succ_cons, List.drop_zero, List.drop_nil, List.append_nil, List.cons_append, List.nil_append, List.length_cons, List.length_nil, List.all_cons, List.all_nil, AV.leaf, eES, eEX, Nat.reduceBEq, Int.reduceLE, Int.reduceLT, Int.reduceToNat, Int.reduceEq, ↓reduceIte, reduceCtorEq, Nat.reducePow, Nat.reduceAdd, Nat.reduceLeDiff, Nat.reduceLT, Nat.reduceSub, Nat.reduceEqDiff]
    exact hq _ _ (by first | rfl | exact h3 | simp only [h3, eES, eEX, Nat.reduceBEq, Int.reduceLE, Int.reduceLT, Int.reduceToNat, Int.reduceEq, ↓reduceIte, reduceCtorEq, Nat.reducePow, Nat.reduceAdd, Nat.reduceLeDiff, Nat.reduceLT, Nat.reduceSub, Nat.reduceEqDiff]) (by first | rfl | exact h5 | simp only [h5, eES, eEX, Nat.reduceBEq, Int.reduceLE, Int.reduceLT, Int.reduceToNat, Int.reduceEq, ↓reduceIte, reduceCtorEq, Nat.reducePow, Nat.reduceAdd, Nat.reduceLeDiff, Nat.reduceLT, Nat.reduceSub, Nat.reduceEqDiff]) (by first | rfl | exact h6 | simp only [h6, eES, eEX, Nat.reduceBEq, Int.reduceLE, Int.reduceLT, Int.reduceToNat, Int.reduceEq, ↓reduceIte, reduceCtorEq, Nat.reducePow, Nat.reduceAdd, Nat.reduceLeDiff, Nat.reduceLT, Nat.reduceSub, Nat.reduceEqDiff]) (by first | rfl | exact h9 | simp only [h9, eES, eEX, Nat.reduceBEq, Int.reduceLE, Int.reduceLT, Int.reduceToNat, Int.reduceEq, ↓reduceIte, reduceCtorEq, Nat.reducePow, Nat.reduceAdd, Nat.reduceLeDiff, Nat.reduceLT, Nat.reduceSub, Nat.reduceEqDiff]) (by first | rfl | exact h10 | simp only [h10, eES, eEX, Nat.reduceBEq, Int.reduceLE, Int.reduceLT, Int.reduceToNat, Int.reduceEq, ↓reduceIte, reduceCtorEq, Nat.reducePow, Nat.reduceAdd, Nat.reduceLeDiff, Nat.reduceLT, Nat.reduceSub, Nat.reduceEqDiff]) (by first | rfl | exact h11 | simp only [h11, eES, eEX, Nat.reduceBEq, Int.reduceLE, Int.reduceLT, Int.reduceToNat, Int.reduceEq, ↓reduceIte, reduceCtorEq, Nat.reducePow, Nat.reduceAdd, Nat.reduceLeDiff, Nat.reduceLT, Nat.reduceSub, Nat.reduceEqDiff]) m5 hB
  obtain ⟨n, hn⟩ : ∃ n, x.path[j]? = some n := ⟨x.path[j], List.getElem?_eq_getElem hlt⟩
  have hgn := getN hn
  have hwf := hx.path n (List.mem_of_getElem? hn)
  have e1 := wi64_s j _ hlt (by simp only [maxLen]; omega)
  have hd := c13 n hwf
  have hil := itoa_len hwf
  have hpl := pj_len (l := x.path.take j) fun m hm => hx.path m (List.mem_of_mem_take hm)
  have htl : (x.path.take j).length ≤ 100 := by rw [List.length_take]; omega
  rcases Nat.eq_zero_or_pos j with rfl | hj0
  · have d0 : (((0 : Nat) : Int) == 0) = true := rfl
    simp only [lt_t hlt, d0, nneg, Int.toNat_natCast, aiaddr, hgn, h3, h5, h9, h10, h11, h16, h17, h18, splice, List.take_succ_cons, List.take_zero, List.drop_succ_cons, List.drop_zero, List.drop_nil, List.append_nil, List.cons_append, List.nil_append, List.length_cons, List.length_nil, List.all_cons, List.all_nil, AV.leaf, eES, eEX, Nat.reduceBEq, Int.reduceLE, Int.reduceLT, Int.reduceToNat, Int.reduceEq, ↓reduceIte, reduceCtorEq, Nat.reducePow, Nat.reduceAdd, Nat.reduceLeDiff, Nat.reduceLT, Nat.reduceSub, Nat.reduceEqDiff]
    refine aops_call hd rfl rfl rfl (.inl rfl) ?_
    simp only [h3, h5, h9, h10, h11, h16, h17, h18, e1, splice, List.take_succ_cons, List.take_zero, List.drop_succ_cons, List.drop_zero, List.drop_nil, List.append_nil, List.cons_append, List.nil_append, List.length_cons, List.length_nil, List.all_cons, List.all_nil, AV.leaf, eES, eEX, Nat.reduceBEq, Int.reduceLE, Int.reduceLT, Int.reduceToNat, Int.reduceEq, ↓reduceIte, reduceCtorEq, Nat.reducePow, Nat.reduceAdd, Nat.reduceLeDiff, Nat.reduceLT, Nat.reduceSub, Nat.reduceEqDiff]
    exact ⟨x.path.length - (0 + 1), by omega, _, 0 + 1, rfl, rfl, by omega, (by first | rfl | exact h3 | simp only [h3, eES, eEX, Nat.reduceBEq, Int.reduceLE, Int.reduceLT, Int.reduceToNat, Int.reduceEq, ↓reduceIte, reduceCtorEq, Nat.reducePow, Nat.reduceAdd, Nat.reduceLeDiff, Nat.reduceLT, Nat.reduceSub, Nat.reduceEqDiff]), (by first | rfl | exact h5 | simp only [h5, eES, eEX, Nat.reduceBEq, Int.reduceLE, Int.reduceLT, Int.reduceToNat, Int.reduceEq, ↓reduceIte, reduceCtorEq, Nat.reducePow, Nat.reduceAdd, Nat.reduceLeDiff, Nat.reduceLT, Nat.reduceSub, Nat.reduceEqDiff]), (by rw [if_neg (by omega), pj_one hn]; exact (by first | rfl | simp only [eES, eEX, Nat.reduceBEq, Int.reduceLE, Int.reduceLT, Int.reduceToNat, Int.reduceEq, ↓reduceIte, reduceCtorEq, Nat.reducePow, Nat.reduceAdd, Nat.reduceLeDiff, Nat.reduceLT, Nat.reduceSub, Nat.reduceEqDiff])), (by first | rfl | exact h9 | simp only [h9, eES, eEX, Nat.reduceBEq, Int.reduceLE, Int.reduceLT, Int.reduceToNat, Int.reduceEq, ↓reduceIte, reduceCtorEq, Nat.reducePow, Nat.reduceAdd, Nat.reduceLeDiff, Nat.reduceLT, Nat.reduceSub, Nat.reduceEqDiff]), (by first | rfl | exact h10 | simp only [h10, eES, eEX, Nat.reduceBEq, Int.reduceLE, Int.reduceLT, Int.reduceToNat, Int.reduceEq, ↓reduceIte, reduceCtorEq, Nat.reducePow, Nat.reduceAdd, Nat.reduceLeDiff, Nat.reduceLT, Nat.reduceSub, Nat.reduceEqDiff]), (by first | rfl | exact h11 | simp only [h11, eES, eEX, Nat.reduceBEq, Int.reduceLE, Int.reduceLT, Int.reduceToNat, Int.reduceEq, ↓reduceIte, reduceCtorEq, Nat.reducePow, Nat.reduceAdd, Nat.reduceLeDiff, Nat.reduceLT, Nat.reduceSub, Nat.reduceEqDiff]), (by first | rfl | exact h16 | simp only [h16, eES, eEX, Nat.reduceBEq, Int.reduceLE, Int.reduceLT, Int.reduceToNat, Int.reduceEq, ↓reduceIte, reduceCtorEq, Nat.reducePow, Nat.reduceAdd, Nat.reduceLeDiff, Nat.reduceLT, Nat.reduceSub, Nat.reduceEqDiff]), (by first | rfl | exact h17 | simp only [h17, eES, eEX, Nat.reduceBEq, Int.reduceLE, Int.reduceLT, Int.reduceToNat, Int.reduceEq, ↓reduceIte, reduceCtorEq, Nat.reducePow, Nat.reduceAdd, Nat.reduceLeDiff, Nat.reduceLT, Nat.reduceSub, Nat.reduceEqDiff]), (by first | rfl | simp only [eES, eEX, Nat.reduceBEq, Int.reduceLE, Int.reduceLT, Int.reduceToNat, Int.reduceEq, ↓reduceIte, reduceCtorEq, Nat.reducePow, Nat.reduceAdd, Nat.reduceLeDiff, Nat.reduceLT, Nat.reduceSub, Nat.reduceEqDiff])⟩
  · have d0 : ((j : Int) == 0) = false := by rw [beq_eq_false_iff_ne]; omega
    rw [if_neg (by omega)] at h6
    have p1 : astr .add [46] (Lib.itoa n) = some (.str (46 :: Lib.itoa n)) := aadd (a := [46]) (by simp only [List.length_cons, List.length_nil]; omega)
    have p2 : astr .add (pj (x.path.take j)) (46 :: Lib.itoa n) = some (.str (pj (x.path.take (j + 1)))) := by
      rw [aadd (by simp only [List.length_cons]; omega), pj_snoc hn hj0]
    simp only [lt_t hlt, d0, nneg, Int.toNat_natCast, aiaddr, hgn, h3, h5, h6, h9, h10, h11, h16, h17, h18, splice, List.take_succ_cons, List.take_zero, List.drop_succ_cons, List.drop_zero, List.drop_nil, List.append_nil, List.cons_append, List.nil_append, List.length_cons, List.length_nil, List.all_cons, List.all_nil, AV.leaf, eES, eEX, Nat.reduceBEq, Int.reduceLE, Int.reduceLT, Int.reduceToNat, Int.reduceEq, ↓reduceIte, reduceCtorEq, Nat.reducePow, Nat.reduceAdd, Nat.reduceLeDiff, Nat.reduceLT, Nat.reduceSub, Nat.reduceEqDiff]
    refine aops_call hd rfl rfl rfl (.inl rfl) ?_
    simp only [p1, p2, h3, h5, h6, h9, h10, h11, h16, h17, h18, e1, splice, List.take_succ_cons, List.take_zero, List.drop_succ_cons, List.drop_zero, List.drop_nil, List.append_nil, List.cons_append, List.nil_append, List.length_cons, List.length_nil, List.all_cons, List.all_nil, AV.leaf, eES, eEX, Nat.reduceBEq, Int.reduceLE, Int.reduceLT, Int.reduceToNat, Int.reduceEq, ↓reduceIte, reduceCtorEq, Nat.reducePow, Nat.reduceAdd, Nat.reduceLeDiff, Nat.reduceLT, Nat.reduceSub, Nat.reduceEqDiff]
    exact ⟨x.path.length - (j + 1), by omega, _, j + 1, rfl, rfl, by omega, (by first | rfl | exact h3 | simp only [h3, eES, eEX, Nat.reduceBEq, Int.reduceLE, Int.reduceLT, Int.reduceToNat, Int.reduceEq, ↓reduceIte, reduceCtorEq, Nat.reducePow, Nat.reduceAdd, Nat.reduceLeDiff, Nat.reduceLT, Nat.reduceSub, Nat.reduceEqDiff]), (by first | rfl | exact h5 | simp only [h5, eES, eEX, Nat.reduceBEq, Int.reduceLE, Int.reduceLT, Int.reduceToNat, Int.reduceEq, ↓reduceIte, reduceCtorEq, Nat.reducePow, Nat.reduceAdd, Nat.reduceLeDiff, Nat.reduceLT, Nat.reduceSub, Nat.reduceEqDiff]), (by rw [if_neg (by omega)]; exact (by first | rfl | simp only [eES, eEX, Nat.reduceBEq, Int.reduceLE, Int.reduceLT, Int.reduceToNat, Int.reduceEq, ↓reduceIte, reduceCtorEq, Nat.reducePow, Nat.reduceAdd, Nat.reduceLeDiff, Nat.reduceLT, Nat.reduceSub, Nat.reduceEqDiff])), (by first | rfl | exact h9 | simp only [h9, eES, eEX, Nat.reduceBEq, Int.reduceLE, Int.reduceLT, Int.reduceToNat, Int.reduceEq, ↓reduceIte, reduceCtorEq, Nat.reducePow, Nat.reduceAdd, Nat.reduceLeDiff, Nat.reduceLT, Nat.reduceSub, Nat.reduceEqDiff]), (by first | rfl | exact h10 | simp only [h10, eES, eEX, Nat.reduceBEq, Int.reduceLE, Int.reduceLT, Int.reduceToNat, Int.reduceEq, ↓reduceIte, reduceCtorEq, Nat.reducePow, Nat.reduceAdd, Nat.reduceLeDiff, Nat.reduceLT, Nat.reduceSub, Nat.reduceEqDiff]), (by first | rfl | exact h11 | simp only [h11, eES, eEX, Nat.reduceBEq, Int.reduceLE, Int.reduceLT, Int.reduceToNat, Int.reduceEq, ↓reduceIte, reduceCtorEq, Nat.reducePow, Nat.reduceAdd, Nat.reduceLeDiff, Nat.reduceLT, Nat.reduceSub, Nat.reduceEqDiff]), (by first | rfl | exact h16 | simp only [h16, eES, eEX, Nat.reduceBEq, Int.reduceLE, Int.reduceLT, Int.reduceToNat, Int.reduceEq, ↓reduceIte, reduceCtorEq, Nat.reducePow, Nat.reduceAdd, Nat.reduceLeDiff, Nat.reduceLT, Nat.reduceSub, Nat.reduceEqDiff]), (by first | rfl | exact h17 | simp only [h17, eES, eEX, Nat.reduceBEq, Int.reduceLE, Int.reduceLT, Int.reduceToNat, Int.reduceEq, ↓reduceIte, reduceCtorEq, Nat.reducePow, Nat.reduceAdd, Nat.reduceLeDiff, Nat.reduceLT, Nat.reduceSub, Nat.reduceEqDiff]), (by first | rfl | simp only [eES, eEX, Nat.reduceBEq, Int.reduceLE, Int.reduceLT, Int.reduceToNat, Int.reduceEq, ↓reduceIte, reduceCtorEq, Nat.reducePow, Nat.reduceAdd, Nat.reduceLeDiff, Nat.reduceLT, Nat.reduceSub, Nat.reduceEqDiff])⟩
end

theorem line_parts {M : Nat} {x : FD} (hx : x.ok M) (hp : x.path.length ≤ 100) (hM : M ≤ 1048576) (s : List UInt8) (hs : s.length ≤ 17592186044000) :
    astr .add s x.dfn = some (.str (s ++ x.dfn)) ∧ astr .add (s ++ x.dfn) [32] = some (.str (s ++ x.dfn ++ [32])) ∧ astr .add (s ++ x.dfn ++ [32]) (Lib.itoa x.num) = some (.str (s ++ x.dfn ++ [32] ++ Lib.itoa x.num)) ∧
    astr .add (s ++ x.dfn ++ [32] ++ Lib.itoa x.num) [32] = some (.str (s ++ x.dfn ++ [32] ++ Lib.itoa x.num ++ [32])) ∧ astr .add (s ++ x.dfn ++ [32] ++ Lib.itoa x.num ++ [32]) (ern x.err) = some (.str (s ++ x.dfn ++ [32] ++ Lib.itoa x.num ++ [32] ++ ern x.err)) ∧
    astr .add (s ++ x.dfn ++ [32] ++ Lib.itoa x.num ++ [32] ++ ern x.err) [32] = some (.str (s ++ x.dfn ++ [32] ++ Lib.itoa x.num ++ [32] ++ ern x.err ++ [32])) ∧
    astr .add (s ++ x.dfn ++ [32] ++ Lib.itoa x.num ++ [32] ++ ern x.err ++ [32]) (pth x.path) = some (.str (s ++ x.dfn ++ [32] ++ Lib.itoa x.num ++ [32] ++ ern x.err ++ [32] ++ pth x.path)) ∧
    astr .add (s ++ x.dfn ++ [32] ++ Lib.itoa x.num ++ [32] ++ ern x.err ++ [32] ++ pth x.path) [10] = some (.str (s ++ line x)) := by
  have h1 := pth_len hx.path
  have h2 := ern_len x.err
  have h3 := itoa_len hx.num
  have h4 := hx.dfn
  refine ⟨aadd ?_, aadd ?_, aadd ?_, aadd ?_, aadd ?_, aadd ?_, aadd ?_, ?_⟩
  any_goals ((try simp only [List.length_append, List.length_cons, List.length_nil]); omega)
  rw [aadd (by simp only [List.length_append, List.length_cons, List.length_nil]; omega)]
  unfold line
  simp only [List.append_assoc]

section
variable {M : Nat} (hM : M ≤ 1048576) (l : List FD) (hl : l.length ≤ 200) (hx : ∀ x ∈ l, x.ok M) (hp : ∀ x ∈ l, x.path.length ≤ 100)

def SxI (l : List FD) (k : Nat) (st : St) : Prop :=
  ∃ f i, st = ⟨f, [noObs], []⟩ ∧ k = l.length - i ∧ i ≤ l.length ∧ f 0 = .list (l.map fav) ∧ f 3 = .str (txt (l.take i)) ∧ f 4 = .int .i64 (i : Nat)

include hM hl hx hp in
theorem tx_le (i : Nat) : (txt (l.take i)).length ≤ 17592186044000 := by
  have h1 := txt_len (M := M) (l := l.take i) (fun x h => hx x (List.mem_of_mem_take h)) fun x h => hp x (List.mem_of_mem_take h)
  have h2 : (l.take i).length ≤ 200 := by rw [List.length_take]; omega
  have h3 : (M + 2250) * (l.take i).length ≤ (1048576 + 2250) * 200 := Nat.mul_le_mul (by omega) h2
  omega

include hM hl hx hp in
theorem y8 : Fn1 Tryz.prog 8 [.list (l.map fav)] (.str (txt l)) := by
  refine k8.fn (by simp) ?_
  simp only [g8_0, g8_1, g8_2, g8_3, g8_5, g8_6, g8_7, g8_9, g8_10, g8_11, g8_8, g8_12, g8_13, g8_14, g8_4, g8_15, r8, o8, eES, eEX, Nat.reduceBEq, Int.reduceLE, Int.reduceLT, Int.reduceToNat, Int.reduceEq, ↓reduceIte, reduceCtorEq, Nat.reducePow, Nat.reduceAdd, Nat.reduceLeDiff, Nat.reduceLT, Nat.reduceSub, Nat.reduceEqDiff]
  refine awp_loop (SxI l) _ ⟨_, 0, rfl, rfl, Nat.zero_le _, (by first | rfl | simp only [eES, eEX, Nat.reduceBEq, Int.reduceLE, Int.reduceLT, Int.reduceToNat, Int.reduceEq, ↓reduceIte, reduceCtorEq, Nat.reducePow, Nat.reduceAdd, Nat.reduceLeDiff, Nat.reduceLT, Nat.reduceSub, Nat.reduceEqDiff]), (by first | rfl | simp only [eES, eEX, Nat.reduceBEq, Int.reduceLE, Int.reduceLT, Int.reduceToNat, Int.reduceEq, ↓reduceIte, reduceCtorEq, Nat.reducePow, Nat.reduceAdd, Nat.reduceLeDiff, Nat.reduceLT, Nat.reduceSub, Nat.reduceEqDiff]), (by first | rfl | simp only [eES, eEX, Nat.reduceBEq, Int.reduceLE, Int.reduceLT, Int.reduceToNat, Int.reduceEq, ↓reduceIte, reduceCtorEq, Nat.reducePow, Nat.reduceAdd, Nat.reduceLeDiff, Nat.reduceLT, Nat.reduceSub, Nat.reduceEqDiff])⟩ ?_
  rintro _ st ⟨f, i, rfl, rfl, hi, h0, h3, h4⟩
  simp only [l8_1, g8_0, g8_1, g8_2, g8_3, g8_5, g8_6, g8_7, g8_9, g8_10, g8_11, g8_8, g8_12, g8_13, g8_14, g8_4, g8_15, r8, o8, List.length_map, h0, h3, h4, splice, List.take_succ_cons, List.take_zero, List.drop_succ_cons, List.drop_zero, List.drop_nil, List.append_nil, List.cons_append, List.nil_append, List.length_cons, List.length_nil, List.all_cons, List.all_nil, AV.leaf, eES, eEX, Nat.reduceBEq, Int.reduceLE, Int.reduceLT, Int.reduceToNat, Int.reduceEq, ↓reduceIte, reduceCtorEq, Nat.reducePow, Nat.reduceAdd, Nat.reduceLeDiff, Nat.reduceLT, Nat.reduceSub, Nat.reduceEqDiff]
  by_cases hlt : i < l.length
  case neg =>
    rw [List.take_of_length_le (by omega)] at h3
    simp only [lt_f hlt, h3, splice, List.take_succ_cons, List.take_zero, List.drop_succ_cons, List.drop_zero, List.drop_nil, List.append_nil, List.cons_append, List.nil_append, List.length_cons, List.length_nil, List.all_cons, List.all_nil, AV.leaf, eES, eEX, Nat.reduceBEq, Int.reduceLE, Int.reduceLT, Int.reduceToNat, Int.reduceEq, ↓reduceIte, reduceCtorEq, Nat.reducePow, Nat.reduceAdd, Nat.reduceLeDiff, Nat.reduceLT, Nat.reduceSub, Nat.reduceEqDiff]
  obtain ⟨x, hxi⟩ : ∃ x, l[i]? = some x := ⟨l[i], List.getElem?_eq_getElem hlt⟩
  have hxo := hx x (List.mem_of_getElem? hxi)
  have hxp := hp x (List.mem_of_getElem? hxi)
  have hg := getF hxi
  have e1 := wi64_s i _ hlt (by simp only [maxLen]; omega)
  obtain ⟨p1, p2, p3, p4, p5, p6, p7, p8⟩ := line_parts hxo hxp hM (txt (l.take i)) (tx_le hM l hl hx hp i)
  rw [← txt_snoc hxi] at p8
  simp only [lt_t hlt, h0, h3, h4, splice, List.take_succ_cons, List.take_zero, List.drop_succ_cons, List.drop_zero, List.drop_nil, List.append_nil, List.cons_append, List.nil_append, List.length_cons, List.length_nil, List.all_cons, List.all_nil, AV.leaf, eES, eEX, Nat.reduceBEq, Int.reduceLE, Int.reduceLT, Int.reduceToNat, Int.reduceEq, ↓reduceIte, reduceCtorEq, Nat.reducePow, Nat.reduceAdd, Nat.reduceLeDiff, Nat.reduceLT, Nat.reduceSub, Nat.reduceEqDiff]
  refine sin x hxo hxp _ l i hxi (txt (l.take i)) _ (by first | rfl | exact h0 | simp only [h0, eES, eEX, Nat.reduceBEq, Int.reduceLE, Int.reduceLT, Int.reduceToNat, Int.reduceEq, ↓reduceIte, reduceCtorEq, Nat.reducePow, Nat.reduceAdd, Nat.reduceLeDiff, Nat.reduceLT, Nat.reduceSub, Nat.reduceEqDiff]) (by first | rfl | exact h3 | simp only [h3, eES, eEX, Nat.reduceBEq, Int.reduceLE, Int.reduceLT, Int.reduceToNat, Int.reduceEq, ↓reduceIte, reduceCtorEq, Nat.reducePow, Nat.reduceAdd, Nat.reduceLeDiff, Nat.reduceLT, Nat.reduceSub, Nat.reduceEqDiff]) (by first | rfl | exact h4 | simp only [h4, eES, eEX, Nat.reduceBEq, Int.reduceLE, Int.reduceLT, Int.reduceToNat, Int.reduceEq, ↓reduceIte, reduceCtorEq, Nat.reducePow, Nat.reduceAdd, Nat.reduceLeDiff, Nat.reduceLT, Nat.reduceSub, Nat.reduceEqDiff]) (by first | rfl | simp only [eES, eEX, Nat.reduceBEq, Int.reduceLE, Int.reduceLT, Int.reduceToNat, Int.reduceEq, ↓reduceIte, reduceCtorEq, Nat.reducePow, Nat.reduceAdd, Nat.reduceLeDiff, Nat.reduceLT, Nat.reduceSub, Nat.reduceEqDiff]) (by first | rfl | simp only [eES, eEX, Nat.reduceBEq, Int.reduceLE, Int.reduceLT, Int.reduceToNat, Int.reduceEq, ↓reduceIte, reduceCtorEq, Nat.reducePow, Nat.reduceAdd, Nat.reduceLeDiff, Nat.reduceLT, Nat.reduceSub, Nat.reduceEqDiff]) (fun f h0 h3 h4 h5 => ?_)
  have fin : ∀ f : Fr, f 0 = .list (l.map fav) → f 3 = .str (txt (l.take (i + 1))) → f 4 = .int .i64 ((i + 1 : Nat) : Int) → ∃ k, k < l.length - i ∧ SxI l k ⟨f, [noObs], []⟩ := fun f a b c => ⟨l.length - (i + 1), by omega, f, i + 1, rfl, rfl, by omega, a, b, c⟩
  by_cases hpn : x.path = []
  · have b0 : (pj x.path == []) = true := by simp [pj_nil.2 hpn]
    have q0 : astr .eql (pj x.path) [] = some (.bool true) := by simp only [astr, b0]
    have hth : pth x.path = [45] := if_pos hpn
    rw [hth] at p7 p8
    simp only [q0, p1, p2, h0, h3, h4, h5, nneg, Int.toNat_natCast, aiaddr, hg, splice, List.take_succ_cons, List.take_zero, List.drop_succ_cons, List.drop_zero, List.drop_nil, List.append_nil, List.cons_append, List.nil_append, List.length_cons, List.length_nil, List.all_cons, List.all_nil, AV.leaf, eES, eEX, Nat.reduceBEq, Int.reduceLE, Int.reduceLT, Int.reduceToNat, Int.reduceEq, ↓reduceIte, reduceCtorEq, Nat.reducePow, Nat.reduceAdd, Nat.reduceLeDiff, Nat.reduceLT, Nat.reduceSub, Nat.reduceEqDiff]
    refine aops_call (y17 x.num hxo.num) rfl rfl rfl (.inl rfl) ?_
    simp only [p3, p4, h0, h3, h4, h5, nneg, Int.toNat_natCast, aiaddr, hg, splice, List.take_succ_cons, List.take_zero, List.drop_succ_cons, List.drop_zero, List.drop_nil, List.append_nil, List.cons_append, List.nil_append, List.length_cons, List.length_nil, List.all_cons, List.all_nil, AV.leaf, eES, eEX, Nat.reduceBEq, Int.reduceLE, Int.reduceLT, Int.reduceToNat, Int.reduceEq, ↓reduceIte, reduceCtorEq, Nat.reducePow, Nat.reduceAdd, Nat.reduceLeDiff, Nat.reduceLT, Nat.reduceSub, Nat.reduceEqDiff]
    refine aops_call (y15 x.err) rfl rfl rfl (.inl rfl) ?_
    simp only [p5, p6, p7, p8, h0, h3, h4, h5, e1, splice, List.take_succ_cons, List.take_zero, List.drop_succ_cons, List.drop_zero, List.drop_nil, List.append_nil, List.cons_append, List.nil_append, List.length_cons, List.length_nil, List.all_cons, List.all_nil, AV.leaf, eES, eEX, Nat.reduceBEq, Int.reduceLE, Int.reduceLT, Int.reduceToNat, Int.reduceEq, ↓reduceIte, reduceCtorEq, Nat.reducePow, Nat.reduceAdd, Nat.reduceLeDiff, Nat.reduceLT, Nat.reduceSub, Nat.reduceEqDiff]
    exact fin _ (by first | rfl | exact h0 | simp only [h0, eES, eEX, Nat.reduceBEq, Int.reduceLE, Int.reduceLT, Int.reduceToNat, Int.reduceEq, ↓reduceIte, reduceCtorEq, Nat.reducePow, Nat.reduceAdd, Nat.reduceLeDiff, Nat.reduceLT, Nat.reduceSub, Nat.reduceEqDiff]) (by first | rfl | simp only [eES, eEX, Nat.reduceBEq, Int.reduceLE, Int.reduceLT, Int.reduceToNat, Int.reduceEq, ↓reduceIte, reduceCtorEq, Nat.reducePow, Nat.reduceAdd, Nat.reduceLeDiff, Nat.reduceLT, Nat.reduceSub, Nat.reduceEqDiff]) (by first | rfl | simp only [eES, eEX, Nat.reduceBEq, Int.reduceLE, Int.reduceLT, Int.reduceToNat, Int.reduceEq, ↓reduceIte, reduceCtorEq, Nat.reducePow, Nat.reduceAdd, Nat.reduceLeDiff, Nat.reduceLT, Nat.reduceSub, Nat.reduceEqDiff])
  · have b0 : (pj x.path == []) = false := by simp [pj_nil, hpn]
    have q0 : astr .eql (pj x.path) [] = some (.bool false) := by simp only [astr, b0]
    have hth : pth x.path = pj x.path := if_neg hpn
    rw [hth] at p7 p8
    simp only [q0, p1, p2, h0, h3, h4, h5, nneg, Int.toNat_natCast, aiaddr, hg, splice, List.take_succ_cons, List.take_zero, List.drop_succ_cons, List.drop_zero, List.drop_nil, List.append_nil, List.cons_append, List.nil_append, List.length_cons, List.length_nil, List.all_cons, List.all_nil, AV.leaf, eES, eEX, Nat.reduceBEq, Int.reduceLE, Int.reduceLT, Int.reduceToNat, Int.reduceEq, ↓reduceIte, reduceCtorEq, Nat.reducePow, Nat.reduceAdd, Nat.reduceLeDiff, Nat.reduceLT, Nat.reduceSub, Nat.reduceEqDiff]
    refine aops_call (y17 x.num hxo.num) rfl rfl rfl (.inl rfl) ?_
    simp only [p3, p4, h0, h3, h4, h5, nneg, Int.toNat_natCast, aiaddr, hg, splice, List.take_succ_cons, List.take_zero, List.drop_succ_cons, List.drop_zero, List.drop_nil, List.append_nil, List.cons_append, List.nil_append, List.length_cons, List.length_nil, List.all_cons, List.all_nil, AV.leaf, eES, eEX, Nat.reduceBEq, Int.reduceLE, Int.reduceLT, Int.reduceToNat, Int.reduceEq, ↓reduceIte, reduceCtorEq, Nat.reducePow, Nat.reduceAdd, Nat.reduceLeDiff, Nat.reduceLT, Nat.reduceSub, Nat.reduceEqDiff]
    refine aops_call (y15 x.err) rfl rfl rfl (.inl rfl) ?_
    simp only [p5, p6, p7, p8, h0, h3, h4, h5, e1, splice, List.take_succ_cons, List.take_zero, List.drop_succ_cons, List.drop_zero, List.drop_nil, List.append_nil, List.cons_append, List.nil_append, List.length_cons, List.length_nil, List.all_cons, List.all_nil, AV.leaf, eES, eEX, Nat.reduceBEq, Int.reduceLE, Int.reduceLT, Int.reduceToNat, Int.reduceEq, ↓reduceIte, reduceCtorEq, Nat.reducePow, Nat.reduceAdd, Nat.reduceLeDiff, Nat.reduceLT, Nat.reduceSub, Nat.reduceEqDiff]
    exact fin _ (by first | rfl | exact h0 | simp only [h0, eES, eEX, Nat.reduceBEq, Int.reduceLE, Int.reduceLT, Int.reduceToNat, Int.reduceEq, ↓reduceIte, reduceCtorEq, Nat.reducePow, Nat.reduceAdd, Nat.reduceLeDiff, Nat.reduceLT, Nat.reduceSub, Nat.reduceEqDiff]) (by first | rfl | simp only [eES, eEX, Nat.reduceBEq, Int.reduceLE, Int.reduceLT, Int.reduceToNat, Int.reduceEq, ↓reduceIte, reduceCtorEq, Nat.reducePow, Nat.reduceAdd, Nat.reduceLeDiff, Nat.reduceLT, Nat.reduceSub, Nat.reduceEqDiff]) (by first | rfl | simp only [eES, eEX, Nat.reduceBEq, Int.reduceLE, Int.reduceLT, Int.reduceToNat, Int.reduceEq, ↓reduceIte, reduceCtorEq, Nat.reducePow, Nat.reduceAdd, Nat.reduceLeDiff, Nat.reduceLT, Nat.reduceSub, Nat.reduceEqDiff])

theorem Bld.put5 {fr : Nat → Ob} {bs : List UInt8} (h : Bld fr bs) (o : Ob) : Bld (upd fr 5 o) bs := by
  obtain ⟨p, g, h1, h2, h3⟩ := h.cell
  exact ⟨p, g, by rw [upd_ne _ _ (by decide)]; exact h1, by rw [upd_ne _ _ (by decide)]; exact h2, h3⟩

def PxI (l : List FD) (k : Nat) (st : St) : Prop :=
  ∃ f fr i, st = ⟨f, [fr], []⟩ ∧ k = l.length - i ∧ i ≤ l.length ∧ f 3 = .ptr 0 2046 0 ∧ f 9 = .list (l.map fav) ∧ f 10 = .int .i64 (l.length : Nat) ∧ f 11 = .int .i64 (i : Nat) ∧ (∀ s ∈ [5], (fr s).isRow = false) ∧ Bld fr (txt (l.take i))

include hM hl hx hp in
theorem y7 : Fn1 Tryz.prog 7 [.list (l.map fav)] (.str (txt l)) := by
  refine k7.fn (by simp) ?_
  simp only [g7_0, g7_1, g7_2, g7_3, g7_4, g7_5, g7_6, g7_7, g7_8, g7_9, g7_10, g7_11, g7_12, g7_13, g7_14, g7_15, r7, o7, eES, eEX, Nat.reduceBEq, Int.reduceLE, Int.reduceLT, Int.reduceToNat, Int.reduceEq, ↓reduceIte, reduceCtorEq, Nat.reducePow, Nat.reduceAdd, Nat.reduceLeDiff, Nat.reduceLT, Nat.reduceSub, Nat.reduceEqDiff]
  refine awp_vecc rfl rfl rfl rfl ?_
  simp only [List.length_map, eES, eEX, Nat.reduceBEq, Int.reduceLE, Int.reduceLT, Int.reduceToNat, Int.reduceEq, ↓reduceIte, reduceCtorEq, Nat.reducePow, Nat.reduceAdd, Nat.reduceLeDiff, Nat.reduceLT, Nat.reduceSub, Nat.reduceEqDiff]
  refine awp_loop (PxI l) _ ⟨_, _, 0, rfl, rfl, Nat.zero_le _, (by first | rfl | simp only [eES, eEX, Nat.reduceBEq, Int.reduceLE, Int.reduceLT, Int.reduceToNat, Int.reduceEq, ↓reduceIte, reduceCtorEq, Nat.reducePow, Nat.reduceAdd, Nat.reduceLeDiff, Nat.reduceLT, Nat.reduceSub, Nat.reduceEqDiff]), (by first | rfl | simp only [eES, eEX, Nat.reduceBEq, Int.reduceLE, Int.reduceLT, Int.reduceToNat, Int.reduceEq, ↓reduceIte, reduceCtorEq, Nat.reducePow, Nat.reduceAdd, Nat.reduceLeDiff, Nat.reduceLT, Nat.reduceSub, Nat.reduceEqDiff]), (by simp only [List.length_map, eES, eEX, Nat.reduceBEq, Int.reduceLE, Int.reduceLT, Int.reduceToNat, Int.reduceEq, ↓reduceIte, reduceCtorEq, Nat.reducePow, Nat.reduceAdd, Nat.reduceLeDiff, Nat.reduceLT, Nat.reduceSub, Nat.reduceEqDiff]), (by first | rfl | simp only [eES, eEX, Nat.reduceBEq, Int.reduceLE, Int.reduceLT, Int.reduceToNat, Int.reduceEq, ↓reduceIte, reduceCtorEq, Nat.reducePow, Nat.reduceAdd, Nat.reduceLeDiff, Nat.reduceLT, Nat.reduceSub, Nat.reduceEqDiff]), by simp <;> rfl, ⟨.nilp, 1, rfl, rfl, .inl rfl⟩⟩ ?_
  rintro _ st ⟨f0, fr0, i, rfl, rfl, hi, h30, h90, h100, h110, r0, hB0⟩
  refine awp_drops (a := _) [5] r0 ?_
  intro f fr hf hmm hn
  have h3 : f 3 = .ptr 0 2046 0 := by rw [hf, h30] <;> rfl
  have h9 : f 9 = .list (l.map fav) := by rw [hf, h90] <;> rfl
  have h10 : f 10 = .int .i64 (l.length : Nat) := by rw [hf, h100] <;> rfl
  have h11 : f 11 = .int .i64 (i : Nat) := by rw [hf, h110] <;> rfl
  have n5 := hn 5 (by decide)
  have hB : Bld fr (txt (l.take i)) := by
    obtain ⟨p, g, c1, c2, c3⟩ := hB0.cell
    refine ⟨p, g, ?_, ?_, c3⟩
    · rw [hmm _ (by decide), c1]
      rcases c3 with rfl | rfl <;> rfl
    · rw [hmm _ (by decide), c2] <;> rfl
  clear hf hmm hn h30 h90 h100 h110 r0 hB0
  simp only [g7_0, g7_1, g7_2, g7_3, g7_4, g7_5, g7_6, g7_7, g7_8, g7_9, g7_10, g7_11, g7_12, g7_13, g7_14, g7_15, r7, o7, h3, h9, h10, h11, eES, eEX, Nat.reduceBEq, Int.reduceLE, Int.reduceLT, Int.reduceToNat, Int.reduceEq, ↓reduceIte, reduceCtorEq, Nat.reducePow, Nat.reduceAdd, Nat.reduceLeDiff, Nat.reduceLT, Nat.reduceSub, Nat.reduceEqDiff]
  by_cases hlt : i < l.length
  case neg =>
    rw [List.take_of_length_le (by omega)] at hB
    have hle := tx_le hM l hl hx hp l.length
    rw [List.take_length] at hle
    have hS := c16 (txt l) fr [] hB (by omega)
    simp only [lt_f hlt, h3, h9, h10, h11, eES, eEX, Nat.reduceBEq, Int.reduceLE, Int.reduceLT, Int.reduceToNat, Int.reduceEq, ↓reduceIte, reduceCtorEq, Nat.reducePow, Nat.reduceAdd, Nat.reduceLeDiff, Nat.reduceLT, Nat.reduceSub, Nat.reduceEqDiff]
    refine aops_callF hS (by simp only [List.map_cons, List.map_nil, h3, eES, eEX, Nat.reduceBEq, Int.reduceLE, Int.reduceLT, Int.reduceToNat, Int.reduceEq, ↓reduceIte, reduceCtorEq, Nat.reducePow, Nat.reduceAdd, Nat.reduceLeDiff, Nat.reduceLT, Nat.reduceSub, Nat.reduceEqDiff] <;> rfl) ?_
    simp only [eES, eEX, Nat.reduceBEq, Int.reduceLE, Int.reduceLT, Int.reduceToNat, Int.reduceEq, ↓reduceIte, reduceCtorEq, Nat.reducePow, Nat.reduceAdd, Nat.reduceLeDiff, Nat.reduceLT, Nat.reduceSub, Nat.reduceEqDiff]
  obtain ⟨x, hxi⟩ : ∃ x, l[i]? = some x := ⟨l[i], List.getElem?_eq_getElem hlt⟩
  have hxo := hx x (List.mem_of_getElem? hxi)
  have hxp := hp x (List.mem_of_getElem? hxi)
  have hg := getF hxi
  have e1 := wi64_s i _ hlt (by simp only [maxLen]; omega)
  obtain ⟨_, p2, p3, p4, p5, p6, p7, p8⟩ := line_parts hxo hxp hM [] (by simp)
  simp only [List.nil_append] at p2 p3 p4 p5 p6 p7 p8
  have hts := txt_snoc hxi
  have hle := tx_le hM l hl hx hp i
  have hll := line_len hxo hxp
  simp only [lt_t hlt, n5, nneg, Int.toNat_natCast, aiaddr, hg, List.length_map, h3, h9, h10, h11, splice, List.take_succ_cons, List.take_zero, List.drop_succ_cons, List.drop_zero, List.drop_nil, List.append_nil, List.cons_append, List.nil_append, List.length_cons, List.length_nil, List.all_cons, List.all_nil, AV.leaf, eES, eEX, Nat.reduceBEq, Int.reduceLE, Int.reduceLT, Int.reduceToNat, Int.reduceEq, ↓reduceIte, reduceCtorEq, Nat.reducePow, Nat.reduceAdd, Nat.reduceLeDiff, Nat.reduceLT, Nat.reduceSub, Nat.reduceEqDiff]
  refine pin x hxo hxp _ _ _ (txt (l.take i)) (.list (l.map fav)) (.int .i64 (l.length : Nat)) (.int .i64 (i : Nat)) (by first | rfl | exact h3 | simp only [h3, eES, eEX, Nat.reduceBEq, Int.reduceLE, Int.reduceLT, Int.reduceToNat, Int.reduceEq, ↓reduceIte, reduceCtorEq, Nat.reducePow, Nat.reduceAdd, Nat.reduceLeDiff, Nat.reduceLT, Nat.reduceSub, Nat.reduceEqDiff]) (by first | rfl | simp only [eES, eEX, Nat.reduceBEq, Int.reduceLE, Int.reduceLT, Int.reduceToNat, Int.reduceEq, ↓reduceIte, reduceCtorEq, Nat.reducePow, Nat.reduceAdd, Nat.reduceLeDiff, Nat.reduceLT, Nat.reduceSub, Nat.reduceEqDiff]) (by first | rfl | simp only [eES, eEX, Nat.reduceBEq, Int.reduceLE, Int.reduceLT, Int.reduceToNat, Int.reduceEq, ↓reduceIte, reduceCtorEq, Nat.reducePow, Nat.reduceAdd, Nat.reduceLeDiff, Nat.reduceLT, Nat.reduceSub, Nat.reduceEqDiff]) (by first | rfl | exact h9 | simp only [h9, eES, eEX, Nat.reduceBEq, Int.reduceLE, Int.reduceLT, Int.reduceToNat, Int.reduceEq, ↓reduceIte, reduceCtorEq, Nat.reducePow, Nat.reduceAdd, Nat.reduceLeDiff, Nat.reduceLT, Nat.reduceSub, Nat.reduceEqDiff]) (by first | rfl | exact h10 | simp only [h10, eES, eEX, Nat.reduceBEq, Int.reduceLE, Int.reduceLT, Int.reduceToNat, Int.reduceEq, ↓reduceIte, reduceCtorEq, Nat.reducePow, Nat.reduceAdd, Nat.reduceLeDiff, Nat.reduceLT, Nat.reduceSub, Nat.reduceEqDiff]) (by first | rfl | exact h11 | simp only [h11, eES, eEX, Nat.reduceBEq, Int.reduceLE, Int.reduceLT, Int.reduceToNat, Int.reduceEq, ↓reduceIte, reduceCtorEq, Nat.reducePow, Nat.reduceAdd, Nat.reduceLeDiff, Nat.reduceLT, Nat.reduceSub, Nat.reduceEqDiff]) (by first | rfl | simp only [eES, eEX, Nat.reduceBEq, Int.reduceLE, Int.reduceLT, Int.reduceToNat, Int.reduceEq, ↓reduceIte, reduceCtorEq, Nat.reducePow, Nat.reduceAdd, Nat.reduceLeDiff, Nat.reduceLT, Nat.reduceSub, Nat.reduceEqDiff]) (by simp only [List.length_map, eES, eEX, Nat.reduceBEq, Int.reduceLE, Int.reduceLT, Int.reduceToNat, Int.reduceEq, ↓reduceIte, reduceCtorEq, Nat.reducePow, Nat.reduceAdd, Nat.reduceLeDiff, Nat.reduceLT, Nat.reduceSub, Nat.reduceEqDiff]) (by first | rfl | simp only [eES, eEX, Nat.reduceBEq, Int.reduceLE, Int.reduceLT, Int.reduceToNat, Int.reduceEq, ↓reduceIte, reduceCtorEq, Nat.reducePow, Nat.reduceAdd, Nat.reduceLeDiff, Nat.reduceLT, Nat.reduceSub, Nat.reduceEqDiff]) (by simp only [FD.cells, eES, eEX, Nat.reduceBEq, Int.reduceLE, Int.reduceLT, Int.reduceToNat, Int.reduceEq, ↓reduceIte, reduceCtorEq, Nat.reducePow, Nat.reduceAdd, Nat.reduceLeDiff, Nat.reduceLT, Nat.reduceSub, Nat.reduceEqDiff] <;> rfl) (by first | exact hB.put5 _ | exact (hB.put5 _).put5 _) (fun f fr h3 h5 h6 h9 h10 h11 m5 hB => ?_)
  have m5' := m5
  simp only [FD.cells] at m5
  simp only [p2, h3, h5, h6, h9, h10, h11, m5, splice, List.take_succ_cons, List.take_zero, List.drop_succ_cons, List.drop_zero, List.drop_nil, List.append_nil, List.cons_append, List.nil_append, List.length_cons, List.length_nil, List.all_cons, List.all_nil, AV.leaf, eES, eEX, Nat.reduceBEq, Int.reduceLE, Int.reduceLT, Int.reduceToNat, Int.reduceEq, ↓reduceIte, reduceCtorEq, Nat.reducePow, Nat.reduceAdd, Nat.reduceLeDiff, Nat.reduceLT, Nat.reduceSub, Nat.reduceEqDiff]
  refine aops_call (c13 x.num hxo.num) rfl rfl rfl (.inl rfl) ?_
  simp only [p3, p4, h3, h5, h6, h9, h10, h11, m5, splice, List.take_succ_cons, List.take_zero, List.drop_succ_cons, List.drop_zero, List.drop_nil, List.append_nil, List.cons_append, List.nil_append, List.length_cons, List.length_nil, List.all_cons, List.all_nil, AV.leaf, eES, eEX, Nat.reduceBEq, Int.reduceLE, Int.reduceLT, Int.reduceToNat, Int.reduceEq, ↓reduceIte, reduceCtorEq, Nat.reducePow, Nat.reduceAdd, Nat.reduceLeDiff, Nat.reduceLT, Nat.reduceSub, Nat.reduceEqDiff]
  refine aops_call (y15 x.err) rfl rfl rfl (.inl rfl) ?_
  simp only [p5, p6, p7, p8, h3, h5, h6, h9, h10, h11, m5, splice, List.take_succ_cons, List.take_zero, List.drop_succ_cons, List.drop_zero, List.drop_nil, List.append_nil, List.cons_append, List.nil_append, List.length_cons, List.length_nil, List.all_cons, List.all_nil, AV.leaf, eES, eEX, Nat.reduceBEq, Int.reduceLE, Int.reduceLT, Int.reduceToNat, Int.reduceEq, ↓reduceIte, reduceCtorEq, Nat.reducePow, Nat.reduceAdd, Nat.reduceLeDiff, Nat.reduceLT, Nat.reduceSub, Nat.reduceEqDiff]
  obtain ⟨g, hW⟩ := c14 (txt (l.take i)) (line x) fr [] hB (by omega)
  refine aops_callF hW (by simp only [List.map_cons, List.map_nil, h3, eES, eEX, Nat.reduceBEq, Int.reduceLE, Int.reduceLT, Int.reduceToNat, Int.reduceEq, ↓reduceIte, reduceCtorEq, Nat.reducePow, Nat.reduceAdd, Nat.reduceLeDiff, Nat.reduceLT, Nat.reduceSub, Nat.reduceEqDiff] <;> rfl) ?_
  simp only [h3, h9, h10, h11, e1, eES, eEX, Nat.reduceBEq, Int.reduceLE, Int.reduceLT, Int.reduceToNat, Int.reduceEq, ↓reduceIte, reduceCtorEq, Nat.reducePow, Nat.reduceAdd, Nat.reduceLeDiff, Nat.reduceLT, Nat.reduceSub, Nat.reduceEqDiff]
  refine ⟨l.length - (i + 1), by omega, _, _, i + 1, rfl, rfl, by omega, (by first | rfl | exact h3 | simp only [h3, eES, eEX, Nat.reduceBEq, Int.reduceLE, Int.reduceLT, Int.reduceToNat, Int.reduceEq, ↓reduceIte, reduceCtorEq, Nat.reducePow, Nat.reduceAdd, Nat.reduceLeDiff, Nat.reduceLT, Nat.reduceSub, Nat.reduceEqDiff]), (by first | rfl | exact h9 | simp only [h9, eES, eEX, Nat.reduceBEq, Int.reduceLE, Int.reduceLT, Int.reduceToNat, Int.reduceEq, ↓reduceIte, reduceCtorEq, Nat.reducePow, Nat.reduceAdd, Nat.reduceLeDiff, Nat.reduceLT, Nat.reduceSub, Nat.reduceEqDiff]), (by first | rfl | exact h10 | simp only [h10, eES, eEX, Nat.reduceBEq, Int.reduceLE, Int.reduceLT, Int.reduceToNat, Int.reduceEq, ↓reduceIte, reduceCtorEq, Nat.reducePow, Nat.reduceAdd, Nat.reduceLeDiff, Nat.reduceLT, Nat.reduceSub, Nat.reduceEqDiff]), (by first | rfl | simp only [eES, eEX, Nat.reduceBEq, Int.reduceLE, Int.reduceLT, Int.reduceToNat, Int.reduceEq, ↓reduceIte, reduceCtorEq, Nat.reducePow, Nat.reduceAdd, Nat.reduceLeDiff, Nat.reduceLT, Nat.reduceSub, Nat.reduceEqDiff]), ?_, by rw [hts]; exact wrote_bld _ _ _⟩
  intro s hs
  simp only [List.mem_cons, List.not_mem_nil, or_false] at hs
  subst hs
  rw [wrote_ne (by decide) (by decide), m5]
  rfl
end

end Go.Proofs.YtaobkcgjidhpkaaGreatDoor.Va

namespace Go.Proofs.YtaobkcgjidhpkaaGreatDoor.Ev
open Go Am Rc

theorem awake_run : evT nat tab 6000 4 [] = true := by decide +kernel

theorem awake_ok : Fn1 Tryz.prog 4 [] (.bool true) := fn1_of_evT nat_ok tab_ok awake_run

end Go.Proofs.YtaobkcgjidhpkaaGreatDoor.Ev

set_option linter.unusedSimpArgs false
namespace Go.Proofs.YtaobkcgjidhpkaaGreatDoor.Va
open Go Am Rc Bt Br

def VwI (c : CH) (fm : Int) (l : List FD) (k : Nat) (st : St) : Prop :=
  ∃ f fr i, st = ⟨f, [fr], []⟩ ∧ k = l.length - i ∧ i ≤ l.length ∧ (∀ x ∈ l.take i, x.path.length ≤ 100) ∧ f 1 = .int .i64 fm ∧ f 2 = .list (l.map fav) ∧ f 3 = .ptr 0 3 0 ∧ f 7 = .int .i64 (i : Nat) ∧ fr 3 = .cells [.int .i64 c.kd, .str c.a, .int .i64 c.num, .str c.b, .str c.c]

theorem c3 {M : Nat} (hM : M ≤ 1048576) (c : CH) (fm : Int) (l : List FD) (hx : ∀ x ∈ l, x.ok M) : Fn1 Tryz.prog 3 [c.av, .int .i64 fm, .list (l.map fav)] (.bool true) := by
  refine k3.fn (by simp) ?_
  simp only [g3_0, g3_1, g3_2, g3_3, g3_4, g3_6, g3_7, g3_5, g3_8, g3_9, g3_10, r3, o3, CH.av, List.length_map, splice, List.take_succ_cons, List.take_zero, List.drop_succ_cons, List.drop_zero, List.drop_nil, List.append_nil, List.cons_append, List.nil_append, List.length_cons, List.length_nil, List.all_cons, List.all_nil, AV.leaf, eES, eEX, Nat.reduceBEq, Int.reduceLE, Int.reduceLT, Int.reduceToNat, Int.reduceEq, ↓reduceIte, reduceCtorEq, Nat.reducePow, Nat.reduceAdd, Nat.reduceLeDiff, Nat.reduceLT, Nat.reduceSub, Nat.reduceEqDiff]
  by_cases hl : l.length ≤ 200
  case neg =>
    have d : decide ((l.length : Int) > 200) = true := decide_eq_true (by omega)
    simp only [d, splice, List.take_succ_cons, List.take_zero, List.drop_succ_cons, List.drop_zero, List.drop_nil, List.append_nil, List.cons_append, List.nil_append, List.length_cons, List.length_nil, List.all_cons, List.all_nil, AV.leaf, eES, eEX, Nat.reduceBEq, Int.reduceLE, Int.reduceLT, Int.reduceToNat, Int.reduceEq, ↓reduceIte, reduceCtorEq, Nat.reducePow, Nat.reduceAdd, Nat.reduceLeDiff, Nat.reduceLT, Nat.reduceSub, Nat.reduceEqDiff]
    refine aops_call Ev.awake_ok rfl rfl rfl (.inl rfl) ?_
    simp only [eES, eEX, Nat.reduceBEq, Int.reduceLE, Int.reduceLT, Int.reduceToNat, Int.reduceEq, ↓reduceIte, reduceCtorEq, Nat.reducePow, Nat.reduceAdd, Nat.reduceLeDiff, Nat.reduceLT, Nat.reduceSub, Nat.reduceEqDiff]
  have d : decide ((l.length : Int) > 200) = false := decide_eq_false (by omega)
  simp only [d, splice, List.take_succ_cons, List.take_zero, List.drop_succ_cons, List.drop_zero, List.drop_nil, List.append_nil, List.cons_append, List.nil_append, List.length_cons, List.length_nil, List.all_cons, List.all_nil, AV.leaf, eES, eEX, Nat.reduceBEq, Int.reduceLE, Int.reduceLT, Int.reduceToNat, Int.reduceEq, ↓reduceIte, reduceCtorEq, Nat.reducePow, Nat.reduceAdd, Nat.reduceLeDiff, Nat.reduceLT, Nat.reduceSub, Nat.reduceEqDiff]
  refine awp_loop (VwI c fm l) _ ⟨_, _, 0, rfl, rfl, Nat.zero_le _, by simp, (by first | rfl | simp only [eES, eEX, Nat.reduceBEq, Int.reduceLE, Int.reduceLT, Int.reduceToNat, Int.reduceEq, ↓reduceIte, reduceCtorEq, Nat.reducePow, Nat.reduceAdd, Nat.reduceLeDiff, Nat.reduceLT, Nat.reduceSub, Nat.reduceEqDiff]), (by first | rfl | simp only [eES, eEX, Nat.reduceBEq, Int.reduceLE, Int.reduceLT, Int.reduceToNat, Int.reduceEq, ↓reduceIte, reduceCtorEq, Nat.reducePow, Nat.reduceAdd, Nat.reduceLeDiff, Nat.reduceLT, Nat.reduceSub, Nat.reduceEqDiff]), (by first | rfl | simp only [eES, eEX, Nat.reduceBEq, Int.reduceLE, Int.reduceLT, Int.reduceToNat, Int.reduceEq, ↓reduceIte, reduceCtorEq, Nat.reducePow, Nat.reduceAdd, Nat.reduceLeDiff, Nat.reduceLT, Nat.reduceSub, Nat.reduceEqDiff]), (by first | rfl | simp only [eES, eEX, Nat.reduceBEq, Int.reduceLE, Int.reduceLT, Int.reduceToNat, Int.reduceEq, ↓reduceIte, reduceCtorEq, Nat.reducePow, Nat.reduceAdd, Nat.reduceLeDiff, Nat.reduceLT, Nat.reduceSub, Nat.reduceEqDiff]), (by first | rfl | simp only [eES, eEX, Nat.reduceBEq, Int.reduceLE, Int.reduceLT, Int.reduceToNat, Int.reduceEq, ↓reduceIte, reduceCtorEq, Nat.reducePow, Nat.reduceAdd, Nat.reduceLeDiff, Nat.reduceLT, Nat.reduceSub, Nat.reduceEqDiff])⟩ ?_
  rintro _ st ⟨f, fr, i, rfl, rfl, hi, hp, h1, h2, h3, h7, m3⟩
  simp only [l3_0, g3_0, g3_1, g3_2, g3_3, g3_4, g3_6, g3_7, g3_5, g3_8, g3_9, g3_10, r3, o3, List.length_map, h1, h2, h3, h7, m3, splice, List.take_succ_cons, List.take_zero, List.drop_succ_cons, List.drop_zero, List.drop_nil, List.append_nil, List.cons_append, List.nil_append, List.length_cons, List.length_nil, List.all_cons, List.all_nil, AV.leaf, eES, eEX, Nat.reduceBEq, Int.reduceLE, Int.reduceLT, Int.reduceToNat, Int.reduceEq, ↓reduceIte, reduceCtorEq, Nat.reducePow, Nat.reduceAdd, Nat.reduceLeDiff, Nat.reduceLT, Nat.reduceSub, Nat.reduceEqDiff]
  by_cases hlt : i < l.length
  · obtain ⟨x, hxi⟩ : ∃ x, l[i]? = some x := ⟨l[i], List.getElem?_eq_getElem hlt⟩
    have hg := getF hxi
    have e1 := wi64_s i _ hlt (by simp only [maxLen]; omega)
    simp only [lt_t hlt, nneg, Int.toNat_natCast, aiaddr, hg, List.length_map, h1, h2, h3, h7, m3, splice, List.take_succ_cons, List.take_zero, List.drop_succ_cons, List.drop_zero, List.drop_nil, List.append_nil, List.cons_append, List.nil_append, List.length_cons, List.length_nil, List.all_cons, List.all_nil, AV.leaf, eES, eEX, Nat.reduceBEq, Int.reduceLE, Int.reduceLT, Int.reduceToNat, Int.reduceEq, ↓reduceIte, reduceCtorEq, Nat.reducePow, Nat.reduceAdd, Nat.reduceLeDiff, Nat.reduceLT, Nat.reduceSub, Nat.reduceEqDiff]
    by_cases hxp : x.path.length ≤ 100
    · have d1 : decide ((x.path.length : Int) > 100) = false := decide_eq_false (by omega)
      simp only [d1, h1, h2, h3, h7, m3, e1, splice, List.take_succ_cons, List.take_zero, List.drop_succ_cons, List.drop_zero, List.drop_nil, List.append_nil, List.cons_append, List.nil_append, List.length_cons, List.length_nil, List.all_cons, List.all_nil, AV.leaf, eES, eEX, Nat.reduceBEq, Int.reduceLE, Int.reduceLT, Int.reduceToNat, Int.reduceEq, ↓reduceIte, reduceCtorEq, Nat.reducePow, Nat.reduceAdd, Nat.reduceLeDiff, Nat.reduceLT, Nat.reduceSub, Nat.reduceEqDiff]
      refine ⟨l.length - (i + 1), by omega, _, _, i + 1, rfl, rfl, by omega, ?_, (by first | rfl | exact h1 | simp only [h1, eES, eEX, Nat.reduceBEq, Int.reduceLE, Int.reduceLT, Int.reduceToNat, Int.reduceEq, ↓reduceIte, reduceCtorEq, Nat.reducePow, Nat.reduceAdd, Nat.reduceLeDiff, Nat.reduceLT, Nat.reduceSub, Nat.reduceEqDiff]), (by first | rfl | exact h2 | simp only [h2, eES, eEX, Nat.reduceBEq, Int.reduceLE, Int.reduceLT, Int.reduceToNat, Int.reduceEq, ↓reduceIte, reduceCtorEq, Nat.reducePow, Nat.reduceAdd, Nat.reduceLeDiff, Nat.reduceLT, Nat.reduceSub, Nat.reduceEqDiff]), (by first | rfl | exact h3 | simp only [h3, eES, eEX, Nat.reduceBEq, Int.reduceLE, Int.reduceLT, Int.reduceToNat, Int.reduceEq, ↓reduceIte, reduceCtorEq, Nat.reducePow, Nat.reduceAdd, Nat.reduceLeDiff, Nat.reduceLT, Nat.reduceSub, Nat.reduceEqDiff]), (by first | rfl | simp only [eES, eEX, Nat.reduceBEq, Int.reduceLE, Int.reduceLT, Int.reduceToNat, Int.reduceEq, ↓reduceIte, reduceCtorEq, Nat.reducePow, Nat.reduceAdd, Nat.reduceLeDiff, Nat.reduceLT, Nat.reduceSub, Nat.reduceEqDiff]), (by first | rfl | exact m3 | simp only [m3, eES, eEX, Nat.reduceBEq, Int.reduceLE, Int.reduceLT, Int.reduceToNat, Int.reduceEq, ↓reduceIte, reduceCtorEq, Nat.reducePow, Nat.reduceAdd, Nat.reduceLeDiff, Nat.reduceLT, Nat.reduceSub, Nat.reduceEqDiff])⟩
      intro y hy
      rw [List.take_add_one, hxi, List.mem_append] at hy
      rcases hy with hy | hy
      · exact hp y hy
      · simp only [Option.toList_some, List.mem_singleton] at hy
        subst hy
        exact hxp
    · have d1 : decide ((x.path.length : Int) > 100) = true := decide_eq_true (by omega)
      simp only [d1, h1, h2, h3, h7, m3, e1, splice, List.take_succ_cons, List.take_zero, List.drop_succ_cons, List.drop_zero, List.drop_nil, List.append_nil, List.cons_append, List.nil_append, List.length_cons, List.length_nil, List.all_cons, List.all_nil, AV.leaf, eES, eEX, Nat.reduceBEq, Int.reduceLE, Int.reduceLT, Int.reduceToNat, Int.reduceEq, ↓reduceIte, reduceCtorEq, Nat.reducePow, Nat.reduceAdd, Nat.reduceLeDiff, Nat.reduceLT, Nat.reduceSub, Nat.reduceEqDiff]
      refine aops_call Ev.awake_ok rfl rfl rfl (.inl rfl) ?_
      simp only [eES, eEX, Nat.reduceBEq, Int.reduceLE, Int.reduceLT, Int.reduceToNat, Int.reduceEq, ↓reduceIte, reduceCtorEq, Nat.reducePow, Nat.reduceAdd, Nat.reduceLeDiff, Nat.reduceLT, Nat.reduceSub, Nat.reduceEqDiff]
  · rw [List.take_of_length_le (by omega)] at hp
    simp only [lt_f hlt, h1, h2, h3, h7, m3, splice, List.take_succ_cons, List.take_zero, List.drop_succ_cons, List.drop_zero, List.drop_nil, List.append_nil, List.cons_append, List.nil_append, List.length_cons, List.length_nil, List.all_cons, List.all_nil, AV.leaf, eES, eEX, Nat.reduceBEq, Int.reduceLE, Int.reduceLT, Int.reduceToNat, Int.reduceEq, ↓reduceIte, reduceCtorEq, Nat.reducePow, Nat.reduceAdd, Nat.reduceLeDiff, Nat.reduceLT, Nat.reduceSub, Nat.reduceEqDiff]
    refine aops_call (y5 c.kd c.num fm c.a c.b c.c) rfl rfl rfl (.inl rfl) ?_
    simp only [h1, h2, h3, h7, m3, splice, List.take_succ_cons, List.take_zero, List.drop_succ_cons, List.drop_zero, List.drop_nil, List.append_nil, List.cons_append, List.nil_append, List.length_cons, List.length_nil, List.all_cons, List.all_nil, AV.leaf, eES, eEX, Nat.reduceBEq, Int.reduceLE, Int.reduceLT, Int.reduceToNat, Int.reduceEq, ↓reduceIte, reduceCtorEq, Nat.reducePow, Nat.reduceAdd, Nat.reduceLeDiff, Nat.reduceLT, Nat.reduceSub, Nat.reduceEqDiff]
    refine aops_call (y6 c.kd c.num fm c.a c.b c.c) rfl rfl rfl (.inl rfl) ?_
    simp only [beq_self_eq_true, h1, h2, h3, h7, m3, splice, List.take_succ_cons, List.take_zero, List.drop_succ_cons, List.drop_zero, List.drop_nil, List.append_nil, List.cons_append, List.nil_append, List.length_cons, List.length_nil, List.all_cons, List.all_nil, AV.leaf, eES, eEX, Nat.reduceBEq, Int.reduceLE, Int.reduceLT, Int.reduceToNat, Int.reduceEq, ↓reduceIte, reduceCtorEq, Nat.reducePow, Nat.reduceAdd, Nat.reduceLeDiff, Nat.reduceLT, Nat.reduceSub, Nat.reduceEqDiff]
    refine aops_call (y7 hM l hl hx hp) rfl rfl rfl (.inl rfl) ?_
    simp only [beq_self_eq_true, h1, h2, h3, h7, m3, splice, List.take_succ_cons, List.take_zero, List.drop_succ_cons, List.drop_zero, List.drop_nil, List.append_nil, List.cons_append, List.nil_append, List.length_cons, List.length_nil, List.all_cons, List.all_nil, AV.leaf, eES, eEX, Nat.reduceBEq, Int.reduceLE, Int.reduceLT, Int.reduceToNat, Int.reduceEq, ↓reduceIte, reduceCtorEq, Nat.reducePow, Nat.reduceAdd, Nat.reduceLeDiff, Nat.reduceLT, Nat.reduceSub, Nat.reduceEqDiff]
    refine aops_call (y8 hM l hl hx hp) rfl rfl rfl (.inl rfl) ?_
    simp only [astr, beq_self_eq_true, h1, h2, h3, h7, m3, splice, List.take_succ_cons, List.take_zero, List.drop_succ_cons, List.drop_zero, List.drop_nil, List.append_nil, List.cons_append, List.nil_append, List.length_cons, List.length_nil, List.all_cons, List.all_nil, AV.leaf, eES, eEX, Nat.reduceBEq, Int.reduceLE, Int.reduceLT, Int.reduceToNat, Int.reduceEq, ↓reduceIte, reduceCtorEq, Nat.reducePow, Nat.reduceAdd, Nat.reduceLeDiff, Nat.reduceLT, Nat.reduceSub, Nat.reduceEqDiff]
    refine aops_call Ev.awake_ok rfl rfl rfl (.inl rfl) ?_
    simp only [eES, eEX, Nat.reduceBEq, Int.reduceLE, Int.reduceLT, Int.reduceToNat, Int.reduceEq, ↓reduceIte, reduceCtorEq, Nat.reducePow, Nat.reduceAdd, Nat.reduceLeDiff, Nat.reduceLT, Nat.reduceSub, Nat.reduceEqDiff]

end Go.Proofs.YtaobkcgjidhpkaaGreatDoor.Va

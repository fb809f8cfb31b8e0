/- Parts of the proof, in order. -/
import Derived.WalkKit
import Derived.Lib.SmallJoins
import Derived.Deep.Slices
import Derived.DataShut
import Derived.Test.YtelhohgmmhbahaaGreatDoorRows
import Derived.Test.YtelhohgmmhbahaaGreatDoorProg
import Derived.Lib.IndexLaws
import Derived.Test.YtelhohgmmhbahaaGreatDoorMPlanChecks2

namespace Go.Proofs.YtelhohgmmhbahaaGreatDoor.Rc
open Go Am
def g80_0 : IL := [⟨some 2, .boxN 2 (.t 0), none⟩, ⟨some 3, .boxN 3 (.t 1), none⟩, ⟨some 4, .val (.mov (.c (.bool false))), none⟩]
def g80_1 : IL := [⟨some 5, .val (.faddr 0 (.t 2)), none⟩, ⟨some 6, .val (.load none (.t 5)), none⟩, ⟨some 7, .val (.faddr 0 (.t 3)), none⟩, ⟨some 8, .val (.load none (.t 7)), none⟩, ⟨some 9, .val (.bin .str .lss (.t 6) (.t 8)), none⟩, ⟨some 4, .val (.mov (.t 9)), none⟩]
def r80 : RC := .seq (.reg g80_0) (.seq (.reg g80_1) (.ret))
def o80 : List RR := [.tmp 4]
theorem k80 : KK 10 r80 Tryz.f80 := by decide +kernel
theorem q80 : QQ Tryz.f80 o80 := by decide +kernel
def g81_0 : IL := [⟨some 1, .boxN 1 (.t 0), none⟩, ⟨some 2, .val (.mov (.c (.bool false))), none⟩]
def g81_1 : IL := [⟨some 3, .val (.faddr 1 (.t 1)), none⟩, ⟨some 4, .val (.load none (.t 3)), none⟩, ⟨some 5, .callF (.f 82) [(.t 4), (.f 83)], none⟩, ⟨some 6, .val (.un .not (.t 5)), none⟩, ⟨some 2, .val (.mov (.t 6)), none⟩]
def r81 : RC := .seq (.reg g81_0) (.seq (.reg g81_1) (.ret))
def o81 : List RR := [.tmp 2]
theorem k81 : KK 7 r81 Tryz.f81 := by decide +kernel
theorem q81 : QQ Tryz.f81 o81 := by decide +kernel
def g83_0 : IL := [⟨some 2, .boxN 2 (.t 0), none⟩, ⟨some 3, .boxN 3 (.t 1), none⟩, ⟨some 4, .val (.mov (.c (.bool false))), none⟩]
def g83_1 : IL := [⟨some 5, .val (.faddr 0 (.t 2)), none⟩, ⟨some 6, .val (.load none (.t 5)), none⟩, ⟨some 7, .val (.faddr 0 (.t 3)), none⟩, ⟨some 8, .val (.load none (.t 7)), none⟩, ⟨some 9, .val (.bin .num .lss (.t 6) (.t 8)), none⟩, ⟨some 4, .val (.mov (.t 9)), none⟩]
def r83 : RC := .seq (.reg g83_0) (.seq (.reg g83_1) (.ret))
def o83 : List RR := [.tmp 4]
theorem k83 : KK 10 r83 Tryz.f83 := by decide +kernel
theorem q83 : QQ Tryz.f83 o83 := by decide +kernel
def g84_0 : IL := [⟨some 1, .boxN 1 (.t 0), none⟩, ⟨some 2, .val (.mov (.c (.bool false))), none⟩]
def g84_1 : IL := [⟨some 3, .val (.faddr 2 (.t 1)), none⟩, ⟨some 4, .val (.load none (.t 3)), none⟩, ⟨some 5, .callF (.f 85) [(.t 4), (.f 86)], none⟩, ⟨some 6, .val (.un .not (.t 5)), none⟩, ⟨some 2, .val (.mov (.t 6)), none⟩]
def r84 : RC := .seq (.reg g84_0) (.seq (.reg g84_1) (.ret))
def o84 : List RR := [.tmp 2]
theorem k84 : KK 7 r84 Tryz.f84 := by decide +kernel
theorem q84 : QQ Tryz.f84 o84 := by decide +kernel
def g86_0 : IL := [⟨some 2, .boxN 2 (.t 0), none⟩, ⟨some 3, .boxN 3 (.t 1), none⟩, ⟨some 4, .val (.mov (.c (.bool false))), none⟩]
def g86_1 : IL := [⟨some 5, .val (.faddr 1 (.t 2)), none⟩, ⟨some 6, .val (.load none (.t 5)), none⟩, ⟨some 7, .val (.faddr 1 (.t 3)), none⟩, ⟨some 8, .val (.load none (.t 7)), none⟩, ⟨some 9, .val (.bin .num .lss (.t 6) (.t 8)), none⟩, ⟨some 4, .val (.mov (.t 9)), none⟩]
def r86 : RC := .seq (.reg g86_0) (.seq (.reg g86_1) (.ret))
def o86 : List RR := [.tmp 4]
theorem k86 : KK 10 r86 Tryz.f86 := by decide +kernel
theorem q86 : QQ Tryz.f86 o86 := by decide +kernel
def g73_0 : IL := [⟨some 2, .val (.mov (.c (.bool false))), none⟩]
def g73_1 : IL := [⟨some 3, .val (.mov (.t 0)), none⟩, ⟨some 4, .call (.f 152) [(.t 3)], none⟩, ⟨some 5, .val (.mov (.t 4)), none⟩, ⟨some 6, .val (.mov (.t 0)), (some (5, true))⟩, ⟨some 7, .call (.f 150) [(.t 6)], (some (5, true))⟩, ⟨some 8, .val (.un .not (.t 7)), (some (5, true))⟩, ⟨some 9, .val (.pick (.t 5) (.t 8) (.c (.bool false))), none⟩, ⟨some 2, .val (.mov (.t 9)), none⟩]
def r73 : RC := .seq (.reg g73_0) (.seq (.reg g73_1) (.ret))
def o73 : List RR := [.tmp 2]
theorem k73 : KK 10 r73 Tryz.f73 := by decide +kernel
theorem q73 : QQ Tryz.f73 o73 := by decide +kernel
def g28_0 : IL := [⟨some 1, .boxN 1 (.t 0), none⟩, ⟨some 2, .val (.mov (.c (.bool false))), none⟩]
def g28_1 : IL := [⟨some 3, .val (.faddr 0 (.t 1)), none⟩, ⟨some 4, .val (.load none (.t 3)), none⟩, ⟨some 5, .val (.mkfn (.func 97) [] [(.t 1)]), none⟩, ⟨some 6, .callF (.f 65) [(.t 4), (.t 5)], none⟩, ⟨some 7, .val (.mov (.t 6)), none⟩, ⟨some 8, .val (.faddr 1 (.t 1)), (some (7, false))⟩, ⟨some 9, .val (.load none (.t 8)), (some (7, false))⟩, ⟨some 10, .callF (.f 67) [(.t 9), (.f 103)], (some (7, false))⟩, ⟨some 11, .val (.pick (.t 7) (.c (.bool true)) (.t 10)), none⟩, ⟨some 2, .val (.mov (.t 11)), none⟩]
def r28 : RC := .seq (.reg g28_0) (.seq (.reg g28_1) (.ret))
def o28 : List RR := [.tmp 2]
theorem k28 : KK 12 r28 Tryz.f28 := by decide +kernel
theorem q28 : QQ Tryz.f28 o28 := by decide +kernel
def g97_0 : IL := [⟨some 2, .boxN 2 (.t 0), none⟩, ⟨some 3, .val (.mov (.c (.bool false))), none⟩]
def g97_1 : IL := [⟨some 4, .val (.load (some 3) (.t 2)), none⟩, ⟨some 5, .call (.f 98) [(.t 4)], none⟩, ⟨some 6, .val (.un .not (.t 5)), none⟩, ⟨some 7, .val (.mov (.t 6)), none⟩, ⟨some 8, .val (.faddr 1 (.t 2)), (some (7, false))⟩, ⟨some 9, .val (.load none (.t 8)), (some (7, false))⟩, ⟨some 10, .val (.mkfn (.func 99) [] [(.t 1)]), (some (7, false))⟩, ⟨some 11, .callF (.f 71) [(.t 9), (.t 10)], (some (7, false))⟩, ⟨some 12, .val (.pick (.t 7) (.c (.bool true)) (.t 11)), none⟩, ⟨some 3, .val (.mov (.t 12)), none⟩]
def r97 : RC := .seq (.reg g97_0) (.seq (.reg g97_1) (.ret))
def o97 : List RR := [.tmp 3]
theorem k97 : KK 13 r97 Tryz.f97 := by decide +kernel
theorem q97 : QQ Tryz.f97 o97 := by decide +kernel
def g99_0 : IL := [⟨some 2, .boxN 2 (.t 0), none⟩, ⟨some 3, .val (.mov (.c (.bool false))), none⟩]
def g99_1 : IL := [⟨some 4, .val (.faddr 2 (.t 2)), none⟩, ⟨some 5, .val (.load none (.t 4)), none⟩, ⟨some 6, .call (.f 100) [(.t 5)], none⟩, ⟨some 7, .val (.un .not (.t 6)), none⟩, ⟨some 8, .val (.mov (.t 7)), none⟩, ⟨some 9, .val (.faddr 2 (.t 2)), (some (8, false))⟩, ⟨some 10, .val (.load none (.t 9)), (some (8, false))⟩, ⟨some 11, .val (.len 0 (.t 10)), (some (8, false))⟩, ⟨some 12, .val (.bin .num .gtr (.t 11) (.c (.int .i64 4096))), (some (8, false))⟩, ⟨some 13, .val (.pick (.t 8) (.c (.bool true)) (.t 12)), none⟩, ⟨some 14, .val (.mov (.t 13)), none⟩, ⟨some 15, .val (.faddr 3 (.t 2)), (some (14, false))⟩, ⟨some 16, .val (.load none (.t 15)), (some (14, false))⟩, ⟨some 17, .val (.bin .num .lss (.t 16) (.c (.int .i64 1))), (some (14, false))⟩, ⟨some 18, .val (.pick (.t 14) (.c (.bool true)) (.t 17)), none⟩, ⟨some 19, .val (.mov (.t 18)), none⟩, ⟨some 20, .val (.faddr 3 (.t 2)), (some (19, false))⟩, ⟨some 21, .val (.load none (.t 20)), (some (19, false))⟩, ⟨some 22, .val (.bin .num .gtr (.t 21) (.c (.int .i64 5))), (some (19, false))⟩, ⟨some 23, .val (.pick (.t 19) (.c (.bool true)) (.t 22)), none⟩, ⟨some 24, .val (.mov (.t 23)), none⟩, ⟨some 25, .val (.load (some 8) (.t 2)), (some (24, false))⟩, ⟨some 26, .call (.f 101) [(.t 25)], (some (24, false))⟩, ⟨some 27, .val (.un .not (.t 26)), (some (24, false))⟩, ⟨some 28, .val (.pick (.t 24) (.c (.bool true)) (.t 27)), none⟩, ⟨some 29, .val (.mov (.t 28)), none⟩, ⟨some 30, .val (.load (some 2) (.t 1)), (some (29, false))⟩, ⟨some 31, .val (.load (some 8) (.t 2)), (some (29, false))⟩, ⟨some 32, .call (.f 102) [(.t 30), (.t 31)], (some (29, false))⟩, ⟨some 33, .val (.un .not (.t 32)), (some (29, false))⟩, ⟨some 34, .val (.pick (.t 29) (.c (.bool true)) (.t 33)), none⟩, ⟨some 3, .val (.mov (.t 34)), none⟩]
def r99 : RC := .seq (.reg g99_0) (.seq (.reg g99_1) (.ret))
def o99 : List RR := [.tmp 3]
theorem k99 : KK 35 r99 Tryz.f99 := by decide +kernel
theorem q99 : QQ Tryz.f99 o99 := by decide +kernel
def g103_0 : IL := [⟨some 1, .boxN 1 (.t 0), none⟩, ⟨some 2, .val (.mov (.c (.bool false))), none⟩]
def g103_1 : IL := [⟨some 3, .val (.faddr 4 (.t 1)), none⟩, ⟨some 4, .val (.load none (.t 3)), none⟩, ⟨some 5, .val (.len 1 (.t 4)), none⟩, ⟨some 6, .val (.bin .num .gtr (.t 5) (.c (.int .i64 0))), none⟩, ⟨some 7, .val (.mov (.t 6)), none⟩, ⟨some 8, .val (.faddr 2 (.t 1)), (some (7, false))⟩, ⟨some 9, .val (.load none (.t 8)), (some (7, false))⟩, ⟨some 10, .callF (.f 75) [(.t 9), (.f 104)], (some (7, false))⟩, ⟨some 11, .val (.pick (.t 7) (.c (.bool true)) (.t 10)), none⟩, ⟨some 2, .val (.mov (.t 11)), none⟩]
def r103 : RC := .seq (.reg g103_0) (.seq (.reg g103_1) (.ret))
def o103 : List RR := [.tmp 2]
theorem k103 : KK 12 r103 Tryz.f103 := by decide +kernel
theorem q103 : QQ Tryz.f103 o103 := by decide +kernel
def g104_0 : IL := [⟨some 1, .boxN 1 (.t 0), none⟩, ⟨some 2, .val (.mov (.c (.bool false))), none⟩]
def g104_1 : IL := [⟨some 3, .val (.faddr 2 (.t 1)), none⟩, ⟨some 4, .val (.load none (.t 3)), none⟩, ⟨some 5, .val (.len 1 (.t 4)), none⟩, ⟨some 6, .val (.bin .num .gtr (.t 5) (.c (.int .i64 1))), none⟩, ⟨some 7, .val (.mov (.t 6)), none⟩, ⟨some 8, .val (.faddr 2 (.t 1)), (some (7, false))⟩, ⟨some 9, .val (.load none (.t 8)), (some (7, false))⟩, ⟨some 10, .val (.len 1 (.t 9)), (some (7, false))⟩, ⟨some 11, .val (.bin .num .eql (.t 10) (.c (.int .i64 1))), (some (7, false))⟩, ⟨some 12, .val (.mov (.t 11)), (some (7, false))⟩, ⟨some 13, .val (.faddr 2 (.t 1)), (some (12, true))⟩, ⟨some 14, .val (.load none (.t 13)), (some (12, true))⟩, ⟨some 15, .val (.iaddr 8 none (.t 14) (.c (.int .i64 0))), (some (12, true))⟩, ⟨some 16, .val (.faddr 0 (.t 15)), (some (12, true))⟩, ⟨some 17, .val (.load none (.t 16)), (some (12, true))⟩, ⟨some 18, .val (.bin .str .neq (.t 17) (.c (.str [97, 108, 105, 97, 115]))), (some (12, true))⟩, ⟨some 19, .val (.mov (.t 18)), (some (12, true))⟩, ⟨some 20, .val (.faddr 2 (.t 1)), (some (19, false))⟩, ⟨some 21, .val (.load none (.t 20)), (some (19, false))⟩, ⟨some 22, .call (.f 105) [(.t 21), (.c (.int .i64 4))], (some (19, false))⟩, ⟨some 23, .val (.bin .num .neq (.t 22) (.c (.int .i64 0))), (some (19, false))⟩, ⟨some 24, .val (.pick (.t 19) (.c (.bool true)) (.t 23)), (some (12, true))⟩, ⟨some 25, .val (.pick (.t 12) (.t 24) (.c (.bool false))), (some (7, false))⟩, ⟨some 26, .val (.pick (.t 7) (.c (.bool true)) (.t 25)), none⟩, ⟨some 2, .val (.mov (.t 26)), none⟩]
def r104 : RC := .seq (.reg g104_0) (.seq (.reg g104_1) (.ret))
def o104 : List RR := [.tmp 2]
theorem k104 : KK 27 r104 Tryz.f104 := by decide +kernel
theorem q104 : QQ Tryz.f104 o104 := by decide +kernel
def g146_0 : IL := [⟨some 4, .val (.mov (.c (.bool false))), none⟩]
def g146_1 : IL := [⟨some 5, .val (.mov (.t 0)), none⟩, ⟨some 6, .val (.mov (.t 1)), none⟩, ⟨some 7, .callF (.f 205) [(.t 5), (.t 6)], none⟩, ⟨some 8, .val (.bin .num .geq (.t 7) (.c (.int .i64 0))), none⟩, ⟨some 4, .val (.mov (.t 8)), none⟩]
def r146 : RC := .seq (.reg g146_0) (.seq (.reg g146_1) (.ret))
def o146 : List RR := [.tmp 4]
theorem k146 : KK 9 r146 Tryz.f146 := by decide +kernel
theorem q146 : QQ Tryz.f146 o146 := by decide +kernel
def g151_0 : IL := [⟨some 4, .val (.mov (.c (.bool false))), none⟩]
def g151_1 : IL := [⟨some 5, .val (.mov (.t 0)), none⟩, ⟨some 6, .val (.mov (.t 1)), none⟩, ⟨some 7, .callF (.f 172) [(.t 5), (.t 6)], none⟩, ⟨some 8, .val (.bin .num .geq (.t 7) (.c (.int .i64 0))), none⟩, ⟨some 4, .val (.mov (.t 8)), none⟩]
def r151 : RC := .seq (.reg g151_0) (.seq (.reg g151_1) (.ret))
def o151 : List RR := [.tmp 4]
theorem k151 : KK 9 r151 Tryz.f151 := by decide +kernel
theorem q151 : QQ Tryz.f151 o151 := by decide +kernel
def g145_0 : IL := [⟨some 4, .val (.mov (.c (.bool false))), none⟩]
def g145_1 : IL := [⟨some 5, .val (.mov (.t 0)), none⟩, ⟨some 6, .val (.mov (.t 1)), none⟩, ⟨some 7, .callF (.f 208) [(.t 5), (.t 6)], none⟩, ⟨some 8, .val (.bin .num .geq (.t 7) (.c (.int .i64 0))), none⟩, ⟨some 4, .val (.mov (.t 8)), none⟩]
def r145 : RC := .seq (.reg g145_0) (.seq (.reg g145_1) (.ret))
def o145 : List RR := [.tmp 4]
theorem k145 : KK 9 r145 Tryz.f145 := by decide +kernel
theorem q145 : QQ Tryz.f145 o145 := by decide +kernel
def g107_0 : IL := [⟨some 4, .val (.mov (.c (.bool false))), none⟩]
def g107_1 : IL := [⟨some 5, .val (.mov (.t 0)), none⟩, ⟨some 6, .val (.mov (.t 1)), none⟩, ⟨some 7, .call (.f 161) [(.t 5), (.t 6)], none⟩, ⟨some 8, .val (.bin .num .geq (.t 7) (.c (.int .i64 0))), none⟩, ⟨some 4, .val (.mov (.t 8)), none⟩]
def r107 : RC := .seq (.reg g107_0) (.seq (.reg g107_1) (.ret))
def o107 : List RR := [.tmp 4]
theorem k107 : KK 9 r107 Tryz.f107 := by decide +kernel
theorem q107 : QQ Tryz.f107 o107 := by decide +kernel
def g208_0 : IL := [⟨some 4, .val (.mov (.c (.int .i64 0))), none⟩]
def g208_1 : IL := [⟨some 6, .val (.mov (.t 0)), none⟩, ⟨some 7, .val (.len 1 (.t 6)), none⟩, ⟨some 8, .val (.mov (.c (.int .i64 0))), none⟩]
def g208_2 : IL := [⟨some 9, .val (.bin .num .lss (.t 8) (.t 7)), none⟩]
def g208_3 : IL := [⟨some 10, .val (.mov (.t 8)), none⟩, ⟨some 5, .val (.mov (.t 10)), none⟩]
def g208_4 : IL := [⟨some 11, .val (.mov (.t 1)), none⟩, ⟨some 12, .val (.mov (.t 0)), none⟩, ⟨some 13, .val (.mov (.t 5)), none⟩, ⟨some 14, .val (.iaddr 3 none (.t 12) (.t 13)), none⟩, ⟨some 15, .val (.load (some 3) (.t 14)), none⟩, ⟨some 16, .callF (.t 11) [(.t 15)], none⟩]
def g208_5 : IL := [⟨some 17, .val (.mov (.t 5)), none⟩, ⟨some 4, .val (.mov (.t 17)), none⟩]
def g208_6 : IL := [⟨some 18, .val (.bin .num .add (.t 8) (.c (.int .i64 1))), none⟩, ⟨some 8, .val (.mov (.t 18)), none⟩]
def l208_0 : RC := .seq (.reg g208_2) (.seq (.cond (.t 9) (.skip) (.exit 0)) (.seq (.block 1 (.seq (.reg g208_3) (.seq (.reg g208_4) (.cond (.t 16) (.seq (.reg g208_5) (.ret)) (.skip))))) (.reg g208_6)))
def g208_7 : IL := [⟨some 4, .val (.mov (.c (.int .i64 (-1)))), none⟩]
def r208 : RC := .seq (.reg g208_0) (.seq (.seq (.reg g208_1) (.block 0 (.loop l208_0))) (.seq (.reg g208_7) (.ret)))
def o208 : List RR := [.tmp 4]
theorem k208 : KK 19 r208 Tryz.f208 := by decide +kernel
theorem q208 : QQ Tryz.f208 o208 := by decide +kernel
def g161_0 : IL := [⟨some 4, .val (.mov (.c (.int .i64 0))), none⟩]
def g161_1 : IL := [⟨some 6, .val (.mov (.t 0)), none⟩, ⟨some 7, .val (.len 1 (.t 6)), none⟩, ⟨some 8, .val (.mov (.c (.int .i64 0))), none⟩]
def g161_2 : IL := [⟨some 9, .val (.bin .num .lss (.t 8) (.t 7)), none⟩]
def g161_3 : IL := [⟨some 10, .val (.mov (.t 8)), none⟩, ⟨some 5, .val (.mov (.t 10)), none⟩]
def g161_4 : IL := [⟨some 11, .val (.mov (.t 1)), none⟩, ⟨some 12, .val (.mov (.t 0)), none⟩, ⟨some 13, .val (.mov (.t 5)), none⟩, ⟨some 14, .val (.iaddr 1 none (.t 12) (.t 13)), none⟩, ⟨some 15, .val (.load none (.t 14)), none⟩, ⟨some 16, .val (.bin .bool .eql (.t 11) (.t 15)), none⟩]
def g161_5 : IL := [⟨some 17, .val (.mov (.t 5)), none⟩, ⟨some 4, .val (.mov (.t 17)), none⟩]
def g161_6 : IL := [⟨some 18, .val (.bin .num .add (.t 8) (.c (.int .i64 1))), none⟩, ⟨some 8, .val (.mov (.t 18)), none⟩]
def l161_0 : RC := .seq (.reg g161_2) (.seq (.cond (.t 9) (.skip) (.exit 0)) (.seq (.block 1 (.seq (.reg g161_3) (.seq (.reg g161_4) (.cond (.t 16) (.seq (.reg g161_5) (.ret)) (.skip))))) (.reg g161_6)))
def g161_7 : IL := [⟨some 4, .val (.mov (.c (.int .i64 (-1)))), none⟩]
def r161 : RC := .seq (.reg g161_0) (.seq (.seq (.reg g161_1) (.block 0 (.loop l161_0))) (.seq (.reg g161_7) (.ret)))
def o161 : List RR := [.tmp 4]
theorem k161 : KK 19 r161 Tryz.f161 := by decide +kernel
theorem q161 : QQ Tryz.f161 o161 := by decide +kernel
def g4_0 : IL := [⟨some 1, .boxN 1 (.t 0), none⟩, ⟨some 2, .val (.mov (.c (.bool false))), none⟩]
def g4_1 : IL := [⟨some 3, .val (.load (some 2) (.t 1)), none⟩, ⟨some 4, .callR (.f 11) [(.t 3)], none⟩, ⟨some 5, .val (.un .not (.t 4)), none⟩]
def g4_2 : IL := [⟨some 2, .val (.mov (.c (.bool true))), none⟩]
def g4_3 : IL := [⟨some 6, .val (.loadv 0 1 (some 2) (.t 1)), none⟩, ⟨some 7, .call (.f 12) [(.t 6)], none⟩, ⟨some 8, .val (.loadv 0 1 (some 2) (.t 1)), none⟩, ⟨some 9, .call (.f 13) [(.t 8)], none⟩, ⟨some 10, .val (.bin .num .eql (.t 7) (.t 9)), none⟩, ⟨some 11, .val (.mov (.t 10)), none⟩, ⟨some 12, .call (.f 10) [], (some (11, true))⟩, ⟨some 13, .val (.pick (.t 11) (.t 12) (.c (.bool false))), none⟩, ⟨some 2, .val (.mov (.t 13)), none⟩]
def r4 : RC := .seq (.reg g4_0) (.seq (.seq (.reg g4_1) (.cond (.t 5) (.seq (.reg g4_2) (.ret)) (.skip))) (.seq (.draw g4_3) (.ret)))
def o4 : List RR := [.tmp 2]
theorem k4 : KK 14 r4 Tryz.f4 := by decide +kernel
theorem q4 : QQ Tryz.f4 o4 := by decide +kernel
def g11_0 : IL := [⟨some 1, .boxN 1 (.t 0), none⟩, ⟨some 2, .val (.mov (.c (.bool false))), none⟩]
def g11_1 : IL := [⟨some 6, .val (.faddr 0 (.t 1)), none⟩, ⟨some 7, .val (.load none (.t 6)), none⟩, ⟨some 8, .val (.len 1 (.t 7)), none⟩, ⟨some 9, .val (.bin .num .leq (.t 8) (.c (.int .i64 70))), none⟩, ⟨some 10, .val (.mov (.t 9)), none⟩, ⟨some 11, .val (.faddr 1 (.t 1)), (some (10, true))⟩, ⟨some 12, .val (.load none (.t 11)), (some (10, true))⟩, ⟨some 13, .val (.len 1 (.t 12)), (some (10, true))⟩, ⟨some 14, .val (.bin .num .leq (.t 13) (.c (.int .i64 70))), (some (10, true))⟩, ⟨some 15, .val (.pick (.t 10) (.t 14) (.c (.bool false))), none⟩, ⟨some 3, .val (.mov (.t 15)), none⟩]
def g11_2 : IL := [⟨some 4, .val (.mov (.c (.int .i64 0))), none⟩]
def g11_3 : IL := [⟨some 16, .val (.mov (.t 3)), none⟩, ⟨some 17, .val (.mov (.t 16)), none⟩, ⟨some 18, .val (.mov (.t 4)), (some (17, true))⟩, ⟨some 19, .val (.faddr 0 (.t 1)), (some (17, true))⟩, ⟨some 20, .val (.load none (.t 19)), (some (17, true))⟩, ⟨some 21, .val (.len 1 (.t 20)), (some (17, true))⟩, ⟨some 22, .val (.bin .num .lss (.t 18) (.t 21)), (some (17, true))⟩, ⟨some 23, .val (.pick (.t 17) (.t 22) (.c (.bool false))), none⟩]
def g11_5 : IL := [⟨some 26, .val (.faddr 0 (.t 1)), none⟩, ⟨some 27, .val (.load none (.t 26)), none⟩, ⟨some 28, .val (.mov (.t 4)), none⟩, ⟨some 29, .val (.iaddr 3 none (.t 27) (.t 28)), none⟩, ⟨some 30, .val (.faddr 1 (.t 29)), none⟩, ⟨some 31, .val (.load none (.t 30)), none⟩, ⟨some 32, .val (.len 1 (.t 31)), none⟩, ⟨some 33, .val (.bin .num .leq (.t 32) (.c (.int .i64 70))), none⟩, ⟨some 3, .val (.mov (.t 33)), none⟩]
def g11_4 : IL := [⟨some 24, .val (.mov (.t 4)), none⟩, ⟨some 25, .val (.bin .num .add (.t 24) (.c (.int .i64 1))), none⟩, ⟨some 4, .val (.mov (.t 25)), none⟩]
def l11_0 : RC := .seq (.seq (.reg g11_3) (.cond (.t 23) (.skip) (.exit 0))) (.seq (.block 1 (.reg g11_5)) (.reg g11_4))
def g11_6 : IL := [⟨some 5, .val (.mov (.c (.int .i64 0))), none⟩]
def g11_7 : IL := [⟨some 34, .val (.mov (.t 3)), none⟩, ⟨some 35, .val (.mov (.t 34)), none⟩, ⟨some 36, .val (.mov (.t 5)), (some (35, true))⟩, ⟨some 37, .val (.faddr 1 (.t 1)), (some (35, true))⟩, ⟨some 38, .val (.load none (.t 37)), (some (35, true))⟩, ⟨some 39, .val (.len 1 (.t 38)), (some (35, true))⟩, ⟨some 40, .val (.bin .num .lss (.t 36) (.t 39)), (some (35, true))⟩, ⟨some 41, .val (.pick (.t 35) (.t 40) (.c (.bool false))), none⟩]
def g11_9 : IL := [⟨some 44, .val (.faddr 1 (.t 1)), none⟩, ⟨some 45, .val (.load none (.t 44)), none⟩, ⟨some 46, .val (.mov (.t 5)), none⟩, ⟨some 47, .val (.iaddr 5 none (.t 45) (.t 46)), none⟩, ⟨some 48, .val (.faddr 2 (.t 47)), none⟩, ⟨some 49, .val (.load none (.t 48)), none⟩, ⟨some 50, .val (.len 1 (.t 49)), none⟩, ⟨some 51, .val (.bin .num .leq (.t 50) (.c (.int .i64 70))), none⟩, ⟨some 52, .val (.mov (.t 51)), none⟩, ⟨some 53, .val (.faddr 1 (.t 1)), (some (52, true))⟩, ⟨some 54, .val (.load none (.t 53)), (some (52, true))⟩, ⟨some 55, .val (.mov (.t 5)), (some (52, true))⟩, ⟨some 56, .val (.iaddr 5 none (.t 54) (.t 55)), (some (52, true))⟩, ⟨some 57, .val (.faddr 3 (.t 56)), (some (52, true))⟩, ⟨some 58, .val (.load none (.t 57)), (some (52, true))⟩, ⟨some 59, .val (.len 1 (.t 58)), (some (52, true))⟩, ⟨some 60, .val (.bin .num .leq (.t 59) (.c (.int .i64 70))), (some (52, true))⟩, ⟨some 61, .val (.pick (.t 52) (.t 60) (.c (.bool false))), none⟩, ⟨some 3, .val (.mov (.t 61)), none⟩]
def g11_8 : IL := [⟨some 42, .val (.mov (.t 5)), none⟩, ⟨some 43, .val (.bin .num .add (.t 42) (.c (.int .i64 1))), none⟩, ⟨some 5, .val (.mov (.t 43)), none⟩]
def l11_1 : RC := .seq (.seq (.reg g11_7) (.cond (.t 41) (.skip) (.exit 2))) (.seq (.block 3 (.reg g11_9)) (.reg g11_8))
def g11_10 : IL := [⟨some 62, .val (.mov (.t 3)), none⟩, ⟨some 2, .val (.mov (.t 62)), none⟩]
def r11 : RC := .seq (.reg g11_0) (.seq (.reg g11_1) (.seq (.seq (.reg g11_2) (.block 0 (.loop l11_0))) (.seq (.seq (.reg g11_6) (.block 2 (.loop l11_1))) (.seq (.reg g11_10) (.ret)))))
def o11 : List RR := [.tmp 2]
theorem k11 : KK 63 r11 Tryz.f11 := by decide +kernel
theorem q11 : QQ Tryz.f11 o11 := by decide +kernel
def g221_0 : IL := [⟨some 2, .val (.mov (.c (.int .i64 0))), none⟩]
def g221_1 : IL := [⟨some 3, .val (.mov (.c (.int .i64 0))), none⟩]
def g221_2 : IL := [⟨some 5, .val (.mov (.t 3)), none⟩, ⟨some 6, .val (.mov (.t 0)), none⟩, ⟨some 7, .val (.len 0 (.t 6)), none⟩, ⟨some 8, .val (.bin .num .lss (.t 5) (.t 7)), none⟩]
def g221_3 : IL := [⟨some 9, .val (.mov (.t 0)), none⟩, ⟨some 10, .val (.mov (.t 3)), none⟩, ⟨some 11, .call (.f 264) [(.t 9), (.t 10)], none⟩, ⟨some 4, .val (.mov (.t 11)), none⟩]
def g221_4 : IL := [⟨some 12, .val (.mov (.t 4)), none⟩, ⟨some 13, .val (.bin .num .eql (.t 12) (.c (.int .i64 0))), none⟩]
def g221_5 : IL := [⟨some 14, .val (.mov (.t 3)), none⟩, ⟨some 2, .val (.mov (.t 14)), none⟩]
def g221_6 : IL := [⟨some 15, .val (.mov (.t 3)), none⟩, ⟨some 16, .val (.mov (.t 4)), none⟩, ⟨some 17, .val (.bin .num .add (.t 15) (.t 16)), none⟩, ⟨some 3, .val (.mov (.t 17)), none⟩]
def l221_0 : RC := .seq (.seq (.reg g221_2) (.cond (.t 8) (.skip) (.exit 0))) (.block 1 (.seq (.reg g221_3) (.seq (.seq (.reg g221_4) (.cond (.t 13) (.seq (.reg g221_5) (.ret)) (.skip))) (.reg g221_6))))
def g221_7 : IL := [⟨some 2, .val (.mov (.c (.int .i64 (-1)))), none⟩]
def r221 : RC := .seq (.reg g221_0) (.seq (.seq (.reg g221_1) (.block 0 (.loop l221_0))) (.seq (.reg g221_7) (.ret)))
def o221 : List RR := [.tmp 2]
theorem k221 : KK 18 r221 Tryz.f221 := by decide +kernel
theorem q221 : QQ Tryz.f221 o221 := by decide +kernel
def g264_0 : IL := [⟨some 4, .val (.mov (.c (.int .i64 0))), none⟩]
def g264_1 : IL := [⟨some 6, .val (.mov (.t 0)), none⟩, ⟨some 7, .val (.mov (.t 1)), none⟩, ⟨some 8, .val (.idx (.t 6) (.t 7)), none⟩, ⟨some 5, .val (.mov (.t 8)), none⟩]
def g264_2 : IL := [⟨some 10, .val (.mov (.t 5)), none⟩, ⟨some 11, .val (.bin .num .lss (.t 10) (.c (.int .u8 128))), none⟩, ⟨some 9, .val (.mov (.t 11)), none⟩]
def g264_3 : IL := [⟨some 4, .val (.mov (.c (.int .i64 1))), none⟩]
def g264_4 : IL := [⟨some 13, .val (.mov (.t 5)), none⟩, ⟨some 14, .val (.bin .num .geq (.t 13) (.c (.int .u8 194))), none⟩, ⟨some 15, .val (.mov (.t 14)), none⟩, ⟨some 16, .val (.mov (.t 5)), (some (15, true))⟩, ⟨some 17, .val (.bin .num .leq (.t 16) (.c (.int .u8 223))), (some (15, true))⟩, ⟨some 18, .val (.pick (.t 15) (.t 17) (.c (.bool false))), none⟩, ⟨some 19, .val (.mov (.t 18)), none⟩, ⟨some 20, .val (.mov (.t 0)), (some (19, true))⟩, ⟨some 21, .val (.mov (.t 1)), (some (19, true))⟩, ⟨some 22, .val (.bin .num .add (.t 21) (.c (.int .i64 1))), (some (19, true))⟩, ⟨some 23, .call (.f 289) [(.t 20), (.t 22), (.c (.int .i64 1))], (some (19, true))⟩, ⟨some 24, .val (.pick (.t 19) (.t 23) (.c (.bool false))), none⟩, ⟨some 12, .val (.mov (.t 24)), none⟩]
def g264_5 : IL := [⟨some 4, .val (.mov (.c (.int .i64 2))), none⟩]
def g264_6 : IL := [⟨some 26, .val (.mov (.t 5)), none⟩, ⟨some 27, .val (.bin .num .eql (.t 26) (.c (.int .u8 224))), none⟩, ⟨some 28, .val (.mov (.t 27)), none⟩, ⟨some 29, .val (.mov (.t 0)), (some (28, true))⟩, ⟨some 30, .val (.mov (.t 1)), (some (28, true))⟩, ⟨some 31, .val (.bin .num .add (.t 30) (.c (.int .i64 1))), (some (28, true))⟩, ⟨some 32, .call (.f 290) [(.t 29), (.t 31), (.c (.int .u8 160)), (.c (.int .u8 191))], (some (28, true))⟩, ⟨some 33, .val (.pick (.t 28) (.t 32) (.c (.bool false))), none⟩, ⟨some 34, .val (.mov (.t 33)), none⟩, ⟨some 35, .val (.mov (.t 0)), (some (34, true))⟩, ⟨some 36, .val (.mov (.t 1)), (some (34, true))⟩, ⟨some 37, .val (.bin .num .add (.t 36) (.c (.int .i64 2))), (some (34, true))⟩, ⟨some 38, .call (.f 289) [(.t 35), (.t 37), (.c (.int .i64 1))], (some (34, true))⟩, ⟨some 39, .val (.pick (.t 34) (.t 38) (.c (.bool false))), none⟩, ⟨some 25, .val (.mov (.t 39)), none⟩]
def g264_7 : IL := [⟨some 4, .val (.mov (.c (.int .i64 3))), none⟩]
def g264_8 : IL := [⟨some 41, .val (.mov (.t 5)), none⟩, ⟨some 42, .val (.bin .num .eql (.t 41) (.c (.int .u8 237))), none⟩, ⟨some 43, .val (.mov (.t 42)), none⟩, ⟨some 44, .val (.mov (.t 0)), (some (43, true))⟩, ⟨some 45, .val (.mov (.t 1)), (some (43, true))⟩, ⟨some 46, .val (.bin .num .add (.t 45) (.c (.int .i64 1))), (some (43, true))⟩, ⟨some 47, .call (.f 290) [(.t 44), (.t 46), (.c (.int .u8 128)), (.c (.int .u8 159))], (some (43, true))⟩, ⟨some 48, .val (.pick (.t 43) (.t 47) (.c (.bool false))), none⟩, ⟨some 49, .val (.mov (.t 48)), none⟩, ⟨some 50, .val (.mov (.t 0)), (some (49, true))⟩, ⟨some 51, .val (.mov (.t 1)), (some (49, true))⟩, ⟨some 52, .val (.bin .num .add (.t 51) (.c (.int .i64 2))), (some (49, true))⟩, ⟨some 53, .call (.f 289) [(.t 50), (.t 52), (.c (.int .i64 1))], (some (49, true))⟩, ⟨some 54, .val (.pick (.t 49) (.t 53) (.c (.bool false))), none⟩, ⟨some 40, .val (.mov (.t 54)), none⟩]
def g264_9 : IL := [⟨some 4, .val (.mov (.c (.int .i64 3))), none⟩]
def g264_10 : IL := [⟨some 56, .val (.mov (.t 5)), none⟩, ⟨some 57, .val (.bin .num .geq (.t 56) (.c (.int .u8 225))), none⟩, ⟨some 58, .val (.mov (.t 57)), none⟩, ⟨some 59, .val (.mov (.t 5)), (some (58, true))⟩, ⟨some 60, .val (.bin .num .leq (.t 59) (.c (.int .u8 239))), (some (58, true))⟩, ⟨some 61, .val (.pick (.t 58) (.t 60) (.c (.bool false))), none⟩, ⟨some 62, .val (.mov (.t 61)), none⟩, ⟨some 63, .val (.mov (.t 5)), (some (62, true))⟩, ⟨some 64, .val (.bin .num .neq (.t 63) (.c (.int .u8 237))), (some (62, true))⟩, ⟨some 65, .val (.pick (.t 62) (.t 64) (.c (.bool false))), none⟩, ⟨some 66, .val (.mov (.t 65)), none⟩, ⟨some 67, .val (.mov (.t 0)), (some (66, true))⟩, ⟨some 68, .val (.mov (.t 1)), (some (66, true))⟩, ⟨some 69, .val (.bin .num .add (.t 68) (.c (.int .i64 1))), (some (66, true))⟩, ⟨some 70, .call (.f 289) [(.t 67), (.t 69), (.c (.int .i64 2))], (some (66, true))⟩, ⟨some 71, .val (.pick (.t 66) (.t 70) (.c (.bool false))), none⟩, ⟨some 55, .val (.mov (.t 71)), none⟩]
def g264_11 : IL := [⟨some 4, .val (.mov (.c (.int .i64 3))), none⟩]
def g264_12 : IL := [⟨some 73, .val (.mov (.t 5)), none⟩, ⟨some 74, .val (.bin .num .eql (.t 73) (.c (.int .u8 240))), none⟩, ⟨some 75, .val (.mov (.t 74)), none⟩, ⟨some 76, .val (.mov (.t 0)), (some (75, true))⟩, ⟨some 77, .val (.mov (.t 1)), (some (75, true))⟩, ⟨some 78, .val (.bin .num .add (.t 77) (.c (.int .i64 1))), (some (75, true))⟩, ⟨some 79, .call (.f 290) [(.t 76), (.t 78), (.c (.int .u8 144)), (.c (.int .u8 191))], (some (75, true))⟩, ⟨some 80, .val (.pick (.t 75) (.t 79) (.c (.bool false))), none⟩, ⟨some 81, .val (.mov (.t 80)), none⟩, ⟨some 82, .val (.mov (.t 0)), (some (81, true))⟩, ⟨some 83, .val (.mov (.t 1)), (some (81, true))⟩, ⟨some 84, .val (.bin .num .add (.t 83) (.c (.int .i64 2))), (some (81, true))⟩, ⟨some 85, .call (.f 289) [(.t 82), (.t 84), (.c (.int .i64 2))], (some (81, true))⟩, ⟨some 86, .val (.pick (.t 81) (.t 85) (.c (.bool false))), none⟩, ⟨some 72, .val (.mov (.t 86)), none⟩]
def g264_13 : IL := [⟨some 4, .val (.mov (.c (.int .i64 4))), none⟩]
def g264_14 : IL := [⟨some 88, .val (.mov (.t 5)), none⟩, ⟨some 89, .val (.bin .num .geq (.t 88) (.c (.int .u8 241))), none⟩, ⟨some 90, .val (.mov (.t 89)), none⟩, ⟨some 91, .val (.mov (.t 5)), (some (90, true))⟩, ⟨some 92, .val (.bin .num .leq (.t 91) (.c (.int .u8 243))), (some (90, true))⟩, ⟨some 93, .val (.pick (.t 90) (.t 92) (.c (.bool false))), none⟩, ⟨some 94, .val (.mov (.t 93)), none⟩, ⟨some 95, .val (.mov (.t 0)), (some (94, true))⟩, ⟨some 96, .val (.mov (.t 1)), (some (94, true))⟩, ⟨some 97, .val (.bin .num .add (.t 96) (.c (.int .i64 1))), (some (94, true))⟩, ⟨some 98, .call (.f 289) [(.t 95), (.t 97), (.c (.int .i64 3))], (some (94, true))⟩, ⟨some 99, .val (.pick (.t 94) (.t 98) (.c (.bool false))), none⟩, ⟨some 87, .val (.mov (.t 99)), none⟩]
def g264_15 : IL := [⟨some 4, .val (.mov (.c (.int .i64 4))), none⟩]
def g264_16 : IL := [⟨some 101, .val (.mov (.t 5)), none⟩, ⟨some 102, .val (.bin .num .eql (.t 101) (.c (.int .u8 244))), none⟩, ⟨some 103, .val (.mov (.t 102)), none⟩, ⟨some 104, .val (.mov (.t 0)), (some (103, true))⟩, ⟨some 105, .val (.mov (.t 1)), (some (103, true))⟩, ⟨some 106, .val (.bin .num .add (.t 105) (.c (.int .i64 1))), (some (103, true))⟩, ⟨some 107, .call (.f 290) [(.t 104), (.t 106), (.c (.int .u8 128)), (.c (.int .u8 143))], (some (103, true))⟩, ⟨some 108, .val (.pick (.t 103) (.t 107) (.c (.bool false))), none⟩, ⟨some 109, .val (.mov (.t 108)), none⟩, ⟨some 110, .val (.mov (.t 0)), (some (109, true))⟩, ⟨some 111, .val (.mov (.t 1)), (some (109, true))⟩, ⟨some 112, .val (.bin .num .add (.t 111) (.c (.int .i64 2))), (some (109, true))⟩, ⟨some 113, .call (.f 289) [(.t 110), (.t 112), (.c (.int .i64 2))], (some (109, true))⟩, ⟨some 114, .val (.pick (.t 109) (.t 113) (.c (.bool false))), none⟩, ⟨some 100, .val (.mov (.t 114)), none⟩]
def g264_17 : IL := [⟨some 4, .val (.mov (.c (.int .i64 4))), none⟩]
def g264_18 : IL := [⟨some 4, .val (.mov (.c (.int .i64 0))), none⟩]
def r264 : RC := .seq (.reg g264_0) (.seq (.reg g264_1) (.seq (.block 0 (.seq (.reg g264_2) (.cond (.t 9) (.seq (.reg g264_3) (.ret)) (.seq (.reg g264_4) (.cond (.t 12) (.seq (.reg g264_5) (.ret)) (.seq (.reg g264_6) (.cond (.t 25) (.seq (.reg g264_7) (.ret)) (.seq (.reg g264_8) (.cond (.t 40) (.seq (.reg g264_9) (.ret)) (.seq (.reg g264_10) (.cond (.t 55) (.seq (.reg g264_11) (.ret)) (.seq (.reg g264_12) (.cond (.t 72) (.seq (.reg g264_13) (.ret)) (.seq (.reg g264_14) (.cond (.t 87) (.seq (.reg g264_15) (.ret)) (.seq (.reg g264_16) (.cond (.t 100) (.seq (.reg g264_17) (.ret)) (.skip)))))))))))))))))) (.seq (.reg g264_18) (.ret))))
def o264 : List RR := [.tmp 4]
theorem k264 : KK 115 r264 Tryz.f264 := by decide +kernel
theorem q264 : QQ Tryz.f264 o264 := by decide +kernel
def g169_0 : IL := [⟨some 2, .val (.mov (.c (.bool false))), none⟩]
def g169_1 : IL := [⟨some 3, .val (.mov (.t 0)), none⟩, ⟨some 4, .call (.f 221) [(.t 3)], none⟩, ⟨some 5, .val (.bin .num .lss (.t 4) (.c (.int .i64 0))), none⟩, ⟨some 2, .val (.mov (.t 5)), none⟩]
def r169 : RC := .seq (.reg g169_0) (.seq (.reg g169_1) (.ret))
def o169 : List RR := [.tmp 2]
theorem k169 : KK 6 r169 Tryz.f169 := by decide +kernel
theorem q169 : QQ Tryz.f169 o169 := by decide +kernel
def g290_0 : IL := [⟨some 8, .val (.mov (.c (.bool false))), none⟩]
def g290_1 : IL := [⟨some 9, .val (.mov (.t 1)), none⟩, ⟨some 10, .val (.mov (.t 0)), none⟩, ⟨some 11, .val (.len 0 (.t 10)), none⟩, ⟨some 12, .val (.bin .num .lss (.t 9) (.t 11)), none⟩, ⟨some 13, .val (.mov (.t 12)), none⟩, ⟨some 14, .val (.mov (.t 0)), (some (13, true))⟩, ⟨some 15, .val (.mov (.t 1)), (some (13, true))⟩, ⟨some 16, .val (.idx (.t 14) (.t 15)), (some (13, true))⟩, ⟨some 17, .val (.mov (.t 2)), (some (13, true))⟩, ⟨some 18, .val (.bin .num .geq (.t 16) (.t 17)), (some (13, true))⟩, ⟨some 19, .val (.pick (.t 13) (.t 18) (.c (.bool false))), none⟩, ⟨some 20, .val (.mov (.t 19)), none⟩, ⟨some 21, .val (.mov (.t 0)), (some (20, true))⟩, ⟨some 22, .val (.mov (.t 1)), (some (20, true))⟩, ⟨some 23, .val (.idx (.t 21) (.t 22)), (some (20, true))⟩, ⟨some 24, .val (.mov (.t 3)), (some (20, true))⟩, ⟨some 25, .val (.bin .num .leq (.t 23) (.t 24)), (some (20, true))⟩, ⟨some 26, .val (.pick (.t 20) (.t 25) (.c (.bool false))), none⟩, ⟨some 8, .val (.mov (.t 26)), none⟩]
def r290 : RC := .seq (.reg g290_0) (.seq (.reg g290_1) (.ret))
def o290 : List RR := [.tmp 8]
theorem k290 : KK 27 r290 Tryz.f290 := by decide +kernel
theorem q290 : QQ Tryz.f290 o290 := by decide +kernel
def g289_0 : IL := [⟨some 6, .val (.mov (.c (.bool false))), none⟩]
def g289_1 : IL := [⟨some 7, .val (.mov (.c (.int .i64 0))), none⟩]
def g289_2 : IL := [⟨some 8, .val (.mov (.t 7)), none⟩, ⟨some 9, .val (.mov (.t 2)), none⟩, ⟨some 10, .val (.bin .num .lss (.t 8) (.t 9)), none⟩]
def g289_4 : IL := [⟨some 13, .val (.mov (.t 0)), none⟩, ⟨some 14, .val (.mov (.t 1)), none⟩, ⟨some 15, .val (.mov (.t 7)), none⟩, ⟨some 16, .val (.bin .num .add (.t 14) (.t 15)), none⟩, ⟨some 17, .call (.f 290) [(.t 13), (.t 16), (.c (.int .u8 128)), (.c (.int .u8 191))], none⟩, ⟨some 18, .val (.un .not (.t 17)), none⟩]
def g289_5 : IL := [⟨some 6, .val (.mov (.c (.bool false))), none⟩]
def g289_3 : IL := [⟨some 11, .val (.mov (.t 7)), none⟩, ⟨some 12, .val (.bin .num .add (.t 11) (.c (.int .i64 1))), none⟩, ⟨some 7, .val (.mov (.t 12)), none⟩]
def l289_0 : RC := .seq (.seq (.reg g289_2) (.cond (.t 10) (.skip) (.exit 0))) (.seq (.block 1 (.seq (.reg g289_4) (.cond (.t 18) (.seq (.reg g289_5) (.ret)) (.skip)))) (.reg g289_3))
def g289_6 : IL := [⟨some 6, .val (.mov (.c (.bool true))), none⟩]
def r289 : RC := .seq (.reg g289_0) (.seq (.seq (.reg g289_1) (.block 0 (.loop l289_0))) (.seq (.reg g289_6) (.ret)))
def o289 : List RR := [.tmp 6]
theorem k289 : KK 19 r289 Tryz.f289 := by decide +kernel
theorem q289 : QQ Tryz.f289 o289 := by decide +kernel
def g220_0 : IL := [⟨some 3, .boxN 3 (.t 1), none⟩, ⟨some 4, .val (.mov (.c (.bool false))), none⟩]
def g220_1 : IL := [⟨some 6, .val (.mov (.t 0)), none⟩, ⟨some 7, .call (.f 189) [(.t 6)], none⟩, ⟨some 8, .val (.un .not (.t 7)), none⟩, ⟨some 9, .val (.mov (.t 8)), none⟩, ⟨some 10, .val (.faddr 0 (.t 3)), (some (9, false))⟩, ⟨some 11, .val (.load none (.t 10)), (some (9, false))⟩, ⟨some 12, .val (.mov (.t 0)), (some (9, false))⟩, ⟨some 13, .val (.bin .num .neq (.t 11) (.t 12)), (some (9, false))⟩, ⟨some 14, .val (.pick (.t 9) (.c (.bool true)) (.t 13)), none⟩, ⟨some 15, .val (.mov (.t 14)), none⟩, ⟨some 16, .val (.load (some 7) (.t 3)), (some (15, false))⟩, ⟨some 17, .call (.f 190) [(.t 16)], (some (15, false))⟩, ⟨some 18, .val (.un .not (.t 17)), (some (15, false))⟩, ⟨some 19, .val (.pick (.t 15) (.c (.bool true)) (.t 18)), none⟩]
def g220_2 : IL := [⟨some 4, .val (.mov (.c (.bool false))), none⟩]
def g220_3 : IL := [⟨some 20, .val (.mov (.t 0)), none⟩, ⟨some 21, .call (.f 238) [(.t 20)], none⟩]
def g220_4 : IL := [⟨some 22, .val (.faddr 1 (.t 3)), none⟩, ⟨some 23, .val (.load none (.t 22)), none⟩, ⟨some 24, .val (.bin .num .eql (.t 23) (.c (.int .u64 0))), none⟩, ⟨some 25, .val (.mov (.t 24)), none⟩, ⟨some 26, .val (.faddr 2 (.t 3)), (some (25, true))⟩, ⟨some 27, .val (.load none (.t 26)), (some (25, true))⟩, ⟨some 28, .val (.len 0 (.t 27)), (some (25, true))⟩, ⟨some 29, .val (.bin .num .leq (.t 28) (.c (.int .i64 4096))), (some (25, true))⟩, ⟨some 30, .val (.pick (.t 25) (.t 29) (.c (.bool false))), none⟩, ⟨some 31, .val (.mov (.t 30)), none⟩, ⟨some 32, .val (.mov (.t 0)), (some (31, true))⟩, ⟨some 33, .val (.bin .num .eql (.t 32) (.c (.int .i64 8))), (some (31, true))⟩, ⟨some 34, .val (.mov (.t 33)), (some (31, true))⟩, ⟨some 35, .val (.faddr 2 (.t 3)), (some (34, false))⟩, ⟨some 36, .val (.load none (.t 35)), (some (34, false))⟩, ⟨some 37, .call (.f 169) [(.t 36)], (some (34, false))⟩, ⟨some 38, .val (.pick (.t 34) (.c (.bool true)) (.t 37)), (some (31, true))⟩, ⟨some 39, .val (.pick (.t 31) (.t 38) (.c (.bool false))), none⟩, ⟨some 4, .val (.mov (.t 39)), none⟩]
def g220_5 : IL := [⟨some 40, .val (.faddr 2 (.t 3)), none⟩, ⟨some 41, .val (.load none (.t 40)), none⟩, ⟨some 42, .val (.bin .str .neq (.t 41) (.c (.str []))), none⟩]
def g220_6 : IL := [⟨some 4, .val (.mov (.c (.bool false))), none⟩]
def g220_7 : IL := [⟨some 43, .val (.mov (.t 0)), none⟩]
def g220_8 : IL := [⟨some 45, .val (.bin .num .eql (.t 43) (.c (.int .i64 1))), none⟩, ⟨some 44, .val (.mov (.t 45)), none⟩]
def g220_9 : IL := [⟨some 46, .val (.faddr 1 (.t 3)), none⟩, ⟨some 47, .val (.load none (.t 46)), none⟩, ⟨some 48, .val (.bin .num .leq (.t 47) (.c (.int .u64 1))), none⟩, ⟨some 4, .val (.mov (.t 48)), none⟩]
def g220_10 : IL := [⟨some 50, .val (.bin .num .eql (.t 43) (.c (.int .i64 2))), none⟩, ⟨some 49, .val (.mov (.t 50)), none⟩]
def g220_11 : IL := [⟨some 51, .val (.faddr 1 (.t 3)), none⟩, ⟨some 52, .val (.load none (.t 51)), none⟩, ⟨some 53, .val (.cvi .i64 (.t 52)), none⟩, ⟨some 5, .val (.mov (.t 53)), none⟩]
def g220_12 : IL := [⟨some 54, .val (.mov (.t 5)), none⟩, ⟨some 55, .val (.bin .num .geq (.t 54) (.c (.int .i64 (-2147483648)))), none⟩, ⟨some 56, .val (.mov (.t 55)), none⟩, ⟨some 57, .val (.mov (.t 5)), (some (56, true))⟩, ⟨some 58, .val (.bin .num .leq (.t 57) (.c (.int .i64 2147483647))), (some (56, true))⟩, ⟨some 59, .val (.pick (.t 56) (.t 58) (.c (.bool false))), none⟩, ⟨some 4, .val (.mov (.t 59)), none⟩]
def g220_13 : IL := [⟨some 61, .val (.bin .num .eql (.t 43) (.c (.int .i64 4))), none⟩, ⟨some 60, .val (.mov (.t 61)), none⟩]
def g220_14 : IL := [⟨some 62, .val (.faddr 1 (.t 3)), none⟩, ⟨some 63, .val (.load none (.t 62)), none⟩, ⟨some 64, .val (.bin .num .lss (.t 63) (.c (.int .u64 4294967296))), none⟩, ⟨some 4, .val (.mov (.t 64)), none⟩]
def g220_15 : IL := [⟨some 66, .val (.bin .num .eql (.t 43) (.c (.int .i64 9))), none⟩, ⟨some 65, .val (.mov (.t 66)), none⟩]
def g220_16 : IL := [⟨some 67, .val (.faddr 1 (.t 3)), none⟩, ⟨some 68, .val (.load none (.t 67)), none⟩, ⟨some 69, .val (.bin .num .lss (.t 68) (.c (.int .u64 2147483648))), none⟩, ⟨some 4, .val (.mov (.t 69)), none⟩]
def g220_17 : IL := [⟨some 4, .val (.mov (.c (.bool true))), none⟩]
def r220 : RC := .seq (.reg g220_0) (.seq (.seq (.reg g220_1) (.cond (.t 19) (.seq (.reg g220_2) (.ret)) (.skip))) (.seq (.seq (.reg g220_3) (.cond (.t 21) (.seq (.reg g220_4) (.ret)) (.skip))) (.seq (.seq (.reg g220_5) (.cond (.t 42) (.seq (.reg g220_6) (.ret)) (.skip))) (.seq (.seq (.reg g220_7) (.block 0 (.seq (.reg g220_8) (.cond (.t 44) (.seq (.reg g220_9) (.ret)) (.seq (.reg g220_10) (.cond (.t 49) (.seq (.reg g220_11) (.seq (.reg g220_12) (.ret))) (.seq (.reg g220_13) (.cond (.t 60) (.seq (.reg g220_14) (.ret)) (.seq (.reg g220_15) (.cond (.t 65) (.seq (.reg g220_16) (.ret)) (.skip))))))))))) (.seq (.reg g220_17) (.ret))))))
def o220 : List RR := [.tmp 4]
theorem k220 : KK 70 r220 Tryz.f220 := by decide +kernel
theorem q220 : QQ Tryz.f220 o220 := by decide +kernel
def g189_0 : IL := [⟨some 2, .val (.mov (.c (.bool false))), none⟩]
def g189_1 : IL := [⟨some 3, .val (.mov (.t 0)), none⟩, ⟨some 4, .val (.bin .num .geq (.t 3) (.c (.int .i64 1))), none⟩, ⟨some 5, .val (.mov (.t 4)), none⟩, ⟨some 6, .val (.mov (.t 0)), (some (5, true))⟩, ⟨some 7, .val (.bin .num .leq (.t 6) (.c (.int .i64 9))), (some (5, true))⟩, ⟨some 8, .val (.pick (.t 5) (.t 7) (.c (.bool false))), none⟩, ⟨some 2, .val (.mov (.t 8)), none⟩]
def r189 : RC := .seq (.reg g189_0) (.seq (.reg g189_1) (.ret))
def o189 : List RR := [.tmp 2]
theorem k189 : KK 9 r189 Tryz.f189 := by decide +kernel
theorem q189 : QQ Tryz.f189 o189 := by decide +kernel
def g190_0 : IL := [⟨some 1, .boxN 1 (.t 0), none⟩, ⟨some 2, .val (.mov (.c (.bool false))), none⟩]
def g190_1 : IL := [⟨some 3, .val (.faddr 3 (.t 1)), none⟩, ⟨some 4, .val (.load none (.t 3)), none⟩, ⟨some 5, .val (.len 1 (.t 4)), none⟩, ⟨some 6, .val (.bin .num .eql (.t 5) (.c (.int .i64 0))), none⟩, ⟨some 7, .val (.mov (.t 6)), none⟩, ⟨some 8, .val (.faddr 4 (.t 1)), (some (7, true))⟩, ⟨some 9, .val (.load none (.t 8)), (some (7, true))⟩, ⟨some 10, .val (.len 1 (.t 9)), (some (7, true))⟩, ⟨some 11, .val (.bin .num .eql (.t 10) (.c (.int .i64 0))), (some (7, true))⟩, ⟨some 12, .val (.pick (.t 7) (.t 11) (.c (.bool false))), none⟩, ⟨some 13, .val (.mov (.t 12)), none⟩, ⟨some 14, .val (.faddr 5 (.t 1)), (some (13, true))⟩, ⟨some 15, .val (.load none (.t 14)), (some (13, true))⟩, ⟨some 16, .val (.len 1 (.t 15)), (some (13, true))⟩, ⟨some 17, .val (.bin .num .eql (.t 16) (.c (.int .i64 0))), (some (13, true))⟩, ⟨some 18, .val (.pick (.t 13) (.t 17) (.c (.bool false))), none⟩, ⟨some 19, .val (.mov (.t 18)), none⟩, ⟨some 20, .val (.faddr 6 (.t 1)), (some (19, true))⟩, ⟨some 21, .val (.load none (.t 20)), (some (19, true))⟩, ⟨some 22, .val (.len 1 (.t 21)), (some (19, true))⟩, ⟨some 23, .val (.bin .num .eql (.t 22) (.c (.int .i64 0))), (some (19, true))⟩, ⟨some 24, .val (.pick (.t 19) (.t 23) (.c (.bool false))), none⟩, ⟨some 2, .val (.mov (.t 24)), none⟩]
def r190 : RC := .seq (.reg g190_0) (.seq (.reg g190_1) (.ret))
def o190 : List RR := [.tmp 2]
theorem k190 : KK 25 r190 Tryz.f190 := by decide +kernel
theorem q190 : QQ Tryz.f190 o190 := by decide +kernel
def g238_0 : IL := [⟨some 2, .val (.mov (.c (.bool false))), none⟩]
def g238_1 : IL := [⟨some 3, .val (.mov (.t 0)), none⟩, ⟨some 4, .val (.bin .num .eql (.t 3) (.c (.int .i64 7))), none⟩, ⟨some 5, .val (.mov (.t 4)), none⟩, ⟨some 6, .val (.mov (.t 0)), (some (5, false))⟩, ⟨some 7, .val (.bin .num .eql (.t 6) (.c (.int .i64 8))), (some (5, false))⟩, ⟨some 8, .val (.pick (.t 5) (.c (.bool true)) (.t 7)), none⟩, ⟨some 2, .val (.mov (.t 8)), none⟩]
def r238 : RC := .seq (.reg g238_0) (.seq (.reg g238_1) (.ret))
def o238 : List RR := [.tmp 2]
theorem k238 : KK 9 r238 Tryz.f238 := by decide +kernel
theorem q238 : QQ Tryz.f238 o238 := by decide +kernel
def g162_0 : IL := [⟨some 2, .val (.mov (.c (.bool false))), none⟩]
def g162_1 : IL := [⟨some 5, .val (.mov (.t 0)), none⟩, ⟨some 6, .val (.len 0 (.t 5)), none⟩, ⟨some 7, .val (.bin .num .gtr (.t 6) (.c (.int .i64 120))), none⟩]
def g162_2 : IL := [⟨some 2, .val (.mov (.c (.bool false))), none⟩]
def g162_3 : IL := [⟨some 3, .val (.mov (.c (.str []))), none⟩]
def g162_4 : IL := [⟨some 4, .val (.mov (.c (.int .i64 0))), none⟩]
def g162_5 : IL := [⟨some 8, .val (.mov (.t 4)), none⟩, ⟨some 9, .val (.mov (.t 0)), none⟩, ⟨some 10, .val (.len 0 (.t 9)), none⟩, ⟨some 11, .val (.bin .num .lss (.t 8) (.t 10)), none⟩]
def g162_7 : IL := [⟨some 14, .val (.mov (.t 0)), none⟩, ⟨some 15, .val (.mov (.t 4)), none⟩, ⟨some 16, .val (.idx (.t 14) (.t 15)), none⟩, ⟨some 17, .val (.bin .num .neq (.t 16) (.c (.int .u8 46))), none⟩]
def g162_8 : IL := [⟨some 18, .val (.mov (.t 3)), none⟩, ⟨some 19, .val (.mov (.t 0)), none⟩, ⟨some 20, .val (.mov (.t 4)), none⟩, ⟨some 21, .val (.mov (.t 4)), none⟩, ⟨some 22, .val (.bin .num .add (.t 21) (.c (.int .i64 1))), none⟩, ⟨some 23, .val (.slc none (.t 19) (some (.t 20)) (some (.t 22)) none), none⟩, ⟨some 24, .val (.bin .str .add (.t 18) (.t 23)), none⟩, ⟨some 3, .val (.mov (.t 24)), none⟩]
def g162_9 : IL := [⟨some 25, .val (.mov (.t 3)), none⟩, ⟨some 26, .call (.f 165) [(.t 25)], none⟩, ⟨some 27, .val (.un .not (.t 26)), none⟩]
def g162_10 : IL := [⟨some 2, .val (.mov (.c (.bool false))), none⟩]
def g162_11 : IL := [⟨some 3, .val (.mov (.c (.str []))), none⟩]
def g162_6 : IL := [⟨some 12, .val (.mov (.t 4)), none⟩, ⟨some 13, .val (.bin .num .add (.t 12) (.c (.int .i64 1))), none⟩, ⟨some 4, .val (.mov (.t 13)), none⟩]
def l162_0 : RC := .seq (.seq (.reg g162_5) (.cond (.t 11) (.skip) (.exit 0))) (.seq (.block 1 (.seq (.seq (.reg g162_7) (.cond (.t 17) (.seq (.reg g162_8) (.exit 1)) (.skip))) (.seq (.seq (.reg g162_9) (.cond (.t 27) (.seq (.reg g162_10) (.ret)) (.skip))) (.reg g162_11)))) (.reg g162_6))
def g162_12 : IL := [⟨some 28, .val (.mov (.t 3)), none⟩, ⟨some 29, .call (.f 165) [(.t 28)], none⟩, ⟨some 2, .val (.mov (.t 29)), none⟩]
def r162 : RC := .seq (.reg g162_0) (.seq (.seq (.reg g162_1) (.cond (.t 7) (.seq (.reg g162_2) (.ret)) (.skip))) (.seq (.reg g162_3) (.seq (.seq (.reg g162_4) (.block 0 (.loop l162_0))) (.seq (.reg g162_12) (.ret)))))
def o162 : List RR := [.tmp 2]
theorem k162 : KK 30 r162 Tryz.f162 := by decide +kernel
theorem q162 : QQ Tryz.f162 o162 := by decide +kernel
def g165_0 : IL := [⟨some 2, .val (.mov (.c (.bool false))), none⟩]
def g165_1 : IL := [⟨some 4, .val (.mov (.t 0)), none⟩, ⟨some 5, .val (.len 0 (.t 4)), none⟩, ⟨some 6, .val (.bin .num .eql (.t 5) (.c (.int .i64 0))), none⟩, ⟨some 7, .val (.mov (.t 6)), none⟩, ⟨some 8, .val (.mov (.t 0)), (some (7, false))⟩, ⟨some 9, .val (.len 0 (.t 8)), (some (7, false))⟩, ⟨some 10, .val (.bin .num .gtr (.t 9) (.c (.int .i64 40))), (some (7, false))⟩, ⟨some 11, .val (.pick (.t 7) (.c (.bool true)) (.t 10)), none⟩, ⟨some 12, .val (.mov (.t 11)), none⟩, ⟨some 13, .val (.mov (.t 0)), (some (12, false))⟩, ⟨some 14, .val (.idx (.t 13) (.c (.int .i64 0))), (some (12, false))⟩, ⟨some 15, .call (.f 218) [(.t 14)], (some (12, false))⟩, ⟨some 16, .val (.un .not (.t 15)), (some (12, false))⟩, ⟨some 17, .val (.mov (.t 16)), (some (12, false))⟩, ⟨some 18, .val (.mov (.t 0)), (some (17, true))⟩, ⟨some 19, .val (.idx (.t 18) (.c (.int .i64 0))), (some (17, true))⟩, ⟨some 20, .call (.f 219) [(.t 19)], (some (17, true))⟩, ⟨some 21, .val (.un .not (.t 20)), (some (17, true))⟩, ⟨some 22, .val (.pick (.t 17) (.t 21) (.c (.bool false))), (some (12, false))⟩, ⟨some 23, .val (.pick (.t 12) (.c (.bool true)) (.t 22)), none⟩]
def g165_2 : IL := [⟨some 2, .val (.mov (.c (.bool false))), none⟩]
def g165_3 : IL := [⟨some 3, .val (.mov (.c (.int .i64 1))), none⟩]
def g165_4 : IL := [⟨some 24, .val (.mov (.t 3)), none⟩, ⟨some 25, .val (.mov (.t 0)), none⟩, ⟨some 26, .val (.len 0 (.t 25)), none⟩, ⟨some 27, .val (.bin .num .lss (.t 24) (.t 26)), none⟩]
def g165_6 : IL := [⟨some 30, .val (.mov (.t 0)), none⟩, ⟨some 31, .val (.mov (.t 3)), none⟩, ⟨some 32, .val (.idx (.t 30) (.t 31)), none⟩, ⟨some 33, .call (.f 218) [(.t 32)], none⟩, ⟨some 34, .val (.un .not (.t 33)), none⟩, ⟨some 35, .val (.mov (.t 34)), none⟩, ⟨some 36, .val (.mov (.t 0)), (some (35, true))⟩, ⟨some 37, .val (.mov (.t 3)), (some (35, true))⟩, ⟨some 38, .val (.idx (.t 36) (.t 37)), (some (35, true))⟩, ⟨some 39, .call (.f 219) [(.t 38)], (some (35, true))⟩, ⟨some 40, .val (.un .not (.t 39)), (some (35, true))⟩, ⟨some 41, .val (.pick (.t 35) (.t 40) (.c (.bool false))), none⟩, ⟨some 42, .val (.mov (.t 41)), none⟩, ⟨some 43, .val (.mov (.t 0)), (some (42, true))⟩, ⟨some 44, .val (.mov (.t 3)), (some (42, true))⟩, ⟨some 45, .val (.idx (.t 43) (.t 44)), (some (42, true))⟩, ⟨some 46, .val (.bin .num .neq (.t 45) (.c (.int .u8 95))), (some (42, true))⟩, ⟨some 47, .val (.pick (.t 42) (.t 46) (.c (.bool false))), none⟩, ⟨some 48, .val (.mov (.t 47)), none⟩, ⟨some 49, .val (.mov (.t 0)), (some (48, true))⟩, ⟨some 50, .val (.mov (.t 3)), (some (48, true))⟩, ⟨some 51, .val (.idx (.t 49) (.t 50)), (some (48, true))⟩, ⟨some 52, .val (.bin .num .lss (.t 51) (.c (.int .u8 48))), (some (48, true))⟩, ⟨some 53, .val (.mov (.t 52)), (some (48, true))⟩, ⟨some 54, .val (.mov (.t 0)), (some (53, false))⟩, ⟨some 55, .val (.mov (.t 3)), (some (53, false))⟩, ⟨some 56, .val (.idx (.t 54) (.t 55)), (some (53, false))⟩, ⟨some 57, .val (.bin .num .gtr (.t 56) (.c (.int .u8 57))), (some (53, false))⟩, ⟨some 58, .val (.pick (.t 53) (.c (.bool true)) (.t 57)), (some (48, true))⟩, ⟨some 59, .val (.pick (.t 48) (.t 58) (.c (.bool false))), none⟩]
def g165_7 : IL := [⟨some 2, .val (.mov (.c (.bool false))), none⟩]
def g165_5 : IL := [⟨some 28, .val (.mov (.t 3)), none⟩, ⟨some 29, .val (.bin .num .add (.t 28) (.c (.int .i64 1))), none⟩, ⟨some 3, .val (.mov (.t 29)), none⟩]
def l165_0 : RC := .seq (.seq (.reg g165_4) (.cond (.t 27) (.skip) (.exit 0))) (.seq (.block 1 (.seq (.reg g165_6) (.cond (.t 59) (.seq (.reg g165_7) (.ret)) (.skip)))) (.reg g165_5))
def g165_8 : IL := [⟨some 2, .val (.mov (.c (.bool true))), none⟩]
def r165 : RC := .seq (.reg g165_0) (.seq (.seq (.reg g165_1) (.cond (.t 23) (.seq (.reg g165_2) (.ret)) (.skip))) (.seq (.seq (.reg g165_3) (.block 0 (.loop l165_0))) (.seq (.reg g165_8) (.ret))))
def o165 : List RR := [.tmp 2]
theorem k165 : KK 60 r165 Tryz.f165 := by decide +kernel
theorem q165 : QQ Tryz.f165 o165 := by decide +kernel
def g164_0 : IL := [⟨some 2, .val (.mov (.c (.bool false))), none⟩]
def g164_1 : IL := [⟨some 3, .val (.mov (.t 0)), none⟩]
def g164_2 : IL := [⟨some 5, .val (.bin .str .eql (.t 3) (.c (.str [109, 101, 115, 115, 97, 103, 101]))), none⟩, ⟨some 4, .val (.mov (.t 5)), none⟩]
def g164_3 : IL := [⟨some 6, .val (.bin .str .eql (.t 3) (.c (.str [101, 110, 117, 109]))), none⟩, ⟨some 4, .val (.mov (.t 6)), none⟩]
def g164_4 : IL := [⟨some 7, .val (.bin .str .eql (.t 3) (.c (.str [115, 101, 114, 118, 105, 99, 101]))), none⟩, ⟨some 4, .val (.mov (.t 7)), none⟩]
def g164_5 : IL := [⟨some 8, .val (.bin .str .eql (.t 3) (.c (.str [117, 110, 105, 111, 110]))), none⟩, ⟨some 4, .val (.mov (.t 8)), none⟩]
def g164_6 : IL := [⟨some 9, .val (.bin .str .eql (.t 3) (.c (.str [109, 97, 112]))), none⟩, ⟨some 4, .val (.mov (.t 9)), none⟩]
def g164_7 : IL := [⟨some 10, .val (.bin .str .eql (.t 3) (.c (.str [108, 105, 115, 116]))), none⟩, ⟨some 4, .val (.mov (.t 10)), none⟩]
def g164_8 : IL := [⟨some 11, .val (.bin .str .eql (.t 3) (.c (.str [114, 101, 113, 117, 105, 114, 101, 100]))), none⟩, ⟨some 4, .val (.mov (.t 11)), none⟩]
def g164_9 : IL := [⟨some 12, .val (.bin .str .eql (.t 3) (.c (.str [111, 112, 116, 105, 111, 110, 97, 108]))), none⟩, ⟨some 4, .val (.mov (.t 12)), none⟩]
def g164_10 : IL := [⟨some 13, .val (.bin .str .eql (.t 3) (.c (.str [112, 108, 97, 105, 110]))), none⟩, ⟨some 4, .val (.mov (.t 13)), none⟩]
def g164_11 : IL := [⟨some 14, .val (.bin .str .eql (.t 3) (.c (.str [100, 101, 102, 97, 117, 108, 116]))), none⟩, ⟨some 4, .val (.mov (.t 14)), none⟩]
def g164_12 : IL := [⟨some 15, .val (.bin .str .eql (.t 3) (.c (.str [114, 101, 115, 101, 114, 118, 101, 100]))), none⟩, ⟨some 4, .val (.mov (.t 15)), none⟩]
def g164_13 : IL := [⟨some 16, .val (.bin .str .eql (.t 3) (.c (.str [105, 109, 112, 111, 114, 116]))), none⟩, ⟨some 4, .val (.mov (.t 16)), none⟩]
def g164_14 : IL := [⟨some 17, .val (.bin .str .eql (.t 3) (.c (.str [115, 112, 97, 99, 101]))), none⟩, ⟨some 4, .val (.mov (.t 17)), none⟩]
def g164_15 : IL := [⟨some 18, .val (.bin .str .eql (.t 3) (.c (.str [114, 112, 99]))), none⟩, ⟨some 4, .val (.mov (.t 18)), none⟩]
def g164_16 : IL := [⟨some 19, .val (.bin .str .eql (.t 3) (.c (.str [115, 116, 114, 101, 97, 109]))), none⟩, ⟨some 4, .val (.mov (.t 19)), none⟩]
def g164_17 : IL := [⟨some 20, .val (.bin .str .eql (.t 3) (.c (.str [114, 101, 116, 117, 114, 110, 115]))), none⟩, ⟨some 4, .val (.mov (.t 20)), none⟩]
def g164_18 : IL := [⟨some 21, .val (.bin .str .eql (.t 3) (.c (.str [111, 112, 101, 110]))), none⟩, ⟨some 4, .val (.mov (.t 21)), none⟩]
def g164_19 : IL := [⟨some 22, .val (.bin .str .eql (.t 3) (.c (.str [116, 114, 117, 101]))), none⟩, ⟨some 4, .val (.mov (.t 22)), none⟩]
def g164_20 : IL := [⟨some 23, .val (.bin .str .eql (.t 3) (.c (.str [102, 97, 108, 115, 101]))), none⟩, ⟨some 4, .val (.mov (.t 23)), none⟩]
def g164_21 : IL := [⟨some 24, .val (.bin .str .eql (.t 3) (.c (.str [110, 97, 110]))), none⟩, ⟨some 4, .val (.mov (.t 24)), none⟩]
def g164_22 : IL := [⟨some 25, .val (.bin .str .eql (.t 3) (.c (.str [105, 110, 102]))), none⟩, ⟨some 4, .val (.mov (.t 25)), none⟩]
def g164_23 : IL := [⟨some 2, .val (.mov (.c (.bool true))), none⟩]
def g164_24 : IL := [⟨some 2, .val (.mov (.c (.bool false))), none⟩]
def r164 : RC := .seq (.reg g164_0) (.seq (.seq (.reg g164_1) (.block 0 (.seq (.seq (.reg g164_2) (.cond (.t 4) (.skip) (.seq (.reg g164_3) (.cond (.t 4) (.skip) (.seq (.reg g164_4) (.cond (.t 4) (.skip) (.seq (.reg g164_5) (.cond (.t 4) (.skip) (.seq (.reg g164_6) (.cond (.t 4) (.skip) (.seq (.reg g164_7) (.cond (.t 4) (.skip) (.seq (.reg g164_8) (.cond (.t 4) (.skip) (.seq (.reg g164_9) (.cond (.t 4) (.skip) (.seq (.reg g164_10) (.cond (.t 4) (.skip) (.seq (.reg g164_11) (.cond (.t 4) (.skip) (.seq (.reg g164_12) (.cond (.t 4) (.skip) (.seq (.reg g164_13) (.cond (.t 4) (.skip) (.seq (.reg g164_14) (.cond (.t 4) (.skip) (.seq (.reg g164_15) (.cond (.t 4) (.skip) (.seq (.reg g164_16) (.cond (.t 4) (.skip) (.seq (.reg g164_17) (.cond (.t 4) (.skip) (.seq (.reg g164_18) (.cond (.t 4) (.skip) (.seq (.reg g164_19) (.cond (.t 4) (.skip) (.seq (.reg g164_20) (.cond (.t 4) (.skip) (.seq (.reg g164_21) (.cond (.t 4) (.skip) (.reg g164_22))))))))))))))))))))))))))))))))))))))))) (.cond (.t 4) (.seq (.reg g164_23) (.ret)) (.skip))))) (.seq (.reg g164_24) (.ret)))
def o164 : List RR := [.tmp 2]
theorem k164 : KK 26 r164 Tryz.f164 := by decide +kernel
theorem q164 : QQ Tryz.f164 o164 := by decide +kernel
def g163_0 : IL := [⟨some 2, .val (.mov (.c (.str []))), none⟩, ⟨some 3, .val (.mov (.c (.str []))), none⟩]
def g163_1 : IL := [⟨some 5, .val (.mov (.t 0)), none⟩, ⟨some 6, .val (.len 0 (.t 5)), none⟩, ⟨some 7, .val (.bin .num .sub (.t 6) (.c (.int .i64 1))), none⟩, ⟨some 4, .val (.mov (.t 7)), none⟩]
def g163_2 : IL := [⟨some 8, .val (.mov (.t 4)), none⟩, ⟨some 9, .val (.bin .num .geq (.t 8) (.c (.int .i64 0))), none⟩]
def g163_4 : IL := [⟨some 12, .val (.mov (.t 0)), none⟩, ⟨some 13, .val (.mov (.t 4)), none⟩, ⟨some 14, .val (.idx (.t 12) (.t 13)), none⟩, ⟨some 15, .val (.bin .num .eql (.t 14) (.c (.int .u8 46))), none⟩]
def g163_5 : IL := [⟨some 16, .val (.mov (.t 0)), none⟩, ⟨some 17, .val (.mov (.t 4)), none⟩, ⟨some 18, .val (.slc none (.t 16) none (some (.t 17)) none), none⟩, ⟨some 19, .val (.mov (.t 0)), none⟩, ⟨some 20, .val (.mov (.t 4)), none⟩, ⟨some 21, .val (.bin .num .add (.t 20) (.c (.int .i64 1))), none⟩, ⟨some 22, .val (.slc none (.t 19) (some (.t 21)) none none), none⟩, ⟨some 2, .val (.mov (.t 18)), none⟩, ⟨some 3, .val (.mov (.t 22)), none⟩]
def g163_3 : IL := [⟨some 10, .val (.mov (.t 4)), none⟩, ⟨some 11, .val (.bin .num .sub (.t 10) (.c (.int .i64 1))), none⟩, ⟨some 4, .val (.mov (.t 11)), none⟩]
def l163_0 : RC := .seq (.seq (.reg g163_2) (.cond (.t 9) (.skip) (.exit 0))) (.seq (.block 1 (.seq (.reg g163_4) (.cond (.t 15) (.seq (.draw g163_5) (.ret)) (.skip)))) (.reg g163_3))
def g163_6 : IL := [⟨some 23, .val (.mov (.t 0)), none⟩, ⟨some 2, .val (.mov (.c (.str []))), none⟩, ⟨some 3, .val (.mov (.t 23)), none⟩]
def r163 : RC := .seq (.reg g163_0) (.seq (.seq (.reg g163_1) (.block 0 (.loop l163_0))) (.seq (.reg g163_6) (.ret)))
def o163 : List RR := [.tmp 2, .tmp 3]
theorem k163 : KK 24 r163 Tryz.f163 := by decide +kernel
theorem q163 : QQ Tryz.f163 o163 := by decide +kernel
def g219_0 : IL := [⟨some 2, .val (.mov (.c (.bool false))), none⟩]
def g219_1 : IL := [⟨some 3, .val (.mov (.t 0)), none⟩, ⟨some 4, .val (.bin .num .geq (.t 3) (.c (.int .u8 65))), none⟩, ⟨some 5, .val (.mov (.t 4)), none⟩, ⟨some 6, .val (.mov (.t 0)), (some (5, true))⟩, ⟨some 7, .val (.bin .num .leq (.t 6) (.c (.int .u8 90))), (some (5, true))⟩, ⟨some 8, .val (.pick (.t 5) (.t 7) (.c (.bool false))), none⟩, ⟨some 2, .val (.mov (.t 8)), none⟩]
def r219 : RC := .seq (.reg g219_0) (.seq (.reg g219_1) (.ret))
def o219 : List RR := [.tmp 2]
theorem k219 : KK 9 r219 Tryz.f219 := by decide +kernel
theorem q219 : QQ Tryz.f219 o219 := by decide +kernel
def g218_0 : IL := [⟨some 2, .val (.mov (.c (.bool false))), none⟩]
def g218_1 : IL := [⟨some 3, .val (.mov (.t 0)), none⟩, ⟨some 4, .val (.bin .num .geq (.t 3) (.c (.int .u8 97))), none⟩, ⟨some 5, .val (.mov (.t 4)), none⟩, ⟨some 6, .val (.mov (.t 0)), (some (5, true))⟩, ⟨some 7, .val (.bin .num .leq (.t 6) (.c (.int .u8 122))), (some (5, true))⟩, ⟨some 8, .val (.pick (.t 5) (.t 7) (.c (.bool false))), none⟩, ⟨some 2, .val (.mov (.t 8)), none⟩]
def r218 : RC := .seq (.reg g218_0) (.seq (.reg g218_1) (.ret))
def o218 : List RR := [.tmp 2]
theorem k218 : KK 9 r218 Tryz.f218 := by decide +kernel
theorem q218 : QQ Tryz.f218 o218 := by decide +kernel
def g111_0 : IL := [⟨some 4, .val (.mov (.c (.int .i64 0))), none⟩]
def g111_1 : IL := [⟨some 6, .val (.mov (.t 0)), none⟩, ⟨some 7, .val (.len 1 (.t 6)), none⟩, ⟨some 8, .val (.bin .num .gtr (.t 7) (.c (.int .i64 8))), none⟩]
def g111_2 : IL := [⟨some 4, .val (.mov (.c (.int .i64 3))), none⟩]
def g111_3 : IL := [⟨some 5, .val (.mov (.c (.int .i64 0))), none⟩]
def g111_4 : IL := [⟨some 9, .val (.mov (.t 5)), none⟩, ⟨some 10, .val (.mov (.t 0)), none⟩, ⟨some 11, .val (.len 1 (.t 10)), none⟩, ⟨some 12, .val (.bin .num .lss (.t 9) (.t 11)), none⟩]
def g111_6 : IL := [⟨some 15, .val (.mov (.t 0)), none⟩, ⟨some 16, .val (.mov (.t 5)), none⟩, ⟨some 17, .val (.iaddr 8 none (.t 15) (.t 16)), none⟩, ⟨some 18, .val (.faddr 0 (.t 17)), none⟩, ⟨some 19, .val (.load none (.t 18)), none⟩, ⟨some 20, .call (.f 166) [(.t 19)], none⟩, ⟨some 21, .val (.bin .num .eql (.t 20) (.c (.int .i64 0))), none⟩]
def g111_7 : IL := [⟨some 4, .val (.mov (.c (.int .i64 8))), none⟩]
def g111_8 : IL := [⟨some 22, .val (.mov (.t 0)), none⟩, ⟨some 23, .val (.mov (.t 5)), none⟩, ⟨some 24, .val (.iaddr 8 none (.t 22) (.t 23)), none⟩, ⟨some 25, .val (.faddr 0 (.t 24)), none⟩, ⟨some 26, .val (.load none (.t 25)), none⟩, ⟨some 27, .val (.mov (.t 1)), none⟩, ⟨some 28, .call (.f 167) [(.t 26), (.t 27)], none⟩, ⟨some 29, .val (.un .not (.t 28)), none⟩]
def g111_9 : IL := [⟨some 4, .val (.mov (.c (.int .i64 1))), none⟩]
def g111_10 : IL := [⟨some 30, .val (.mov (.t 0)), none⟩, ⟨some 31, .val (.mov (.t 5)), none⟩, ⟨some 32, .val (.iaddr 8 none (.t 30) (.t 31)), none⟩, ⟨some 33, .val (.load (some 8) (.t 32)), none⟩, ⟨some 34, .call (.f 168) [(.t 33)], none⟩, ⟨some 35, .val (.un .not (.t 34)), none⟩]
def g111_11 : IL := [⟨some 4, .val (.mov (.c (.int .i64 12))), none⟩]
def g111_12 : IL := [⟨some 36, .val (.mov (.t 5)), none⟩, ⟨some 37, .val (.bin .num .gtr (.t 36) (.c (.int .i64 0))), none⟩, ⟨some 38, .val (.mov (.t 37)), none⟩, ⟨some 39, .val (.mov (.t 0)), (some (38, true))⟩, ⟨some 40, .val (.mov (.t 5)), (some (38, true))⟩, ⟨some 41, .val (.iaddr 8 none (.t 39) (.t 40)), (some (38, true))⟩, ⟨some 42, .val (.faddr 0 (.t 41)), (some (38, true))⟩, ⟨some 43, .val (.loadr none (.t 42)), (some (38, true))⟩, ⟨some 44, .val (.mov (.t 0)), (some (38, true))⟩, ⟨some 45, .val (.mov (.t 5)), (some (38, true))⟩, ⟨some 46, .val (.bin .num .sub (.t 45) (.c (.int .i64 1))), (some (38, true))⟩, ⟨some 47, .val (.iaddr 8 none (.t 44) (.t 46)), (some (38, true))⟩, ⟨some 48, .val (.faddr 0 (.t 47)), (some (38, true))⟩, ⟨some 49, .val (.loadr none (.t 48)), (some (38, true))⟩, ⟨some 50, .val (.bin .str .lss (.t 43) (.t 49)), (some (38, true))⟩, ⟨some 51, .val (.pick (.t 38) (.t 50) (.c (.bool false))), none⟩]
def g111_13 : IL := [⟨some 4, .val (.mov (.c (.int .i64 11))), none⟩]
def g111_14 : IL := [⟨some 52, .val (.mov (.t 5)), none⟩, ⟨some 53, .val (.bin .num .gtr (.t 52) (.c (.int .i64 0))), none⟩, ⟨some 54, .val (.mov (.t 53)), none⟩, ⟨some 55, .val (.mov (.t 0)), (some (54, true))⟩, ⟨some 56, .val (.mov (.t 5)), (some (54, true))⟩, ⟨some 57, .val (.iaddr 8 none (.t 55) (.t 56)), (some (54, true))⟩, ⟨some 58, .val (.faddr 0 (.t 57)), (some (54, true))⟩, ⟨some 59, .val (.loadr none (.t 58)), (some (54, true))⟩, ⟨some 60, .val (.mov (.t 0)), (some (54, true))⟩, ⟨some 61, .val (.mov (.t 5)), (some (54, true))⟩, ⟨some 62, .val (.bin .num .sub (.t 61) (.c (.int .i64 1))), (some (54, true))⟩, ⟨some 63, .val (.iaddr 8 none (.t 60) (.t 62)), (some (54, true))⟩, ⟨some 64, .val (.faddr 0 (.t 63)), (some (54, true))⟩, ⟨some 65, .val (.loadr none (.t 64)), (some (54, true))⟩, ⟨some 66, .val (.bin .str .eql (.t 59) (.t 65)), (some (54, true))⟩, ⟨some 67, .val (.pick (.t 54) (.t 66) (.c (.bool false))), none⟩]
def g111_15 : IL := [⟨some 4, .val (.mov (.c (.int .i64 9))), none⟩]
def g111_5 : IL := [⟨some 13, .val (.mov (.t 5)), none⟩, ⟨some 14, .val (.bin .num .add (.t 13) (.c (.int .i64 1))), none⟩, ⟨some 5, .val (.mov (.t 14)), none⟩]
def l111_0 : RC := .seq (.seq (.reg g111_4) (.cond (.t 12) (.skip) (.exit 0))) (.seq (.block 1 (.seq (.seq (.reg g111_6) (.cond (.t 21) (.seq (.reg g111_7) (.ret)) (.skip))) (.seq (.seq (.reg g111_8) (.cond (.t 29) (.seq (.reg g111_9) (.ret)) (.skip))) (.seq (.seq (.reg g111_10) (.cond (.t 35) (.seq (.reg g111_11) (.ret)) (.skip))) (.seq (.seq (.draw g111_12) (.cond (.t 51) (.seq (.reg g111_13) (.ret)) (.skip))) (.seq (.draw g111_14) (.cond (.t 67) (.seq (.reg g111_15) (.ret)) (.skip)))))))) (.reg g111_5))
def g111_16 : IL := [⟨some 4, .val (.mov (.c (.int .i64 0))), none⟩]
def r111 : RC := .seq (.reg g111_0) (.seq (.seq (.reg g111_1) (.cond (.t 8) (.seq (.reg g111_2) (.ret)) (.skip))) (.seq (.seq (.reg g111_3) (.block 0 (.loop l111_0))) (.seq (.reg g111_16) (.ret))))
def o111 : List RR := [.tmp 4]
theorem k111 : KK 68 r111 Tryz.f111 := by decide +kernel
theorem q111 : QQ Tryz.f111 o111 := by decide +kernel
def g166_0 : IL := [⟨some 2, .val (.mov (.c (.int .i64 0))), none⟩]
def g166_1 : IL := [⟨some 3, .val (.mov (.t 0)), none⟩]
def g166_2 : IL := [⟨some 5, .val (.bin .str .eql (.t 3) (.c (.str [100, 101, 112, 114, 101, 99, 97, 116, 101, 100]))), none⟩, ⟨some 4, .val (.mov (.t 5)), none⟩]
def g166_3 : IL := [⟨some 6, .val (.bin .str .eql (.t 3) (.c (.str [115, 101, 99, 114, 101, 116]))), none⟩, ⟨some 4, .val (.mov (.t 6)), none⟩]
def g166_4 : IL := [⟨some 7, .val (.bin .str .eql (.t 3) (.c (.str [105, 100, 101, 109, 112, 111, 116, 101, 110, 116]))), none⟩, ⟨some 4, .val (.mov (.t 7)), none⟩]
def g166_5 : IL := [⟨some 2, .val (.mov (.c (.int .i64 1))), none⟩]
def g166_6 : IL := [⟨some 9, .val (.bin .str .eql (.t 3) (.c (.str [100, 111, 99]))), none⟩, ⟨some 8, .val (.mov (.t 9)), none⟩]
def g166_7 : IL := [⟨some 10, .val (.bin .str .eql (.t 3) (.c (.str [97, 108, 105, 97, 115]))), none⟩, ⟨some 8, .val (.mov (.t 10)), none⟩]
def g166_8 : IL := [⟨some 11, .val (.bin .str .eql (.t 3) (.c (.str [114, 111, 117, 116, 101]))), none⟩, ⟨some 8, .val (.mov (.t 11)), none⟩]
def g166_9 : IL := [⟨some 12, .val (.bin .str .eql (.t 3) (.c (.str [111, 119, 110, 101, 114]))), none⟩, ⟨some 8, .val (.mov (.t 12)), none⟩]
def g166_10 : IL := [⟨some 2, .val (.mov (.c (.int .i64 7))), none⟩]
def g166_11 : IL := [⟨some 14, .val (.bin .str .eql (.t 3) (.c (.str [115, 105, 110, 99, 101]))), none⟩, ⟨some 13, .val (.mov (.t 14)), none⟩]
def g166_12 : IL := [⟨some 15, .val (.bin .str .eql (.t 3) (.c (.str [117, 110, 116, 105, 108]))), none⟩, ⟨some 13, .val (.mov (.t 15)), none⟩]
def g166_13 : IL := [⟨some 16, .val (.bin .str .eql (.t 3) (.c (.str [108, 101, 110, 103, 116, 104]))), none⟩, ⟨some 13, .val (.mov (.t 16)), none⟩]
def g166_14 : IL := [⟨some 17, .val (.bin .str .eql (.t 3) (.c (.str [116, 105, 109, 101, 111, 117, 116]))), none⟩, ⟨some 13, .val (.mov (.t 17)), none⟩]
def g166_15 : IL := [⟨some 2, .val (.mov (.c (.int .i64 4))), none⟩]
def g166_16 : IL := [⟨some 19, .val (.bin .str .eql (.t 3) (.c (.str [109, 105, 110]))), none⟩, ⟨some 18, .val (.mov (.t 19)), none⟩]
def g166_17 : IL := [⟨some 20, .val (.bin .str .eql (.t 3) (.c (.str [109, 97, 120]))), none⟩, ⟨some 18, .val (.mov (.t 20)), none⟩]
def g166_18 : IL := [⟨some 2, .val (.mov (.c (.int .i64 3))), none⟩]
def g166_19 : IL := [⟨some 2, .val (.mov (.c (.int .i64 0))), none⟩]
def r166 : RC := .seq (.reg g166_0) (.seq (.seq (.reg g166_1) (.block 0 (.seq (.seq (.reg g166_2) (.cond (.t 4) (.skip) (.seq (.reg g166_3) (.cond (.t 4) (.skip) (.reg g166_4))))) (.cond (.t 4) (.seq (.reg g166_5) (.ret)) (.seq (.seq (.reg g166_6) (.cond (.t 8) (.skip) (.seq (.reg g166_7) (.cond (.t 8) (.skip) (.seq (.reg g166_8) (.cond (.t 8) (.skip) (.reg g166_9))))))) (.cond (.t 8) (.seq (.reg g166_10) (.ret)) (.seq (.seq (.reg g166_11) (.cond (.t 13) (.skip) (.seq (.reg g166_12) (.cond (.t 13) (.skip) (.seq (.reg g166_13) (.cond (.t 13) (.skip) (.reg g166_14))))))) (.cond (.t 13) (.seq (.reg g166_15) (.ret)) (.seq (.seq (.reg g166_16) (.cond (.t 18) (.skip) (.reg g166_17))) (.cond (.t 18) (.seq (.reg g166_18) (.ret)) (.skip))))))))))) (.seq (.reg g166_19) (.ret)))
def o166 : List RR := [.tmp 2]
theorem k166 : KK 21 r166 Tryz.f166 := by decide +kernel
theorem q166 : QQ Tryz.f166 o166 := by decide +kernel
def g168_0 : IL := [⟨some 1, .boxN 1 (.t 0), none⟩, ⟨some 2, .val (.mov (.c (.bool false))), none⟩]
def g168_1 : IL := [⟨some 4, .val (.faddr 0 (.t 1)), none⟩, ⟨some 5, .val (.load none (.t 4)), none⟩, ⟨some 6, .call (.f 166) [(.t 5)], none⟩, ⟨some 3, .val (.mov (.t 6)), none⟩]
def g168_2 : IL := [⟨some 7, .val (.mov (.t 3)), none⟩, ⟨some 8, .val (.bin .num .neq (.t 7) (.c (.int .i64 0))), none⟩, ⟨some 9, .val (.mov (.t 8)), none⟩, ⟨some 10, .val (.faddr 1 (.t 1)), (some (9, true))⟩, ⟨some 11, .val (.faddr 0 (.t 10)), (some (9, true))⟩, ⟨some 12, .val (.load none (.t 11)), (some (9, true))⟩, ⟨some 13, .val (.mov (.t 3)), (some (9, true))⟩, ⟨some 14, .val (.bin .num .eql (.t 12) (.t 13)), (some (9, true))⟩, ⟨some 15, .val (.pick (.t 9) (.t 14) (.c (.bool false))), none⟩, ⟨some 16, .val (.mov (.t 15)), none⟩, ⟨some 17, .val (.mov (.t 3)), (some (16, true))⟩, ⟨some 18, .val (.faddr 1 (.t 1)), (some (16, true))⟩, ⟨some 19, .val (.load (some 7) (.t 18)), (some (16, true))⟩, ⟨some 20, .call (.f 220) [(.t 17), (.t 19)], (some (16, true))⟩, ⟨some 21, .val (.pick (.t 16) (.t 20) (.c (.bool false))), none⟩, ⟨some 2, .val (.mov (.t 21)), none⟩]
def r168 : RC := .seq (.reg g168_0) (.seq (.reg g168_1) (.seq (.reg g168_2) (.ret)))
def o168 : List RR := [.tmp 2]
theorem k168 : KK 22 r168 Tryz.f168 := by decide +kernel
theorem q168 : QQ Tryz.f168 o168 := by decide +kernel
def g167_0 : IL := [⟨some 4, .val (.mov (.c (.bool false))), none⟩]
def g167_1 : IL := [⟨some 5, .val (.mov (.t 0)), none⟩]
def g167_2 : IL := [⟨some 7, .val (.bin .str .eql (.t 5) (.c (.str [100, 101, 112, 114, 101, 99, 97, 116, 101, 100]))), none⟩, ⟨some 6, .val (.mov (.t 7)), none⟩]
def g167_3 : IL := [⟨some 8, .val (.bin .str .eql (.t 5) (.c (.str [100, 111, 99]))), none⟩, ⟨some 6, .val (.mov (.t 8)), none⟩]
def g167_4 : IL := [⟨some 9, .val (.mov (.t 1)), none⟩, ⟨some 10, .val (.bin .num .geq (.t 9) (.c (.int .i64 1))), none⟩, ⟨some 11, .val (.mov (.t 10)), none⟩, ⟨some 12, .val (.mov (.t 1)), (some (11, true))⟩, ⟨some 13, .val (.bin .num .leq (.t 12) (.c (.int .i64 6))), (some (11, true))⟩, ⟨some 14, .val (.pick (.t 11) (.t 13) (.c (.bool false))), none⟩, ⟨some 4, .val (.mov (.t 14)), none⟩]
def g167_5 : IL := [⟨some 16, .val (.bin .str .eql (.t 5) (.c (.str [97, 108, 105, 97, 115]))), none⟩, ⟨some 15, .val (.mov (.t 16)), none⟩]
def g167_6 : IL := [⟨some 17, .val (.bin .str .eql (.t 5) (.c (.str [115, 105, 110, 99, 101]))), none⟩, ⟨some 15, .val (.mov (.t 17)), none⟩]
def g167_7 : IL := [⟨some 18, .val (.bin .str .eql (.t 5) (.c (.str [117, 110, 116, 105, 108]))), none⟩, ⟨some 15, .val (.mov (.t 18)), none⟩]
def g167_8 : IL := [⟨some 19, .val (.mov (.t 1)), none⟩, ⟨some 20, .val (.bin .num .eql (.t 19) (.c (.int .i64 2))), none⟩, ⟨some 21, .val (.mov (.t 20)), none⟩, ⟨some 22, .val (.mov (.t 1)), (some (21, false))⟩, ⟨some 23, .val (.bin .num .eql (.t 22) (.c (.int .i64 4))), (some (21, false))⟩, ⟨some 24, .val (.pick (.t 21) (.c (.bool true)) (.t 23)), none⟩, ⟨some 25, .val (.mov (.t 24)), none⟩, ⟨some 26, .val (.mov (.t 1)), (some (25, false))⟩, ⟨some 27, .val (.bin .num .eql (.t 26) (.c (.int .i64 6))), (some (25, false))⟩, ⟨some 28, .val (.pick (.t 25) (.c (.bool true)) (.t 27)), none⟩, ⟨some 4, .val (.mov (.t 28)), none⟩]
def g167_9 : IL := [⟨some 30, .val (.bin .str .eql (.t 5) (.c (.str [109, 105, 110]))), none⟩, ⟨some 29, .val (.mov (.t 30)), none⟩]
def g167_10 : IL := [⟨some 31, .val (.bin .str .eql (.t 5) (.c (.str [109, 97, 120]))), none⟩, ⟨some 29, .val (.mov (.t 31)), none⟩]
def g167_11 : IL := [⟨some 32, .val (.bin .str .eql (.t 5) (.c (.str [108, 101, 110, 103, 116, 104]))), none⟩, ⟨some 29, .val (.mov (.t 32)), none⟩]
def g167_12 : IL := [⟨some 33, .val (.bin .str .eql (.t 5) (.c (.str [115, 101, 99, 114, 101, 116]))), none⟩, ⟨some 29, .val (.mov (.t 33)), none⟩]
def g167_13 : IL := [⟨some 34, .val (.mov (.t 1)), none⟩, ⟨some 35, .val (.bin .num .eql (.t 34) (.c (.int .i64 2))), none⟩, ⟨some 4, .val (.mov (.t 35)), none⟩]
def g167_14 : IL := [⟨some 37, .val (.bin .str .eql (.t 5) (.c (.str [105, 100, 101, 109, 112, 111, 116, 101, 110, 116]))), none⟩, ⟨some 36, .val (.mov (.t 37)), none⟩]
def g167_15 : IL := [⟨some 38, .val (.bin .str .eql (.t 5) (.c (.str [116, 105, 109, 101, 111, 117, 116]))), none⟩, ⟨some 36, .val (.mov (.t 38)), none⟩]
def g167_16 : IL := [⟨some 39, .val (.bin .str .eql (.t 5) (.c (.str [114, 111, 117, 116, 101]))), none⟩, ⟨some 36, .val (.mov (.t 39)), none⟩]
def g167_17 : IL := [⟨some 40, .val (.mov (.t 1)), none⟩, ⟨some 41, .val (.bin .num .eql (.t 40) (.c (.int .i64 6))), none⟩, ⟨some 4, .val (.mov (.t 41)), none⟩]
def g167_18 : IL := [⟨some 42, .val (.mov (.t 1)), none⟩, ⟨some 43, .val (.bin .num .eql (.t 42) (.c (.int .i64 1))), none⟩, ⟨some 44, .val (.mov (.t 43)), none⟩, ⟨some 45, .val (.mov (.t 1)), (some (44, false))⟩, ⟨some 46, .val (.bin .num .eql (.t 45) (.c (.int .i64 5))), (some (44, false))⟩, ⟨some 47, .val (.pick (.t 44) (.c (.bool true)) (.t 46)), none⟩, ⟨some 4, .val (.mov (.t 47)), none⟩]
def r167 : RC := .seq (.reg g167_0) (.seq (.seq (.reg g167_1) (.block 0 (.seq (.seq (.reg g167_2) (.cond (.t 6) (.skip) (.reg g167_3))) (.cond (.t 6) (.seq (.reg g167_4) (.ret)) (.seq (.seq (.reg g167_5) (.cond (.t 15) (.skip) (.seq (.reg g167_6) (.cond (.t 15) (.skip) (.reg g167_7))))) (.cond (.t 15) (.seq (.reg g167_8) (.ret)) (.seq (.seq (.reg g167_9) (.cond (.t 29) (.skip) (.seq (.reg g167_10) (.cond (.t 29) (.skip) (.seq (.reg g167_11) (.cond (.t 29) (.skip) (.reg g167_12))))))) (.cond (.t 29) (.seq (.reg g167_13) (.ret)) (.seq (.seq (.reg g167_14) (.cond (.t 36) (.skip) (.seq (.reg g167_15) (.cond (.t 36) (.skip) (.reg g167_16))))) (.cond (.t 36) (.seq (.reg g167_17) (.ret)) (.skip))))))))))) (.seq (.reg g167_18) (.ret)))
def o167 : List RR := [.tmp 4]
theorem k167 : KK 48 r167 Tryz.f167 := by decide +kernel
theorem q167 : QQ Tryz.f167 o167 := by decide +kernel
def g110_0 : IL := [⟨some 4, .val (.mov (.c (.bool false))), none⟩]
def g110_1 : IL := [⟨some 5, .val (.mov (.c (.int .i64 0))), none⟩]
def g110_2 : IL := [⟨some 6, .val (.mov (.t 5)), none⟩, ⟨some 7, .val (.mov (.t 0)), none⟩, ⟨some 8, .val (.len 1 (.t 7)), none⟩, ⟨some 9, .val (.bin .num .lss (.t 6) (.t 8)), none⟩]
def g110_4 : IL := [⟨some 12, .val (.mov (.t 0)), none⟩, ⟨some 13, .val (.mov (.t 5)), none⟩, ⟨some 14, .val (.iaddr 2 none (.t 12) (.t 13)), none⟩, ⟨some 15, .val (.faddr 0 (.t 14)), none⟩, ⟨some 16, .val (.load none (.t 15)), none⟩, ⟨some 17, .val (.mov (.t 1)), none⟩, ⟨some 18, .val (.bin .num .leq (.t 16) (.t 17)), none⟩, ⟨some 19, .val (.mov (.t 18)), none⟩, ⟨some 20, .val (.mov (.t 1)), (some (19, true))⟩, ⟨some 21, .val (.mov (.t 0)), (some (19, true))⟩, ⟨some 22, .val (.mov (.t 5)), (some (19, true))⟩, ⟨some 23, .val (.iaddr 2 none (.t 21) (.t 22)), (some (19, true))⟩, ⟨some 24, .val (.faddr 1 (.t 23)), (some (19, true))⟩, ⟨some 25, .val (.load none (.t 24)), (some (19, true))⟩, ⟨some 26, .val (.bin .num .leq (.t 20) (.t 25)), (some (19, true))⟩, ⟨some 27, .val (.pick (.t 19) (.t 26) (.c (.bool false))), none⟩]
def g110_5 : IL := [⟨some 4, .val (.mov (.c (.bool true))), none⟩]
def g110_3 : IL := [⟨some 10, .val (.mov (.t 5)), none⟩, ⟨some 11, .val (.bin .num .add (.t 10) (.c (.int .i64 1))), none⟩, ⟨some 5, .val (.mov (.t 11)), none⟩]
def l110_0 : RC := .seq (.seq (.reg g110_2) (.cond (.t 9) (.skip) (.exit 0))) (.seq (.block 1 (.seq (.reg g110_4) (.cond (.t 27) (.seq (.reg g110_5) (.ret)) (.skip)))) (.reg g110_3))
def g110_6 : IL := [⟨some 4, .val (.mov (.c (.bool false))), none⟩]
def r110 : RC := .seq (.reg g110_0) (.seq (.seq (.reg g110_1) (.block 0 (.loop l110_0))) (.seq (.reg g110_6) (.ret)))
def o110 : List RR := [.tmp 4]
theorem k110 : KK 28 r110 Tryz.f110 := by decide +kernel
theorem q110 : QQ Tryz.f110 o110 := by decide +kernel
def g13_0 : IL := [⟨some 1, .boxN 1 (.t 0), none⟩, ⟨some 2, .val (.mov (.c (.int .i64 0))), none⟩]
def g13_1 : IL := [⟨some 4, .val (.load (some 2) (.t 1)), none⟩, ⟨some 5, .call (.f 30) [(.t 4)], none⟩, ⟨some 6, .val (.un .not (.t 5)), none⟩, ⟨some 3, .val (.mov (.t 6)), none⟩]
def g13_2 : IL := [⟨some 2, .val (.mov (.c (.int .i64 3))), none⟩]
def g13_3 : IL := [⟨some 8, .val (.load (some 2) (.t 1)), none⟩, ⟨some 9, .call (.f 31) [(.t 8)], none⟩, ⟨some 10, .val (.un .not (.t 9)), none⟩, ⟨some 7, .val (.mov (.t 10)), none⟩]
def g13_4 : IL := [⟨some 2, .val (.mov (.c (.int .i64 8))), none⟩]
def g13_5 : IL := [⟨some 12, .val (.load (some 2) (.t 1)), none⟩, ⟨some 13, .call (.f 32) [(.t 12)], none⟩, ⟨some 14, .val (.un .not (.t 13)), none⟩, ⟨some 11, .val (.mov (.t 14)), none⟩]
def g13_6 : IL := [⟨some 2, .val (.mov (.c (.int .i64 11))), none⟩]
def g13_7 : IL := [⟨some 16, .val (.load (some 2) (.t 1)), none⟩, ⟨some 17, .call (.f 33) [(.t 16)], none⟩, ⟨some 18, .val (.un .not (.t 17)), none⟩, ⟨some 15, .val (.mov (.t 18)), none⟩]
def g13_8 : IL := [⟨some 2, .val (.mov (.c (.int .i64 9))), none⟩]
def g13_9 : IL := [⟨some 20, .val (.load (some 2) (.t 1)), none⟩, ⟨some 21, .call (.f 34) [(.t 20)], none⟩, ⟨some 22, .val (.un .not (.t 21)), none⟩, ⟨some 19, .val (.mov (.t 22)), none⟩]
def g13_10 : IL := [⟨some 2, .val (.mov (.c (.int .i64 6))), none⟩]
def g13_11 : IL := [⟨some 24, .val (.load (some 2) (.t 1)), none⟩, ⟨some 25, .call (.f 35) [(.t 24)], none⟩, ⟨some 26, .val (.un .not (.t 25)), none⟩, ⟨some 23, .val (.mov (.t 26)), none⟩]
def g13_12 : IL := [⟨some 2, .val (.mov (.c (.int .i64 1))), none⟩]
def g13_13 : IL := [⟨some 28, .val (.load (some 2) (.t 1)), none⟩, ⟨some 29, .call (.f 36) [(.t 28)], none⟩, ⟨some 30, .val (.un .not (.t 29)), none⟩, ⟨some 27, .val (.mov (.t 30)), none⟩]
def g13_14 : IL := [⟨some 2, .val (.mov (.c (.int .i64 19))), none⟩]
def g13_15 : IL := [⟨some 2, .val (.mov (.c (.int .i64 0))), none⟩]
def r13 : RC := .seq (.reg g13_0) (.seq (.block 0 (.seq (.reg g13_1) (.cond (.t 3) (.seq (.reg g13_2) (.ret)) (.seq (.reg g13_3) (.cond (.t 7) (.seq (.reg g13_4) (.ret)) (.seq (.reg g13_5) (.cond (.t 11) (.seq (.reg g13_6) (.ret)) (.seq (.reg g13_7) (.cond (.t 15) (.seq (.reg g13_8) (.ret)) (.seq (.reg g13_9) (.cond (.t 19) (.seq (.reg g13_10) (.ret)) (.seq (.reg g13_11) (.cond (.t 23) (.seq (.reg g13_12) (.ret)) (.seq (.reg g13_13) (.cond (.t 27) (.seq (.reg g13_14) (.ret)) (.skip)))))))))))))))) (.seq (.reg g13_15) (.ret)))
def o13 : List RR := [.tmp 2]
theorem k13 : KK 31 r13 Tryz.f13 := by decide +kernel
theorem q13 : QQ Tryz.f13 o13 := by decide +kernel
def g35_0 : IL := [⟨some 1, .boxN 1 (.t 0), none⟩, ⟨some 2, .val (.mov (.c (.bool false))), none⟩]
def g35_1 : IL := [⟨some 3, .val (.mov (.c (.bool true))), none⟩]
def g35_2 : IL := [⟨some 4, .val (.mov (.c (.int .i64 0))), none⟩]
def g35_3 : IL := [⟨some 9, .val (.mov (.t 4)), none⟩, ⟨some 10, .val (.faddr 1 (.t 1)), none⟩, ⟨some 11, .val (.load none (.t 10)), none⟩, ⟨some 12, .val (.len 1 (.t 11)), none⟩, ⟨some 13, .val (.bin .num .lss (.t 9) (.t 12)), none⟩]
def g35_5 : IL := [⟨some 16, .val (.mov (.t 3)), none⟩, ⟨some 17, .val (.mov (.t 16)), none⟩, ⟨some 18, .val (.faddr 1 (.t 1)), (some (17, true))⟩, ⟨some 19, .val (.load none (.t 18)), (some (17, true))⟩, ⟨some 20, .val (.mov (.t 4)), (some (17, true))⟩, ⟨some 21, .val (.iaddr 5 none (.t 19) (.t 20)), (some (17, true))⟩, ⟨some 22, .val (.faddr 4 (.t 21)), (some (17, true))⟩, ⟨some 23, .val (.load none (.t 22)), (some (17, true))⟩, ⟨some 24, .val (.len 1 (.t 23)), (some (17, true))⟩, ⟨some 25, .val (.bin .num .eql (.t 24) (.c (.int .i64 0))), (some (17, true))⟩, ⟨some 26, .val (.pick (.t 17) (.t 25) (.c (.bool false))), none⟩, ⟨some 3, .val (.mov (.t 26)), none⟩]
def g35_6 : IL := [⟨some 5, .val (.mov (.c (.int .i64 0))), none⟩]
def g35_7 : IL := [⟨some 27, .val (.mov (.t 5)), none⟩, ⟨some 28, .val (.faddr 1 (.t 1)), none⟩, ⟨some 29, .val (.load none (.t 28)), none⟩, ⟨some 30, .val (.mov (.t 4)), none⟩, ⟨some 31, .val (.iaddr 5 none (.t 29) (.t 30)), none⟩, ⟨some 32, .val (.faddr 2 (.t 31)), none⟩, ⟨some 33, .val (.load none (.t 32)), none⟩, ⟨some 34, .val (.len 1 (.t 33)), none⟩, ⟨some 35, .val (.bin .num .lss (.t 27) (.t 34)), none⟩]
def g35_9 : IL := [⟨some 38, .val (.faddr 1 (.t 1)), none⟩, ⟨some 39, .val (.load none (.t 38)), none⟩, ⟨some 40, .val (.mov (.t 4)), none⟩, ⟨some 41, .val (.iaddr 5 none (.t 39) (.t 40)), none⟩, ⟨some 42, .val (.faddr 2 (.t 41)), none⟩, ⟨some 43, .val (.load none (.t 42)), none⟩, ⟨some 44, .val (.mov (.t 5)), none⟩, ⟨some 45, .val (.iaddr 3 none (.t 43) (.t 44)), none⟩, ⟨some 46, .val (.faddr 2 (.t 45)), none⟩, ⟨some 47, .val (.load none (.t 46)), none⟩, ⟨some 6, .val (.mov (.t 47)), none⟩]
def g35_10 : IL := [⟨some 48, .val (.mov (.t 3)), none⟩, ⟨some 49, .val (.mov (.t 48)), none⟩, ⟨some 50, .val (.mov (.t 6)), (some (49, true))⟩, ⟨some 51, .val (.len 1 (.t 50)), (some (49, true))⟩, ⟨some 52, .val (.bin .num .eql (.t 51) (.c (.int .i64 0))), (some (49, true))⟩, ⟨some 53, .val (.mov (.t 52)), (some (49, true))⟩, ⟨some 54, .val (.mov (.t 6)), (some (53, false))⟩, ⟨some 55, .val (.len 1 (.t 54)), (some (53, false))⟩, ⟨some 56, .val (.bin .num .eql (.t 55) (.c (.int .i64 1))), (some (53, false))⟩, ⟨some 57, .val (.mov (.t 56)), (some (53, false))⟩, ⟨some 58, .val (.mov (.t 6)), (some (57, true))⟩, ⟨some 59, .val (.iaddr 8 none (.t 58) (.c (.int .i64 0))), (some (57, true))⟩, ⟨some 60, .val (.faddr 0 (.t 59)), (some (57, true))⟩, ⟨some 61, .val (.load none (.t 60)), (some (57, true))⟩, ⟨some 62, .val (.bin .str .eql (.t 61) (.c (.str [97, 108, 105, 97, 115]))), (some (57, true))⟩, ⟨some 63, .val (.pick (.t 57) (.t 62) (.c (.bool false))), (some (53, false))⟩, ⟨some 64, .val (.mov (.t 63)), (some (53, false))⟩, ⟨some 65, .val (.mov (.t 6)), (some (64, true))⟩, ⟨some 66, .call (.f 111) [(.t 65), (.c (.int .i64 4))], (some (64, true))⟩, ⟨some 67, .val (.bin .num .eql (.t 66) (.c (.int .i64 0))), (some (64, true))⟩, ⟨some 68, .val (.pick (.t 64) (.t 67) (.c (.bool false))), (some (53, false))⟩, ⟨some 69, .val (.pick (.t 53) (.c (.bool true)) (.t 68)), (some (49, true))⟩, ⟨some 70, .val (.pick (.t 49) (.t 69) (.c (.bool false))), none⟩, ⟨some 3, .val (.mov (.t 70)), none⟩]
def g35_8 : IL := [⟨some 36, .val (.mov (.t 5)), none⟩, ⟨some 37, .val (.bin .num .add (.t 36) (.c (.int .i64 1))), none⟩, ⟨some 5, .val (.mov (.t 37)), none⟩]
def l35_0 : RC := .seq (.seq (.reg g35_7) (.cond (.t 35) (.skip) (.exit 2))) (.seq (.block 3 (.seq (.reg g35_9) (.reg g35_10))) (.reg g35_8))
def g35_4 : IL := [⟨some 14, .val (.mov (.t 4)), none⟩, ⟨some 15, .val (.bin .num .add (.t 14) (.c (.int .i64 1))), none⟩, ⟨some 4, .val (.mov (.t 15)), none⟩]
def l35_1 : RC := .seq (.seq (.reg g35_3) (.cond (.t 13) (.skip) (.exit 0))) (.seq (.block 1 (.seq (.reg g35_5) (.seq (.reg g35_6) (.block 2 (.loop l35_0))))) (.reg g35_4))
def g35_11 : IL := [⟨some 7, .val (.mov (.c (.int .i64 0))), none⟩]
def g35_12 : IL := [⟨some 71, .val (.mov (.t 7)), none⟩, ⟨some 72, .val (.faddr 0 (.t 1)), none⟩, ⟨some 73, .val (.load none (.t 72)), none⟩, ⟨some 74, .val (.len 1 (.t 73)), none⟩, ⟨some 75, .val (.bin .num .lss (.t 71) (.t 74)), none⟩]
def g35_14 : IL := [⟨some 78, .val (.mov (.t 3)), none⟩, ⟨some 79, .val (.mov (.t 78)), none⟩, ⟨some 80, .val (.faddr 0 (.t 1)), (some (79, true))⟩, ⟨some 81, .val (.load none (.t 80)), (some (79, true))⟩, ⟨some 82, .val (.mov (.t 7)), (some (79, true))⟩, ⟨some 83, .val (.iaddr 3 none (.t 81) (.t 82)), (some (79, true))⟩, ⟨some 84, .val (.load (some 3) (.t 83)), (some (79, true))⟩, ⟨some 85, .call (.f 112) [(.t 84)], (some (79, true))⟩, ⟨some 86, .val (.pick (.t 79) (.t 85) (.c (.bool false))), none⟩, ⟨some 3, .val (.mov (.t 86)), none⟩]
def g35_15 : IL := [⟨some 8, .val (.mov (.c (.int .i64 0))), none⟩]
def g35_16 : IL := [⟨some 87, .val (.mov (.t 8)), none⟩, ⟨some 88, .val (.faddr 0 (.t 1)), none⟩, ⟨some 89, .val (.load none (.t 88)), none⟩, ⟨some 90, .val (.mov (.t 7)), none⟩, ⟨some 91, .val (.iaddr 3 none (.t 89) (.t 90)), none⟩, ⟨some 92, .val (.faddr 1 (.t 91)), none⟩, ⟨some 93, .val (.load none (.t 92)), none⟩, ⟨some 94, .val (.len 1 (.t 93)), none⟩, ⟨some 95, .val (.bin .num .lss (.t 87) (.t 94)), none⟩]
def g35_18 : IL := [⟨some 98, .val (.mov (.t 3)), none⟩, ⟨some 99, .val (.mov (.t 98)), none⟩, ⟨some 100, .val (.loadv 0 1 (some 2) (.t 1)), (some (99, true))⟩, ⟨some 101, .val (.faddr 0 (.t 1)), (some (99, true))⟩, ⟨some 102, .val (.loadv 0 1 none (.t 101)), (some (99, true))⟩, ⟨some 103, .val (.mov (.t 7)), (some (99, true))⟩, ⟨some 104, .val (.iaddr 3 none (.t 102) (.t 103)), (some (99, true))⟩, ⟨some 105, .val (.faddr 1 (.t 104)), (some (99, true))⟩, ⟨some 106, .val (.loadr none (.t 105)), (some (99, true))⟩, ⟨some 107, .val (.mov (.t 8)), (some (99, true))⟩, ⟨some 108, .val (.iaddr 8 none (.t 106) (.t 107)), (some (99, true))⟩, ⟨some 109, .val (.loadr (some 8) (.t 108)), (some (99, true))⟩, ⟨some 110, .call (.f 113) [(.t 100), (.t 109)], (some (99, true))⟩, ⟨some 111, .val (.pick (.t 99) (.t 110) (.c (.bool false))), none⟩, ⟨some 3, .val (.mov (.t 111)), none⟩]
def g35_17 : IL := [⟨some 96, .val (.mov (.t 8)), none⟩, ⟨some 97, .val (.bin .num .add (.t 96) (.c (.int .i64 1))), none⟩, ⟨some 8, .val (.mov (.t 97)), none⟩]
def l35_2 : RC := .seq (.seq (.reg g35_16) (.cond (.t 95) (.skip) (.exit 6))) (.seq (.block 7 (.draw g35_18)) (.reg g35_17))
def g35_13 : IL := [⟨some 76, .val (.mov (.t 7)), none⟩, ⟨some 77, .val (.bin .num .add (.t 76) (.c (.int .i64 1))), none⟩, ⟨some 7, .val (.mov (.t 77)), none⟩]
def l35_3 : RC := .seq (.seq (.reg g35_12) (.cond (.t 75) (.skip) (.exit 4))) (.seq (.block 5 (.seq (.reg g35_14) (.seq (.reg g35_15) (.block 6 (.loop l35_2))))) (.reg g35_13))
def g35_19 : IL := [⟨some 112, .val (.mov (.t 3)), none⟩, ⟨some 2, .val (.mov (.t 112)), none⟩]
def r35 : RC := .seq (.reg g35_0) (.seq (.reg g35_1) (.seq (.seq (.reg g35_2) (.block 0 (.loop l35_1))) (.seq (.seq (.reg g35_11) (.block 4 (.loop l35_3))) (.seq (.reg g35_19) (.ret)))))
def o35 : List RR := [.tmp 2]
theorem k35 : KK 113 r35 Tryz.f35 := by decide +kernel
theorem q35 : QQ Tryz.f35 o35 := by decide +kernel
def g108_0 : IL := [⟨some 2, .val (.mov (.c (.bool false))), none⟩]
def g108_1 : IL := [⟨some 5, .val (.mov (.t 0)), none⟩, ⟨some 6, .call (.f 162) [(.t 5)], none⟩, ⟨some 7, .val (.un .not (.t 6)), none⟩]
def g108_2 : IL := [⟨some 2, .val (.mov (.c (.bool false))), none⟩]
def g108_3 : IL := [⟨some 8, .val (.mov (.t 0)), none⟩, ⟨some 9, .val (.bin .str .neq (.t 8) (.c (.str []))), none⟩]
def g108_4 : IL := [⟨some 11, .val (.mov (.t 0)), none⟩, ⟨some 12, .call (.f 163) [(.t 11)], none⟩, ⟨some 10, .val (.mov (.t 12)), none⟩, ⟨some 13, .val (.ext (.t 10) 0), none⟩, ⟨some 14, .val (.ext (.t 10) 1), none⟩, ⟨some 3, .val (.mov (.t 13)), none⟩, ⟨some 4, .val (.mov (.t 14)), none⟩]
def g108_5 : IL := [⟨some 15, .val (.mov (.t 4)), none⟩, ⟨some 16, .call (.f 164) [(.t 15)], none⟩]
def g108_6 : IL := [⟨some 2, .val (.mov (.c (.bool false))), none⟩]
def g108_7 : IL := [⟨some 17, .val (.mov (.t 3)), none⟩, ⟨some 0, .val (.mov (.t 17)), none⟩]
def l108_0 : RC := .seq (.seq (.reg g108_3) (.cond (.t 9) (.skip) (.exit 0))) (.block 1 (.seq (.reg g108_4) (.seq (.seq (.reg g108_5) (.cond (.t 16) (.seq (.reg g108_6) (.ret)) (.skip))) (.reg g108_7))))
def g108_8 : IL := [⟨some 2, .val (.mov (.c (.bool true))), none⟩]
def r108 : RC := .seq (.reg g108_0) (.seq (.seq (.reg g108_1) (.cond (.t 7) (.seq (.reg g108_2) (.ret)) (.skip))) (.seq (.block 0 (.loop l108_0)) (.seq (.reg g108_8) (.ret))))
def o108 : List RR := [.tmp 2]
theorem k108 : KK 18 r108 Tryz.f108 := by decide +kernel
theorem q108 : QQ Tryz.f108 o108 := by decide +kernel
def g36_0 : IL := [⟨some 1, .boxN 1 (.t 0), none⟩, ⟨some 2, .val (.mov (.c (.bool false))), none⟩]
def g36_1 : IL := [⟨some 9, .val (.faddr 0 (.t 1)), none⟩, ⟨some 10, .val (.load none (.t 9)), none⟩, ⟨some 11, .val (.len 1 (.t 10)), none⟩, ⟨some 12, .mk 12 4 1 1 [.bool false] (.t 11) (.t 11), none⟩, ⟨some 3, .val (.mov (.t 12)), none⟩]
def g36_2 : IL := [⟨some 13, .val (.faddr 0 (.t 1)), none⟩, ⟨some 14, .val (.load none (.t 13)), none⟩, ⟨some 15, .val (.len 1 (.t 14)), none⟩, ⟨some 16, .val (.bin .num .eql (.t 15) (.c (.int .i64 0))), none⟩, ⟨some 4, .val (.mov (.t 16)), none⟩]
def g36_3 : IL := [⟨some 17, .val (.faddr 0 (.t 1)), none⟩, ⟨some 18, .val (.load none (.t 17)), none⟩, ⟨some 19, .val (.len 1 (.t 18)), none⟩, ⟨some 20, .val (.mov (.c (.int .i64 0))), none⟩]
def g36_4 : IL := [⟨some 21, .val (.bin .num .lss (.t 20) (.t 19)), none⟩]
def g36_5 : IL := [⟨some 4, .val (.mov (.c (.bool true))), none⟩]
def g36_6 : IL := [⟨some 5, .val (.mov (.c (.int .i64 0))), none⟩]
def g36_7 : IL := [⟨some 22, .val (.mov (.t 5)), none⟩, ⟨some 23, .val (.faddr 0 (.t 1)), none⟩, ⟨some 24, .val (.load none (.t 23)), none⟩, ⟨some 25, .val (.len 1 (.t 24)), none⟩, ⟨some 26, .val (.bin .num .lss (.t 22) (.t 25)), none⟩]
def g36_9 : IL := [⟨some 6, .val (.mov (.c (.bool true))), none⟩]
def g36_10 : IL := [⟨some 7, .val (.mov (.c (.int .i64 0))), none⟩]
def g36_11 : IL := [⟨some 29, .val (.mov (.t 7)), none⟩, ⟨some 30, .val (.faddr 0 (.t 1)), none⟩, ⟨some 31, .val (.load none (.t 30)), none⟩, ⟨some 32, .val (.mov (.t 5)), none⟩, ⟨some 33, .val (.iaddr 3 none (.t 31) (.t 32)), none⟩, ⟨some 34, .val (.faddr 1 (.t 33)), none⟩, ⟨some 35, .val (.load none (.t 34)), none⟩, ⟨some 36, .val (.len 1 (.t 35)), none⟩, ⟨some 37, .val (.bin .num .lss (.t 29) (.t 36)), none⟩]
def g36_13 : IL := [⟨some 40, .val (.faddr 0 (.t 1)), none⟩, ⟨some 41, .val (.load none (.t 40)), none⟩, ⟨some 42, .val (.mov (.t 5)), none⟩, ⟨some 43, .val (.iaddr 3 none (.t 41) (.t 42)), none⟩, ⟨some 44, .val (.faddr 1 (.t 43)), none⟩, ⟨some 45, .val (.load none (.t 44)), none⟩, ⟨some 46, .val (.mov (.t 7)), none⟩, ⟨some 47, .val (.iaddr 8 none (.t 45) (.t 46)), none⟩, ⟨some 48, .val (.load (some 8) (.t 47)), none⟩, ⟨some 8, .allocN 8 [.int .i64 0, .str [], .str [], .int .i64 0, .int .i64 0, .int .i64 0, .int .i64 0, .int .i64 0], none⟩, ⟨none, .store 8 (.t 8) (.t 48), none⟩]
def g36_14 : IL := [⟨some 49, .val (.mov (.t 6)), none⟩, ⟨some 50, .val (.mov (.t 49)), none⟩, ⟨some 51, .val (.faddr 3 (.t 8)), (some (50, true))⟩, ⟨some 52, .val (.load none (.t 51)), (some (50, true))⟩, ⟨some 53, .val (.bin .num .neq (.t 52) (.c (.int .i64 1))), (some (50, true))⟩, ⟨some 54, .val (.mov (.t 53)), (some (50, true))⟩, ⟨some 55, .val (.faddr 5 (.t 8)), (some (54, false))⟩, ⟨some 56, .val (.load none (.t 55)), (some (54, false))⟩, ⟨some 57, .val (.bin .num .neq (.t 56) (.c (.int .i64 10))), (some (54, false))⟩, ⟨some 58, .val (.pick (.t 54) (.c (.bool true)) (.t 57)), (some (50, true))⟩, ⟨some 59, .val (.mov (.t 58)), (some (50, true))⟩, ⟨some 60, .val (.mov (.t 3)), (some (59, false))⟩, ⟨some 61, .val (.faddr 6 (.t 8)), (some (59, false))⟩, ⟨some 62, .val (.load none (.t 61)), (some (59, false))⟩, ⟨some 63, .val (.iaddr 1 none (.t 60) (.t 62)), (some (59, false))⟩, ⟨some 64, .val (.load none (.t 63)), (some (59, false))⟩, ⟨some 65, .val (.pick (.t 59) (.c (.bool true)) (.t 64)), (some (50, true))⟩, ⟨some 66, .val (.pick (.t 50) (.t 65) (.c (.bool false))), none⟩, ⟨some 6, .val (.mov (.t 66)), none⟩]
def g36_12 : IL := [⟨some 38, .val (.mov (.t 7)), none⟩, ⟨some 39, .val (.bin .num .add (.t 38) (.c (.int .i64 1))), none⟩, ⟨some 7, .val (.mov (.t 39)), none⟩]
def l36_0 : RC := .gho (.drop 8) (.seq (.seq (.reg g36_11) (.cond (.t 37) (.skip) (.exit 4))) (.seq (.block 5 (.seq (.reg g36_13) (.reg g36_14))) (.reg g36_12)))
def g36_15 : IL := [⟨some 67, .val (.mov (.t 3)), none⟩, ⟨some 68, .val (.mov (.t 5)), none⟩, ⟨some 69, .val (.mov (.t 6)), none⟩, ⟨some 70, .val (.iaddr 1 none (.t 67) (.t 68)), none⟩, ⟨none, .store 1 (.t 70) (.t 69), none⟩]
def g36_16 : IL := [⟨some 71, .val (.mov (.t 4)), none⟩, ⟨some 72, .val (.mov (.t 71)), none⟩, ⟨some 73, .val (.mov (.t 6)), (some (72, true))⟩, ⟨some 74, .val (.pick (.t 72) (.t 73) (.c (.bool false))), none⟩, ⟨some 4, .val (.mov (.t 74)), none⟩]
def g36_8 : IL := [⟨some 27, .val (.mov (.t 5)), none⟩, ⟨some 28, .val (.bin .num .add (.t 27) (.c (.int .i64 1))), none⟩, ⟨some 5, .val (.mov (.t 28)), none⟩]
def l36_1 : RC := .gho (.drop 8) (.seq (.seq (.reg g36_7) (.cond (.t 26) (.skip) (.exit 2))) (.seq (.block 3 (.seq (.reg g36_9) (.seq (.seq (.reg g36_10) (.block 4 (.loop l36_0))) (.seq (.reg g36_15) (.reg g36_16))))) (.reg g36_8)))
def g36_17 : IL := [⟨some 75, .val (.bin .num .add (.t 20) (.c (.int .i64 1))), none⟩, ⟨some 20, .val (.mov (.t 75)), none⟩]
def l36_2 : RC := .gho (.drop 8) (.seq (.reg g36_4) (.seq (.cond (.t 21) (.skip) (.exit 0)) (.seq (.block 1 (.seq (.reg g36_5) (.seq (.reg g36_6) (.block 2 (.loop l36_1))))) (.reg g36_17))))
def g36_18 : IL := [⟨some 76, .val (.mov (.t 4)), none⟩, ⟨some 2, .val (.mov (.t 76)), none⟩]
def r36 : RC := .seq (.reg g36_0) (.seq (.reg g36_1) (.seq (.reg g36_2) (.seq (.seq (.reg g36_3) (.block 0 (.loop l36_2))) (.seq (.reg g36_18) (.ret)))))
def o36 : List RR := [.tmp 2]
theorem k36 : KK 77 r36 Tryz.f36 := by decide +kernel
theorem q36 : QQ Tryz.f36 o36 := by decide +kernel
def g112_0 : IL := [⟨some 1, .boxN 1 (.t 0), none⟩, ⟨some 2, .val (.mov (.c (.bool false))), none⟩]
def g112_1 : IL := [⟨some 3, .val (.mov (.c (.int .i64 0))), none⟩]
def g112_2 : IL := [⟨some 4, .val (.mov (.c (.int .i64 0))), none⟩]
def g112_3 : IL := [⟨some 6, .val (.mov (.t 4)), none⟩, ⟨some 7, .val (.faddr 1 (.t 1)), none⟩, ⟨some 8, .val (.load none (.t 7)), none⟩, ⟨some 9, .val (.len 1 (.t 8)), none⟩, ⟨some 10, .val (.bin .num .lss (.t 6) (.t 9)), none⟩]
def g112_5 : IL := [⟨some 13, .val (.faddr 1 (.t 1)), none⟩, ⟨some 14, .val (.load none (.t 13)), none⟩, ⟨some 15, .val (.mov (.t 4)), none⟩, ⟨some 16, .val (.iaddr 8 none (.t 14) (.t 15)), none⟩, ⟨some 17, .val (.faddr 7 (.t 16)), none⟩, ⟨some 18, .val (.load none (.t 17)), none⟩, ⟨some 5, .val (.mov (.t 18)), none⟩]
def g112_6 : IL := [⟨some 20, .val (.mov (.t 5)), none⟩, ⟨some 21, .val (.mov (.t 3)), none⟩, ⟨some 22, .val (.bin .num .eql (.t 20) (.t 21)), none⟩, ⟨some 19, .val (.mov (.t 22)), none⟩]
def g112_7 : IL := [⟨some 23, .val (.mov (.t 3)), none⟩, ⟨some 24, .val (.bin .num .add (.t 23) (.c (.int .i64 1))), none⟩, ⟨some 3, .val (.mov (.t 24)), none⟩]
def g112_8 : IL := [⟨some 26, .val (.mov (.t 5)), none⟩, ⟨some 27, .val (.bin .num .neq (.t 26) (.c (.int .i64 (-1)))), none⟩, ⟨some 28, .val (.mov (.t 27)), none⟩, ⟨some 29, .val (.mov (.t 4)), (some (28, true))⟩, ⟨some 30, .val (.bin .num .eql (.t 29) (.c (.int .i64 0))), (some (28, true))⟩, ⟨some 31, .val (.mov (.t 30)), (some (28, true))⟩, ⟨some 32, .val (.faddr 1 (.t 1)), (some (31, false))⟩, ⟨some 33, .val (.load none (.t 32)), (some (31, false))⟩, ⟨some 34, .val (.mov (.t 4)), (some (31, false))⟩, ⟨some 35, .val (.bin .num .sub (.t 34) (.c (.int .i64 1))), (some (31, false))⟩, ⟨some 36, .val (.iaddr 8 none (.t 33) (.t 35)), (some (31, false))⟩, ⟨some 37, .val (.faddr 7 (.t 36)), (some (31, false))⟩, ⟨some 38, .val (.load none (.t 37)), (some (31, false))⟩, ⟨some 39, .val (.mov (.t 5)), (some (31, false))⟩, ⟨some 40, .val (.bin .num .neq (.t 38) (.t 39)), (some (31, false))⟩, ⟨some 41, .val (.pick (.t 31) (.c (.bool true)) (.t 40)), (some (28, true))⟩, ⟨some 42, .val (.pick (.t 28) (.t 41) (.c (.bool false))), none⟩, ⟨some 25, .val (.mov (.t 42)), none⟩]
def g112_9 : IL := [⟨some 2, .val (.mov (.c (.bool false))), none⟩]
def g112_4 : IL := [⟨some 11, .val (.mov (.t 4)), none⟩, ⟨some 12, .val (.bin .num .add (.t 11) (.c (.int .i64 1))), none⟩, ⟨some 4, .val (.mov (.t 12)), none⟩]
def l112_0 : RC := .seq (.seq (.reg g112_3) (.cond (.t 10) (.skip) (.exit 0))) (.seq (.block 1 (.seq (.reg g112_5) (.block 2 (.seq (.reg g112_6) (.cond (.t 19) (.reg g112_7) (.seq (.reg g112_8) (.cond (.t 25) (.seq (.reg g112_9) (.ret)) (.skip)))))))) (.reg g112_4))
def g112_10 : IL := [⟨some 43, .val (.faddr 2 (.t 1)), none⟩, ⟨some 44, .val (.load none (.t 43)), none⟩, ⟨some 45, .val (.mov (.t 3)), none⟩, ⟨some 46, .val (.bin .num .eql (.t 44) (.t 45)), none⟩, ⟨some 2, .val (.mov (.t 46)), none⟩]
def r112 : RC := .seq (.reg g112_0) (.seq (.reg g112_1) (.seq (.seq (.reg g112_2) (.block 0 (.loop l112_0))) (.seq (.reg g112_10) (.ret))))
def o112 : List RR := [.tmp 2]
theorem k112 : KK 47 r112 Tryz.f112 := by decide +kernel
theorem q112 : QQ Tryz.f112 o112 := by decide +kernel
def g30_0 : IL := [⟨some 1, .boxN 1 (.t 0), none⟩, ⟨some 2, .val (.mov (.c (.bool false))), none⟩]
def g30_1 : IL := [⟨some 7, .val (.faddr 0 (.t 1)), none⟩, ⟨some 8, .val (.load none (.t 7)), none⟩, ⟨some 9, .val (.len 1 (.t 8)), none⟩, ⟨some 10, .val (.bin .num .leq (.t 9) (.c (.int .i64 64))), none⟩, ⟨some 11, .val (.mov (.t 10)), none⟩, ⟨some 12, .val (.faddr 1 (.t 1)), (some (11, true))⟩, ⟨some 13, .val (.load none (.t 12)), (some (11, true))⟩, ⟨some 14, .val (.len 1 (.t 13)), (some (11, true))⟩, ⟨some 15, .val (.bin .num .leq (.t 14) (.c (.int .i64 64))), (some (11, true))⟩, ⟨some 16, .val (.pick (.t 11) (.t 15) (.c (.bool false))), none⟩, ⟨some 3, .val (.mov (.t 16)), none⟩]
def g30_2 : IL := [⟨some 4, .val (.mov (.c (.int .i64 0))), none⟩]
def g30_3 : IL := [⟨some 17, .val (.mov (.t 4)), none⟩, ⟨some 18, .val (.faddr 0 (.t 1)), none⟩, ⟨some 19, .val (.load none (.t 18)), none⟩, ⟨some 20, .val (.len 1 (.t 19)), none⟩, ⟨some 21, .val (.bin .num .lss (.t 17) (.t 20)), none⟩]
def g30_5 : IL := [⟨some 24, .val (.mov (.t 3)), none⟩, ⟨some 25, .val (.mov (.t 24)), none⟩, ⟨some 26, .val (.faddr 0 (.t 1)), (some (25, true))⟩, ⟨some 27, .val (.load none (.t 26)), (some (25, true))⟩, ⟨some 28, .val (.mov (.t 4)), (some (25, true))⟩, ⟨some 29, .val (.iaddr 3 none (.t 27) (.t 28)), (some (25, true))⟩, ⟨some 30, .val (.faddr 1 (.t 29)), (some (25, true))⟩, ⟨some 31, .val (.load none (.t 30)), (some (25, true))⟩, ⟨some 32, .val (.len 1 (.t 31)), (some (25, true))⟩, ⟨some 33, .val (.bin .num .leq (.t 32) (.c (.int .i64 64))), (some (25, true))⟩, ⟨some 34, .val (.pick (.t 25) (.t 33) (.c (.bool false))), none⟩, ⟨some 3, .val (.mov (.t 34)), none⟩]
def g30_4 : IL := [⟨some 22, .val (.mov (.t 4)), none⟩, ⟨some 23, .val (.bin .num .add (.t 22) (.c (.int .i64 1))), none⟩, ⟨some 4, .val (.mov (.t 23)), none⟩]
def l30_0 : RC := .seq (.seq (.reg g30_3) (.cond (.t 21) (.skip) (.exit 0))) (.seq (.block 1 (.reg g30_5)) (.reg g30_4))
def g30_6 : IL := [⟨some 5, .val (.mov (.c (.int .i64 0))), none⟩]
def g30_7 : IL := [⟨some 35, .val (.mov (.t 5)), none⟩, ⟨some 36, .val (.faddr 1 (.t 1)), none⟩, ⟨some 37, .val (.load none (.t 36)), none⟩, ⟨some 38, .val (.len 1 (.t 37)), none⟩, ⟨some 39, .val (.bin .num .lss (.t 35) (.t 38)), none⟩]
def g30_9 : IL := [⟨some 42, .val (.faddr 1 (.t 1)), none⟩, ⟨some 43, .val (.load none (.t 42)), none⟩, ⟨some 44, .val (.mov (.t 5)), none⟩, ⟨some 45, .val (.iaddr 5 none (.t 43) (.t 44)), none⟩, ⟨some 46, .val (.faddr 2 (.t 45)), none⟩, ⟨some 47, .val (.load none (.t 46)), none⟩, ⟨some 48, .val (.len 1 (.t 47)), none⟩, ⟨some 6, .val (.mov (.t 48)), none⟩]
def g30_10 : IL := [⟨some 49, .val (.mov (.t 3)), none⟩, ⟨some 50, .val (.mov (.t 49)), none⟩, ⟨some 51, .val (.mov (.t 6)), (some (50, true))⟩, ⟨some 52, .val (.bin .num .geq (.t 51) (.c (.int .i64 1))), (some (50, true))⟩, ⟨some 53, .val (.pick (.t 50) (.t 52) (.c (.bool false))), none⟩, ⟨some 54, .val (.mov (.t 53)), none⟩, ⟨some 55, .val (.mov (.t 6)), (some (54, true))⟩, ⟨some 56, .val (.bin .num .leq (.t 55) (.c (.int .i64 64))), (some (54, true))⟩, ⟨some 57, .val (.pick (.t 54) (.t 56) (.c (.bool false))), none⟩, ⟨some 58, .val (.mov (.t 57)), none⟩, ⟨some 59, .val (.faddr 1 (.t 1)), (some (58, true))⟩, ⟨some 60, .val (.load none (.t 59)), (some (58, true))⟩, ⟨some 61, .val (.mov (.t 5)), (some (58, true))⟩, ⟨some 62, .val (.iaddr 5 none (.t 60) (.t 61)), (some (58, true))⟩, ⟨some 63, .val (.faddr 3 (.t 62)), (some (58, true))⟩, ⟨some 64, .val (.load none (.t 63)), (some (58, true))⟩, ⟨some 65, .val (.len 1 (.t 64)), (some (58, true))⟩, ⟨some 66, .val (.bin .num .leq (.t 65) (.c (.int .i64 16))), (some (58, true))⟩, ⟨some 67, .val (.pick (.t 58) (.t 66) (.c (.bool false))), none⟩, ⟨some 3, .val (.mov (.t 67)), none⟩]
def g30_8 : IL := [⟨some 40, .val (.mov (.t 5)), none⟩, ⟨some 41, .val (.bin .num .add (.t 40) (.c (.int .i64 1))), none⟩, ⟨some 5, .val (.mov (.t 41)), none⟩]
def l30_1 : RC := .seq (.seq (.reg g30_7) (.cond (.t 39) (.skip) (.exit 2))) (.seq (.block 3 (.seq (.reg g30_9) (.reg g30_10))) (.reg g30_8))
def g30_11 : IL := [⟨some 68, .val (.mov (.t 3)), none⟩, ⟨some 2, .val (.mov (.t 68)), none⟩]
def r30 : RC := .seq (.reg g30_0) (.seq (.reg g30_1) (.seq (.seq (.reg g30_2) (.block 0 (.loop l30_0))) (.seq (.seq (.reg g30_6) (.block 2 (.loop l30_1))) (.seq (.reg g30_11) (.ret)))))
def o30 : List RR := [.tmp 2]
theorem k30 : KK 69 r30 Tryz.f30 := by decide +kernel
theorem q30 : QQ Tryz.f30 o30 := by decide +kernel
def g31_0 : IL := [⟨some 1, .boxN 1 (.t 0), none⟩, ⟨some 2, .val (.mov (.c (.bool false))), none⟩]
def g31_1 : IL := [⟨some 3, .val (.mov (.c (.bool true))), none⟩]
def g31_2 : IL := [⟨some 4, .val (.mov (.c (.int .i64 0))), none⟩]
def g31_3 : IL := [⟨some 8, .val (.mov (.t 4)), none⟩, ⟨some 9, .val (.faddr 0 (.t 1)), none⟩, ⟨some 10, .val (.load none (.t 9)), none⟩, ⟨some 11, .val (.len 1 (.t 10)), none⟩, ⟨some 12, .val (.bin .num .lss (.t 8) (.t 11)), none⟩]
def g31_5 : IL := [⟨some 15, .val (.mov (.t 3)), none⟩, ⟨some 16, .val (.mov (.t 15)), none⟩, ⟨some 17, .val (.faddr 0 (.t 1)), (some (16, true))⟩, ⟨some 18, .val (.load none (.t 17)), (some (16, true))⟩, ⟨some 19, .val (.mov (.t 4)), (some (16, true))⟩, ⟨some 20, .val (.iaddr 3 none (.t 18) (.t 19)), (some (16, true))⟩, ⟨some 21, .val (.faddr 0 (.t 20)), (some (16, true))⟩, ⟨some 22, .val (.load none (.t 21)), (some (16, true))⟩, ⟨some 23, .call (.f 108) [(.t 22)], (some (16, true))⟩, ⟨some 24, .val (.pick (.t 16) (.t 23) (.c (.bool false))), none⟩, ⟨some 3, .val (.mov (.t 24)), none⟩]
def g31_6 : IL := [⟨some 5, .val (.mov (.c (.int .i64 0))), none⟩]
def g31_7 : IL := [⟨some 25, .val (.mov (.t 5)), none⟩, ⟨some 26, .val (.faddr 0 (.t 1)), none⟩, ⟨some 27, .val (.load none (.t 26)), none⟩, ⟨some 28, .val (.mov (.t 4)), none⟩, ⟨some 29, .val (.iaddr 3 none (.t 27) (.t 28)), none⟩, ⟨some 30, .val (.faddr 1 (.t 29)), none⟩, ⟨some 31, .val (.load none (.t 30)), none⟩, ⟨some 32, .val (.len 1 (.t 31)), none⟩, ⟨some 33, .val (.bin .num .lss (.t 25) (.t 32)), none⟩]
def g31_9 : IL := [⟨some 36, .val (.mov (.t 3)), none⟩, ⟨some 37, .val (.mov (.t 36)), none⟩, ⟨some 38, .val (.faddr 0 (.t 1)), (some (37, true))⟩, ⟨some 39, .val (.load none (.t 38)), (some (37, true))⟩, ⟨some 40, .val (.mov (.t 4)), (some (37, true))⟩, ⟨some 41, .val (.iaddr 3 none (.t 39) (.t 40)), (some (37, true))⟩, ⟨some 42, .val (.faddr 1 (.t 41)), (some (37, true))⟩, ⟨some 43, .val (.load none (.t 42)), (some (37, true))⟩, ⟨some 44, .val (.mov (.t 5)), (some (37, true))⟩, ⟨some 45, .val (.iaddr 8 none (.t 43) (.t 44)), (some (37, true))⟩, ⟨some 46, .val (.faddr 1 (.t 45)), (some (37, true))⟩, ⟨some 47, .val (.load none (.t 46)), (some (37, true))⟩, ⟨some 48, .call (.f 109) [(.t 47)], (some (37, true))⟩, ⟨some 49, .val (.pick (.t 37) (.t 48) (.c (.bool false))), none⟩, ⟨some 3, .val (.mov (.t 49)), none⟩]
def g31_8 : IL := [⟨some 34, .val (.mov (.t 5)), none⟩, ⟨some 35, .val (.bin .num .add (.t 34) (.c (.int .i64 1))), none⟩, ⟨some 5, .val (.mov (.t 35)), none⟩]
def l31_0 : RC := .seq (.seq (.reg g31_7) (.cond (.t 33) (.skip) (.exit 2))) (.seq (.block 3 (.reg g31_9)) (.reg g31_8))
def g31_4 : IL := [⟨some 13, .val (.mov (.t 4)), none⟩, ⟨some 14, .val (.bin .num .add (.t 13) (.c (.int .i64 1))), none⟩, ⟨some 4, .val (.mov (.t 14)), none⟩]
def l31_1 : RC := .seq (.seq (.reg g31_3) (.cond (.t 12) (.skip) (.exit 0))) (.seq (.block 1 (.seq (.reg g31_5) (.seq (.reg g31_6) (.block 2 (.loop l31_0))))) (.reg g31_4))
def g31_10 : IL := [⟨some 6, .val (.mov (.c (.int .i64 0))), none⟩]
def g31_11 : IL := [⟨some 50, .val (.mov (.t 6)), none⟩, ⟨some 51, .val (.faddr 1 (.t 1)), none⟩, ⟨some 52, .val (.load none (.t 51)), none⟩, ⟨some 53, .val (.len 1 (.t 52)), none⟩, ⟨some 54, .val (.bin .num .lss (.t 50) (.t 53)), none⟩]
def g31_13 : IL := [⟨some 57, .val (.mov (.t 3)), none⟩, ⟨some 58, .val (.mov (.t 57)), none⟩, ⟨some 59, .val (.faddr 1 (.t 1)), (some (58, true))⟩, ⟨some 60, .val (.load none (.t 59)), (some (58, true))⟩, ⟨some 61, .val (.mov (.t 6)), (some (58, true))⟩, ⟨some 62, .val (.iaddr 5 none (.t 60) (.t 61)), (some (58, true))⟩, ⟨some 63, .val (.faddr 0 (.t 62)), (some (58, true))⟩, ⟨some 64, .val (.load none (.t 63)), (some (58, true))⟩, ⟨some 65, .call (.f 108) [(.t 64)], (some (58, true))⟩, ⟨some 66, .val (.pick (.t 58) (.t 65) (.c (.bool false))), none⟩, ⟨some 3, .val (.mov (.t 66)), none⟩]
def g31_14 : IL := [⟨some 7, .val (.mov (.c (.int .i64 0))), none⟩]
def g31_15 : IL := [⟨some 67, .val (.mov (.t 7)), none⟩, ⟨some 68, .val (.faddr 1 (.t 1)), none⟩, ⟨some 69, .val (.load none (.t 68)), none⟩, ⟨some 70, .val (.mov (.t 6)), none⟩, ⟨some 71, .val (.iaddr 5 none (.t 69) (.t 70)), none⟩, ⟨some 72, .val (.faddr 2 (.t 71)), none⟩, ⟨some 73, .val (.load none (.t 72)), none⟩, ⟨some 74, .val (.len 1 (.t 73)), none⟩, ⟨some 75, .val (.bin .num .lss (.t 67) (.t 74)), none⟩]
def g31_17 : IL := [⟨some 78, .val (.mov (.t 3)), none⟩, ⟨some 79, .val (.mov (.t 78)), none⟩, ⟨some 80, .val (.faddr 1 (.t 1)), (some (79, true))⟩, ⟨some 81, .val (.load none (.t 80)), (some (79, true))⟩, ⟨some 82, .val (.mov (.t 6)), (some (79, true))⟩, ⟨some 83, .val (.iaddr 5 none (.t 81) (.t 82)), (some (79, true))⟩, ⟨some 84, .val (.faddr 2 (.t 83)), (some (79, true))⟩, ⟨some 85, .val (.load none (.t 84)), (some (79, true))⟩, ⟨some 86, .val (.mov (.t 7)), (some (79, true))⟩, ⟨some 87, .val (.iaddr 3 none (.t 85) (.t 86)), (some (79, true))⟩, ⟨some 88, .val (.faddr 0 (.t 87)), (some (79, true))⟩, ⟨some 89, .val (.load none (.t 88)), (some (79, true))⟩, ⟨some 90, .call (.f 109) [(.t 89)], (some (79, true))⟩, ⟨some 91, .val (.pick (.t 79) (.t 90) (.c (.bool false))), none⟩, ⟨some 3, .val (.mov (.t 91)), none⟩]
def g31_16 : IL := [⟨some 76, .val (.mov (.t 7)), none⟩, ⟨some 77, .val (.bin .num .add (.t 76) (.c (.int .i64 1))), none⟩, ⟨some 7, .val (.mov (.t 77)), none⟩]
def l31_2 : RC := .seq (.seq (.reg g31_15) (.cond (.t 75) (.skip) (.exit 6))) (.seq (.block 7 (.reg g31_17)) (.reg g31_16))
def g31_12 : IL := [⟨some 55, .val (.mov (.t 6)), none⟩, ⟨some 56, .val (.bin .num .add (.t 55) (.c (.int .i64 1))), none⟩, ⟨some 6, .val (.mov (.t 56)), none⟩]
def l31_3 : RC := .seq (.seq (.reg g31_11) (.cond (.t 54) (.skip) (.exit 4))) (.seq (.block 5 (.seq (.reg g31_13) (.seq (.reg g31_14) (.block 6 (.loop l31_2))))) (.reg g31_12))
def g31_18 : IL := [⟨some 92, .val (.mov (.t 3)), none⟩, ⟨some 2, .val (.mov (.t 92)), none⟩]
def r31 : RC := .seq (.reg g31_0) (.seq (.reg g31_1) (.seq (.seq (.reg g31_2) (.block 0 (.loop l31_1))) (.seq (.seq (.reg g31_10) (.block 4 (.loop l31_3))) (.seq (.reg g31_18) (.ret)))))
def o31 : List RR := [.tmp 2]
theorem k31 : KK 93 r31 Tryz.f31 := by decide +kernel
theorem q31 : QQ Tryz.f31 o31 := by decide +kernel
def g113_0 : IL := [⟨some 2, .boxN 2 (.t 0), none⟩, ⟨some 3, .boxN 3 (.t 1), none⟩, ⟨some 4, .val (.mov (.c (.bool false))), none⟩]
def g113_1 : IL := [⟨some 6, .val (.faddr 2 (.t 3)), none⟩, ⟨some 7, .val (.load none (.t 6)), none⟩, ⟨some 8, .call (.f 169) [(.t 7)], none⟩, ⟨some 9, .val (.un .not (.t 8)), none⟩, ⟨some 10, .val (.mov (.t 9)), none⟩, ⟨some 11, .val (.faddr 2 (.t 3)), (some (10, false))⟩, ⟨some 12, .val (.load none (.t 11)), (some (10, false))⟩, ⟨some 13, .val (.len 0 (.t 12)), (some (10, false))⟩, ⟨some 14, .val (.bin .num .gtr (.t 13) (.c (.int .i64 4096))), (some (10, false))⟩, ⟨some 15, .val (.pick (.t 10) (.c (.bool true)) (.t 14)), none⟩, ⟨some 16, .val (.mov (.t 15)), none⟩, ⟨some 17, .val (.faddr 3 (.t 3)), (some (16, false))⟩, ⟨some 18, .val (.load none (.t 17)), (some (16, false))⟩, ⟨some 19, .val (.bin .num .lss (.t 18) (.c (.int .i64 1))), (some (16, false))⟩, ⟨some 20, .val (.pick (.t 16) (.c (.bool true)) (.t 19)), none⟩, ⟨some 21, .val (.mov (.t 20)), none⟩, ⟨some 22, .val (.faddr 3 (.t 3)), (some (21, false))⟩, ⟨some 23, .val (.load none (.t 22)), (some (21, false))⟩, ⟨some 24, .val (.bin .num .gtr (.t 23) (.c (.int .i64 5))), (some (21, false))⟩, ⟨some 25, .val (.pick (.t 21) (.c (.bool true)) (.t 24)), none⟩, ⟨some 26, .val (.mov (.t 25)), none⟩, ⟨some 27, .val (.faddr 5 (.t 3)), (some (26, false))⟩, ⟨some 28, .val (.load none (.t 27)), (some (26, false))⟩, ⟨some 29, .val (.bin .num .lss (.t 28) (.c (.int .i64 1))), (some (26, false))⟩, ⟨some 30, .val (.pick (.t 26) (.c (.bool true)) (.t 29)), none⟩, ⟨some 31, .val (.mov (.t 30)), none⟩, ⟨some 32, .val (.faddr 5 (.t 3)), (some (31, false))⟩, ⟨some 33, .val (.load none (.t 32)), (some (31, false))⟩, ⟨some 34, .val (.bin .num .gtr (.t 33) (.c (.int .i64 10))), (some (31, false))⟩, ⟨some 35, .val (.pick (.t 31) (.c (.bool true)) (.t 34)), none⟩]
def g113_2 : IL := [⟨some 4, .val (.mov (.c (.bool false))), none⟩]
def g113_3 : IL := [⟨some 36, .val (.faddr 4 (.t 3)), none⟩, ⟨some 37, .val (.load none (.t 36)), none⟩, ⟨some 38, .val (.bin .num .geq (.t 37) (.c (.int .i64 1))), none⟩, ⟨some 39, .val (.mov (.t 38)), none⟩, ⟨some 40, .val (.faddr 4 (.t 3)), (some (39, true))⟩, ⟨some 41, .val (.load none (.t 40)), (some (39, true))⟩, ⟨some 42, .val (.bin .num .leq (.t 41) (.c (.int .i64 5))), (some (39, true))⟩, ⟨some 43, .val (.pick (.t 39) (.t 42) (.c (.bool false))), none⟩, ⟨some 44, .val (.mov (.t 43)), none⟩, ⟨some 45, .val (.faddr 4 (.t 3)), (some (44, false))⟩, ⟨some 46, .val (.load none (.t 45)), (some (44, false))⟩, ⟨some 47, .val (.bin .num .eql (.t 46) (.c (.int .i64 7))), (some (44, false))⟩, ⟨some 48, .val (.pick (.t 44) (.c (.bool true)) (.t 47)), none⟩, ⟨some 5, .val (.mov (.t 48)), none⟩]
def g113_4 : IL := [⟨some 49, .val (.faddr 3 (.t 3)), none⟩, ⟨some 50, .val (.load none (.t 49)), none⟩, ⟨some 51, .val (.bin .num .neq (.t 50) (.c (.int .i64 5))), none⟩]
def g113_5 : IL := [⟨some 52, .val (.faddr 4 (.t 3)), none⟩, ⟨some 53, .val (.load none (.t 52)), none⟩, ⟨some 54, .val (.bin .num .eql (.t 53) (.c (.int .i64 0))), none⟩, ⟨some 5, .val (.mov (.t 54)), none⟩]
def g113_6 : IL := [⟨some 55, .val (.mov (.t 5)), none⟩, ⟨some 56, .val (.mov (.t 55)), none⟩, ⟨some 57, .val (.load (some 2) (.t 2)), (some (56, true))⟩, ⟨some 58, .val (.load (some 8) (.t 3)), (some (56, true))⟩, ⟨some 59, .call (.f 170) [(.t 57), (.t 58)], (some (56, true))⟩, ⟨some 60, .val (.pick (.t 56) (.t 59) (.c (.bool false))), none⟩, ⟨some 61, .val (.mov (.t 60)), none⟩, ⟨some 62, .val (.faddr 7 (.t 3)), (some (61, true))⟩, ⟨some 63, .val (.load none (.t 62)), (some (61, true))⟩, ⟨some 64, .val (.bin .num .eql (.t 63) (.c (.int .i64 (-1)))), (some (61, true))⟩, ⟨some 65, .val (.mov (.t 64)), (some (61, true))⟩, ⟨some 66, .val (.faddr 3 (.t 3)), (some (65, false))⟩, ⟨some 67, .val (.load none (.t 66)), (some (65, false))⟩, ⟨some 68, .val (.bin .num .eql (.t 67) (.c (.int .i64 2))), (some (65, false))⟩, ⟨some 69, .val (.pick (.t 65) (.c (.bool true)) (.t 68)), (some (61, true))⟩, ⟨some 70, .val (.pick (.t 61) (.t 69) (.c (.bool false))), none⟩, ⟨some 4, .val (.mov (.t 70)), none⟩]
def r113 : RC := .seq (.reg g113_0) (.seq (.seq (.reg g113_1) (.cond (.t 35) (.seq (.reg g113_2) (.ret)) (.skip))) (.seq (.reg g113_3) (.seq (.seq (.reg g113_4) (.cond (.t 51) (.reg g113_5) (.skip))) (.seq (.reg g113_6) (.ret)))))
def o113 : List RR := [.tmp 4]
theorem k113 : KK 71 r113 Tryz.f113 := by decide +kernel
theorem q113 : QQ Tryz.f113 o113 := by decide +kernel
def g32_0 : IL := [⟨some 1, .boxN 1 (.t 0), none⟩, ⟨some 2, .val (.mov (.c (.bool false))), none⟩]
def g32_1 : IL := [⟨some 3, .val (.mov (.c (.bool true))), none⟩]
def g32_2 : IL := [⟨some 4, .val (.mov (.c (.int .i64 0))), none⟩]
def g32_3 : IL := [⟨some 8, .val (.mov (.t 4)), none⟩, ⟨some 9, .val (.faddr 0 (.t 1)), none⟩, ⟨some 10, .val (.load none (.t 9)), none⟩, ⟨some 11, .val (.len 1 (.t 10)), none⟩, ⟨some 12, .val (.bin .num .lss (.t 8) (.t 11)), none⟩]
def g32_5 : IL := [⟨some 15, .val (.mov (.t 3)), none⟩, ⟨some 16, .val (.mov (.t 15)), none⟩, ⟨some 17, .val (.mov (.t 4)), (some (16, true))⟩, ⟨some 18, .val (.bin .num .eql (.t 17) (.c (.int .i64 0))), (some (16, true))⟩, ⟨some 19, .val (.mov (.t 18)), (some (16, true))⟩, ⟨some 20, .val (.faddr 0 (.t 1)), (some (19, false))⟩, ⟨some 21, .val (.loadv 0 1 none (.t 20)), (some (19, false))⟩, ⟨some 22, .val (.mov (.t 4)), (some (19, false))⟩, ⟨some 23, .val (.bin .num .sub (.t 22) (.c (.int .i64 1))), (some (19, false))⟩, ⟨some 24, .val (.iaddr 3 none (.t 21) (.t 23)), (some (19, false))⟩, ⟨some 25, .val (.faddr 0 (.t 24)), (some (19, false))⟩, ⟨some 26, .val (.loadr none (.t 25)), (some (19, false))⟩, ⟨some 27, .val (.faddr 0 (.t 1)), (some (19, false))⟩, ⟨some 28, .val (.loadv 0 1 none (.t 27)), (some (19, false))⟩, ⟨some 29, .val (.mov (.t 4)), (some (19, false))⟩, ⟨some 30, .val (.iaddr 3 none (.t 28) (.t 29)), (some (19, false))⟩, ⟨some 31, .val (.faddr 0 (.t 30)), (some (19, false))⟩, ⟨some 32, .val (.loadr none (.t 31)), (some (19, false))⟩, ⟨some 33, .val (.bin .str .lss (.t 26) (.t 32)), (some (19, false))⟩, ⟨some 34, .val (.pick (.t 19) (.c (.bool true)) (.t 33)), (some (16, true))⟩, ⟨some 35, .val (.pick (.t 16) (.t 34) (.c (.bool false))), none⟩, ⟨some 3, .val (.mov (.t 35)), none⟩]
def g32_6 : IL := [⟨some 5, .val (.mov (.c (.int .i64 1))), none⟩]
def g32_7 : IL := [⟨some 36, .val (.mov (.t 5)), none⟩, ⟨some 37, .val (.faddr 0 (.t 1)), none⟩, ⟨some 38, .val (.load none (.t 37)), none⟩, ⟨some 39, .val (.mov (.t 4)), none⟩, ⟨some 40, .val (.iaddr 3 none (.t 38) (.t 39)), none⟩, ⟨some 41, .val (.faddr 1 (.t 40)), none⟩, ⟨some 42, .val (.load none (.t 41)), none⟩, ⟨some 43, .val (.len 1 (.t 42)), none⟩, ⟨some 44, .val (.bin .num .lss (.t 36) (.t 43)), none⟩]
def g32_9 : IL := [⟨some 47, .val (.mov (.t 3)), none⟩, ⟨some 48, .val (.mov (.t 47)), none⟩, ⟨some 49, .val (.faddr 0 (.t 1)), (some (48, true))⟩, ⟨some 50, .val (.loadv 0 1 none (.t 49)), (some (48, true))⟩, ⟨some 51, .val (.mov (.t 4)), (some (48, true))⟩, ⟨some 52, .val (.iaddr 3 none (.t 50) (.t 51)), (some (48, true))⟩, ⟨some 53, .val (.faddr 1 (.t 52)), (some (48, true))⟩, ⟨some 54, .val (.loadr none (.t 53)), (some (48, true))⟩, ⟨some 55, .val (.mov (.t 5)), (some (48, true))⟩, ⟨some 56, .val (.bin .num .sub (.t 55) (.c (.int .i64 1))), (some (48, true))⟩, ⟨some 57, .val (.iaddr 8 none (.t 54) (.t 56)), (some (48, true))⟩, ⟨some 58, .val (.faddr 0 (.t 57)), (some (48, true))⟩, ⟨some 59, .val (.loadr none (.t 58)), (some (48, true))⟩, ⟨some 60, .val (.faddr 0 (.t 1)), (some (48, true))⟩, ⟨some 61, .val (.loadv 0 1 none (.t 60)), (some (48, true))⟩, ⟨some 62, .val (.mov (.t 4)), (some (48, true))⟩, ⟨some 63, .val (.iaddr 3 none (.t 61) (.t 62)), (some (48, true))⟩, ⟨some 64, .val (.faddr 1 (.t 63)), (some (48, true))⟩, ⟨some 65, .val (.loadr none (.t 64)), (some (48, true))⟩, ⟨some 66, .val (.mov (.t 5)), (some (48, true))⟩, ⟨some 67, .val (.iaddr 8 none (.t 65) (.t 66)), (some (48, true))⟩, ⟨some 68, .val (.faddr 0 (.t 67)), (some (48, true))⟩, ⟨some 69, .val (.loadr none (.t 68)), (some (48, true))⟩, ⟨some 70, .val (.bin .num .lss (.t 59) (.t 69)), (some (48, true))⟩, ⟨some 71, .val (.pick (.t 48) (.t 70) (.c (.bool false))), none⟩, ⟨some 3, .val (.mov (.t 71)), none⟩]
def g32_8 : IL := [⟨some 45, .val (.mov (.t 5)), none⟩, ⟨some 46, .val (.bin .num .add (.t 45) (.c (.int .i64 1))), none⟩, ⟨some 5, .val (.mov (.t 46)), none⟩]
def l32_0 : RC := .seq (.seq (.reg g32_7) (.cond (.t 44) (.skip) (.exit 2))) (.seq (.block 3 (.draw g32_9)) (.reg g32_8))
def g32_4 : IL := [⟨some 13, .val (.mov (.t 4)), none⟩, ⟨some 14, .val (.bin .num .add (.t 13) (.c (.int .i64 1))), none⟩, ⟨some 4, .val (.mov (.t 14)), none⟩]
def l32_1 : RC := .seq (.seq (.reg g32_3) (.cond (.t 12) (.skip) (.exit 0))) (.seq (.block 1 (.seq (.draw g32_5) (.seq (.reg g32_6) (.block 2 (.loop l32_0))))) (.reg g32_4))
def g32_10 : IL := [⟨some 6, .val (.mov (.c (.int .i64 0))), none⟩]
def g32_11 : IL := [⟨some 72, .val (.mov (.t 6)), none⟩, ⟨some 73, .val (.faddr 1 (.t 1)), none⟩, ⟨some 74, .val (.load none (.t 73)), none⟩, ⟨some 75, .val (.len 1 (.t 74)), none⟩, ⟨some 76, .val (.bin .num .lss (.t 72) (.t 75)), none⟩]
def g32_13 : IL := [⟨some 79, .val (.mov (.t 3)), none⟩, ⟨some 80, .val (.mov (.t 79)), none⟩, ⟨some 81, .val (.mov (.t 6)), (some (80, true))⟩, ⟨some 82, .val (.bin .num .eql (.t 81) (.c (.int .i64 0))), (some (80, true))⟩, ⟨some 83, .val (.mov (.t 82)), (some (80, true))⟩, ⟨some 84, .val (.faddr 1 (.t 1)), (some (83, false))⟩, ⟨some 85, .val (.loadv 0 1 none (.t 84)), (some (83, false))⟩, ⟨some 86, .val (.mov (.t 6)), (some (83, false))⟩, ⟨some 87, .val (.bin .num .sub (.t 86) (.c (.int .i64 1))), (some (83, false))⟩, ⟨some 88, .val (.iaddr 5 none (.t 85) (.t 87)), (some (83, false))⟩, ⟨some 89, .val (.faddr 0 (.t 88)), (some (83, false))⟩, ⟨some 90, .val (.loadr none (.t 89)), (some (83, false))⟩, ⟨some 91, .val (.faddr 1 (.t 1)), (some (83, false))⟩, ⟨some 92, .val (.loadv 0 1 none (.t 91)), (some (83, false))⟩, ⟨some 93, .val (.mov (.t 6)), (some (83, false))⟩, ⟨some 94, .val (.iaddr 5 none (.t 92) (.t 93)), (some (83, false))⟩, ⟨some 95, .val (.faddr 0 (.t 94)), (some (83, false))⟩, ⟨some 96, .val (.loadr none (.t 95)), (some (83, false))⟩, ⟨some 97, .val (.bin .str .lss (.t 90) (.t 96)), (some (83, false))⟩, ⟨some 98, .val (.pick (.t 83) (.c (.bool true)) (.t 97)), (some (80, true))⟩, ⟨some 99, .val (.pick (.t 80) (.t 98) (.c (.bool false))), none⟩, ⟨some 3, .val (.mov (.t 99)), none⟩]
def g32_14 : IL := [⟨some 7, .val (.mov (.c (.int .i64 1))), none⟩]
def g32_15 : IL := [⟨some 100, .val (.mov (.t 7)), none⟩, ⟨some 101, .val (.faddr 1 (.t 1)), none⟩, ⟨some 102, .val (.load none (.t 101)), none⟩, ⟨some 103, .val (.mov (.t 6)), none⟩, ⟨some 104, .val (.iaddr 5 none (.t 102) (.t 103)), none⟩, ⟨some 105, .val (.faddr 2 (.t 104)), none⟩, ⟨some 106, .val (.load none (.t 105)), none⟩, ⟨some 107, .val (.len 1 (.t 106)), none⟩, ⟨some 108, .val (.bin .num .lss (.t 100) (.t 107)), none⟩]
def g32_17 : IL := [⟨some 111, .val (.mov (.t 3)), none⟩, ⟨some 112, .val (.mov (.t 111)), none⟩, ⟨some 113, .val (.faddr 1 (.t 1)), (some (112, true))⟩, ⟨some 114, .val (.loadv 0 1 none (.t 113)), (some (112, true))⟩, ⟨some 115, .val (.mov (.t 6)), (some (112, true))⟩, ⟨some 116, .val (.iaddr 5 none (.t 114) (.t 115)), (some (112, true))⟩, ⟨some 117, .val (.faddr 2 (.t 116)), (some (112, true))⟩, ⟨some 118, .val (.loadr none (.t 117)), (some (112, true))⟩, ⟨some 119, .val (.mov (.t 7)), (some (112, true))⟩, ⟨some 120, .val (.bin .num .sub (.t 119) (.c (.int .i64 1))), (some (112, true))⟩, ⟨some 121, .val (.iaddr 3 none (.t 118) (.t 120)), (some (112, true))⟩, ⟨some 122, .val (.faddr 1 (.t 121)), (some (112, true))⟩, ⟨some 123, .val (.loadr none (.t 122)), (some (112, true))⟩, ⟨some 124, .val (.faddr 1 (.t 1)), (some (112, true))⟩, ⟨some 125, .val (.loadv 0 1 none (.t 124)), (some (112, true))⟩, ⟨some 126, .val (.mov (.t 6)), (some (112, true))⟩, ⟨some 127, .val (.iaddr 5 none (.t 125) (.t 126)), (some (112, true))⟩, ⟨some 128, .val (.faddr 2 (.t 127)), (some (112, true))⟩, ⟨some 129, .val (.loadr none (.t 128)), (some (112, true))⟩, ⟨some 130, .val (.mov (.t 7)), (some (112, true))⟩, ⟨some 131, .val (.iaddr 3 none (.t 129) (.t 130)), (some (112, true))⟩, ⟨some 132, .val (.faddr 1 (.t 131)), (some (112, true))⟩, ⟨some 133, .val (.loadr none (.t 132)), (some (112, true))⟩, ⟨some 134, .val (.bin .num .lss (.t 123) (.t 133)), (some (112, true))⟩, ⟨some 135, .val (.pick (.t 112) (.t 134) (.c (.bool false))), none⟩, ⟨some 3, .val (.mov (.t 135)), none⟩]
def g32_16 : IL := [⟨some 109, .val (.mov (.t 7)), none⟩, ⟨some 110, .val (.bin .num .add (.t 109) (.c (.int .i64 1))), none⟩, ⟨some 7, .val (.mov (.t 110)), none⟩]
def l32_2 : RC := .seq (.seq (.reg g32_15) (.cond (.t 108) (.skip) (.exit 6))) (.seq (.block 7 (.draw g32_17)) (.reg g32_16))
def g32_12 : IL := [⟨some 77, .val (.mov (.t 6)), none⟩, ⟨some 78, .val (.bin .num .add (.t 77) (.c (.int .i64 1))), none⟩, ⟨some 6, .val (.mov (.t 78)), none⟩]
def l32_3 : RC := .seq (.seq (.reg g32_11) (.cond (.t 76) (.skip) (.exit 4))) (.seq (.block 5 (.seq (.draw g32_13) (.seq (.reg g32_14) (.block 6 (.loop l32_2))))) (.reg g32_12))
def g32_18 : IL := [⟨some 136, .val (.mov (.t 3)), none⟩, ⟨some 2, .val (.mov (.t 136)), none⟩]
def r32 : RC := .seq (.reg g32_0) (.seq (.reg g32_1) (.seq (.seq (.reg g32_2) (.block 0 (.loop l32_1))) (.seq (.seq (.reg g32_10) (.block 4 (.loop l32_3))) (.seq (.reg g32_18) (.ret)))))
def o32 : List RR := [.tmp 2]
theorem k32 : KK 137 r32 Tryz.f32 := by decide +kernel
theorem q32 : QQ Tryz.f32 o32 := by decide +kernel
def g34_0 : IL := [⟨some 1, .boxN 1 (.t 0), none⟩, ⟨some 2, .val (.mov (.c (.bool false))), none⟩]
def g34_1 : IL := [⟨some 3, .val (.mov (.c (.bool true))), none⟩]
def g34_2 : IL := [⟨some 4, .val (.mov (.c (.int .i64 0))), none⟩]
def g34_3 : IL := [⟨some 13, .val (.mov (.t 4)), none⟩, ⟨some 14, .val (.faddr 0 (.t 1)), none⟩, ⟨some 15, .val (.load none (.t 14)), none⟩, ⟨some 16, .val (.len 1 (.t 15)), none⟩, ⟨some 17, .val (.bin .num .lss (.t 13) (.t 16)), none⟩]
def g34_5 : IL := [⟨some 5, .val (.mov (.c (.int .i64 0))), none⟩]
def g34_6 : IL := [⟨some 20, .val (.mov (.t 5)), none⟩, ⟨some 21, .val (.faddr 0 (.t 1)), none⟩, ⟨some 22, .val (.load none (.t 21)), none⟩, ⟨some 23, .val (.mov (.t 4)), none⟩, ⟨some 24, .val (.iaddr 3 none (.t 22) (.t 23)), none⟩, ⟨some 25, .val (.faddr 1 (.t 24)), none⟩, ⟨some 26, .val (.load none (.t 25)), none⟩, ⟨some 27, .val (.len 1 (.t 26)), none⟩, ⟨some 28, .val (.bin .num .lss (.t 20) (.t 27)), none⟩]
def g34_8 : IL := [⟨some 31, .val (.faddr 0 (.t 1)), none⟩, ⟨some 32, .val (.load none (.t 31)), none⟩, ⟨some 33, .val (.mov (.t 4)), none⟩, ⟨some 34, .val (.iaddr 3 none (.t 32) (.t 33)), none⟩, ⟨some 35, .val (.faddr 1 (.t 34)), none⟩, ⟨some 36, .val (.load none (.t 35)), none⟩, ⟨some 37, .val (.mov (.t 5)), none⟩, ⟨some 38, .val (.iaddr 8 none (.t 36) (.t 37)), none⟩, ⟨some 39, .val (.faddr 0 (.t 38)), none⟩, ⟨some 40, .val (.load none (.t 39)), none⟩, ⟨some 6, .val (.mov (.t 40)), none⟩]
def g34_9 : IL := [⟨some 41, .val (.mov (.t 3)), none⟩, ⟨some 42, .val (.mov (.t 41)), none⟩, ⟨some 43, .val (.mov (.t 6)), (some (42, true))⟩, ⟨some 44, .val (.bin .num .geq (.t 43) (.c (.int .i64 1))), (some (42, true))⟩, ⟨some 45, .val (.pick (.t 42) (.t 44) (.c (.bool false))), none⟩, ⟨some 46, .val (.mov (.t 45)), none⟩, ⟨some 47, .val (.mov (.t 6)), (some (46, true))⟩, ⟨some 48, .val (.bin .num .leq (.t 47) (.c (.int .i64 65535))), (some (46, true))⟩, ⟨some 49, .val (.pick (.t 46) (.t 48) (.c (.bool false))), none⟩, ⟨some 3, .val (.mov (.t 49)), none⟩]
def g34_7 : IL := [⟨some 29, .val (.mov (.t 5)), none⟩, ⟨some 30, .val (.bin .num .add (.t 29) (.c (.int .i64 1))), none⟩, ⟨some 5, .val (.mov (.t 30)), none⟩]
def l34_0 : RC := .seq (.seq (.reg g34_6) (.cond (.t 28) (.skip) (.exit 2))) (.seq (.block 3 (.seq (.reg g34_8) (.reg g34_9))) (.reg g34_7))
def g34_4 : IL := [⟨some 18, .val (.mov (.t 4)), none⟩, ⟨some 19, .val (.bin .num .add (.t 18) (.c (.int .i64 1))), none⟩, ⟨some 4, .val (.mov (.t 19)), none⟩]
def l34_1 : RC := .seq (.seq (.reg g34_3) (.cond (.t 17) (.skip) (.exit 0))) (.seq (.block 1 (.seq (.reg g34_5) (.block 2 (.loop l34_0)))) (.reg g34_4))
def g34_10 : IL := [⟨some 7, .val (.mov (.c (.int .i64 0))), none⟩]
def g34_11 : IL := [⟨some 50, .val (.mov (.t 7)), none⟩, ⟨some 51, .val (.faddr 1 (.t 1)), none⟩, ⟨some 52, .val (.load none (.t 51)), none⟩, ⟨some 53, .val (.len 1 (.t 52)), none⟩, ⟨some 54, .val (.bin .num .lss (.t 50) (.t 53)), none⟩]
def g34_13 : IL := [⟨some 57, .val (.faddr 1 (.t 1)), none⟩, ⟨some 58, .val (.load none (.t 57)), none⟩, ⟨some 59, .val (.mov (.t 7)), none⟩, ⟨some 60, .val (.iaddr 5 none (.t 58) (.t 59)), none⟩, ⟨some 61, .val (.load (some 5) (.t 60)), none⟩, ⟨some 8, .allocN 8 [.str [], .bool false, .nils, .nils, .nils], none⟩, ⟨none, .store 5 (.t 8) (.t 61), none⟩]
def g34_14 : IL := [⟨some 9, .val (.mov (.c (.int .i64 0))), none⟩]
def g34_15 : IL := [⟨some 62, .val (.mov (.t 9)), none⟩, ⟨some 63, .val (.faddr 2 (.t 8)), none⟩, ⟨some 64, .val (.load none (.t 63)), none⟩, ⟨some 65, .val (.len 1 (.t 64)), none⟩, ⟨some 66, .val (.bin .num .lss (.t 62) (.t 65)), none⟩]
def g34_17 : IL := [⟨some 69, .val (.faddr 2 (.t 8)), none⟩, ⟨some 70, .val (.load none (.t 69)), none⟩, ⟨some 71, .val (.mov (.t 9)), none⟩, ⟨some 72, .val (.iaddr 3 none (.t 70) (.t 71)), none⟩, ⟨some 73, .val (.faddr 1 (.t 72)), none⟩, ⟨some 74, .val (.load none (.t 73)), none⟩, ⟨some 10, .val (.mov (.t 74)), none⟩]
def g34_18 : IL := [⟨some 75, .val (.mov (.t 3)), none⟩, ⟨some 76, .val (.mov (.t 75)), none⟩, ⟨some 77, .val (.mov (.t 10)), (some (76, true))⟩, ⟨some 78, .val (.bin .num .leq (.t 77) (.c (.int .i64 2147483647))), (some (76, true))⟩, ⟨some 79, .val (.pick (.t 76) (.t 78) (.c (.bool false))), none⟩, ⟨some 80, .val (.mov (.t 79)), none⟩, ⟨some 81, .val (.mov (.t 9)), (some (80, true))⟩, ⟨some 82, .val (.bin .num .gtr (.t 81) (.c (.int .i64 0))), (some (80, true))⟩, ⟨some 83, .val (.mov (.t 82)), (some (80, true))⟩, ⟨some 84, .val (.mov (.t 10)), (some (83, false))⟩, ⟨some 85, .val (.bin .num .eql (.t 84) (.c (.int .i64 0))), (some (83, false))⟩, ⟨some 86, .val (.pick (.t 83) (.c (.bool true)) (.t 85)), (some (80, true))⟩, ⟨some 87, .val (.pick (.t 80) (.t 86) (.c (.bool false))), none⟩, ⟨some 88, .val (.mov (.t 87)), none⟩, ⟨some 89, .val (.faddr 3 (.t 8)), (some (88, true))⟩, ⟨some 90, .val (.load none (.t 89)), (some (88, true))⟩, ⟨some 91, .val (.mov (.t 10)), (some (88, true))⟩, ⟨some 92, .call (.f 110) [(.t 90), (.t 91)], (some (88, true))⟩, ⟨some 93, .val (.un .not (.t 92)), (some (88, true))⟩, ⟨some 94, .val (.pick (.t 88) (.t 93) (.c (.bool false))), none⟩, ⟨some 3, .val (.mov (.t 94)), none⟩]
def g34_16 : IL := [⟨some 67, .val (.mov (.t 9)), none⟩, ⟨some 68, .val (.bin .num .add (.t 67) (.c (.int .i64 1))), none⟩, ⟨some 9, .val (.mov (.t 68)), none⟩]
def l34_2 : RC := .seq (.seq (.reg g34_15) (.cond (.t 66) (.skip) (.exit 6))) (.seq (.block 7 (.seq (.reg g34_17) (.reg g34_18))) (.reg g34_16))
def g34_19 : IL := [⟨some 11, .val (.mov (.c (.int .i64 0))), none⟩]
def g34_20 : IL := [⟨some 95, .val (.mov (.t 11)), none⟩, ⟨some 96, .val (.faddr 3 (.t 8)), none⟩, ⟨some 97, .val (.load none (.t 96)), none⟩, ⟨some 98, .val (.len 1 (.t 97)), none⟩, ⟨some 99, .val (.bin .num .lss (.t 95) (.t 98)), none⟩]
def g34_22 : IL := [⟨some 102, .val (.faddr 3 (.t 8)), none⟩, ⟨some 103, .val (.load none (.t 102)), none⟩, ⟨some 104, .val (.mov (.t 11)), none⟩, ⟨some 105, .val (.iaddr 2 none (.t 103) (.t 104)), none⟩, ⟨some 106, .val (.load (some 2) (.t 105)), none⟩, ⟨some 12, .allocN 12 [.int .i64 0, .int .i64 0], none⟩, ⟨none, .store 2 (.t 12) (.t 106), none⟩]
def g34_23 : IL := [⟨some 107, .val (.mov (.t 3)), none⟩, ⟨some 108, .val (.mov (.t 107)), none⟩, ⟨some 109, .val (.faddr 0 (.t 12)), (some (108, true))⟩, ⟨some 110, .val (.loadv 0 12 none (.t 109)), (some (108, true))⟩, ⟨some 111, .val (.bin .num .geq (.t 110) (.c (.int .i64 0))), (some (108, true))⟩, ⟨some 112, .val (.pick (.t 108) (.t 111) (.c (.bool false))), none⟩, ⟨some 113, .val (.mov (.t 112)), none⟩, ⟨some 114, .val (.faddr 1 (.t 12)), (some (113, true))⟩, ⟨some 115, .val (.loadv 0 12 none (.t 114)), (some (113, true))⟩, ⟨some 116, .val (.bin .num .leq (.t 115) (.c (.int .i64 2147483647))), (some (113, true))⟩, ⟨some 117, .val (.pick (.t 113) (.t 116) (.c (.bool false))), none⟩, ⟨some 118, .val (.mov (.t 117)), none⟩, ⟨some 119, .val (.faddr 0 (.t 12)), (some (118, true))⟩, ⟨some 120, .val (.loadv 0 12 none (.t 119)), (some (118, true))⟩, ⟨some 121, .val (.faddr 1 (.t 12)), (some (118, true))⟩, ⟨some 122, .val (.loadv 0 12 none (.t 121)), (some (118, true))⟩, ⟨some 123, .val (.bin .num .leq (.t 120) (.t 122)), (some (118, true))⟩, ⟨some 124, .val (.pick (.t 118) (.t 123) (.c (.bool false))), none⟩, ⟨some 125, .val (.mov (.t 124)), none⟩, ⟨some 126, .val (.mov (.t 11)), (some (125, true))⟩, ⟨some 127, .val (.bin .num .eql (.t 126) (.c (.int .i64 0))), (some (125, true))⟩, ⟨some 128, .val (.mov (.t 127)), (some (125, true))⟩, ⟨some 129, .val (.faddr 0 (.t 12)), (some (128, false))⟩, ⟨some 130, .val (.loadv 0 12 none (.t 129)), (some (128, false))⟩, ⟨some 131, .val (.faddr 3 (.t 8)), (some (128, false))⟩, ⟨some 132, .val (.loadv 0 8 none (.t 131)), (some (128, false))⟩, ⟨some 133, .val (.mov (.t 11)), (some (128, false))⟩, ⟨some 134, .val (.bin .num .sub (.t 133) (.c (.int .i64 1))), (some (128, false))⟩, ⟨some 135, .val (.iaddr 2 none (.t 132) (.t 134)), (some (128, false))⟩, ⟨some 136, .val (.faddr 1 (.t 135)), (some (128, false))⟩, ⟨some 137, .val (.loadr none (.t 136)), (some (128, false))⟩, ⟨some 138, .val (.bin .num .gtr (.t 130) (.t 137)), (some (128, false))⟩, ⟨some 139, .val (.pick (.t 128) (.c (.bool true)) (.t 138)), (some (125, true))⟩, ⟨some 140, .val (.pick (.t 125) (.t 139) (.c (.bool false))), none⟩, ⟨some 3, .val (.mov (.t 140)), none⟩]
def g34_21 : IL := [⟨some 100, .val (.mov (.t 11)), none⟩, ⟨some 101, .val (.bin .num .add (.t 100) (.c (.int .i64 1))), none⟩, ⟨some 11, .val (.mov (.t 101)), none⟩]
def l34_3 : RC := .gho (.drop 12) (.seq (.seq (.reg g34_20) (.cond (.t 99) (.skip) (.exit 8))) (.seq (.block 9 (.seq (.reg g34_22) (.draw g34_23))) (.reg g34_21)))
def g34_12 : IL := [⟨some 55, .val (.mov (.t 7)), none⟩, ⟨some 56, .val (.bin .num .add (.t 55) (.c (.int .i64 1))), none⟩, ⟨some 7, .val (.mov (.t 56)), none⟩]
def l34_4 : RC := .gho (.drop 12) (.gho (.drop 8) (.seq (.seq (.reg g34_11) (.cond (.t 54) (.skip) (.exit 4))) (.seq (.block 5 (.seq (.reg g34_13) (.seq (.seq (.reg g34_14) (.block 6 (.loop l34_2))) (.seq (.reg g34_19) (.block 8 (.loop l34_3)))))) (.reg g34_12))))
def g34_24 : IL := [⟨some 141, .val (.mov (.t 3)), none⟩, ⟨some 2, .val (.mov (.t 141)), none⟩]
def r34 : RC := .seq (.reg g34_0) (.seq (.reg g34_1) (.seq (.seq (.reg g34_2) (.block 0 (.loop l34_1))) (.seq (.seq (.reg g34_10) (.block 4 (.loop l34_4))) (.seq (.reg g34_24) (.ret)))))
def o34 : List RR := [.tmp 2]
theorem k34 : KK 142 r34 Tryz.f34 := by decide +kernel
theorem q34 : QQ Tryz.f34 o34 := by decide +kernel
def g109_0 : IL := [⟨some 2, .val (.mov (.c (.bool false))), none⟩]
def g109_1 : IL := [⟨some 3, .val (.mov (.t 0)), none⟩, ⟨some 4, .call (.f 165) [(.t 3)], none⟩, ⟨some 5, .val (.mov (.t 4)), none⟩, ⟨some 6, .val (.mov (.t 0)), (some (5, true))⟩, ⟨some 7, .call (.f 164) [(.t 6)], (some (5, true))⟩, ⟨some 8, .val (.un .not (.t 7)), (some (5, true))⟩, ⟨some 9, .val (.pick (.t 5) (.t 8) (.c (.bool false))), none⟩, ⟨some 2, .val (.mov (.t 9)), none⟩]
def r109 : RC := .seq (.reg g109_0) (.seq (.reg g109_1) (.ret))
def o109 : List RR := [.tmp 2]
theorem k109 : KK 10 r109 Tryz.f109 := by decide +kernel
theorem q109 : QQ Tryz.f109 o109 := by decide +kernel
def g33_0 : IL := [⟨some 1, .boxN 1 (.t 0), none⟩, ⟨some 2, .val (.mov (.c (.bool false))), none⟩]
def g33_1 : IL := [⟨some 3, .val (.mov (.c (.bool true))), none⟩]
def g33_2 : IL := [⟨some 4, .val (.mov (.c (.int .i64 0))), none⟩]
def g33_3 : IL := [⟨some 13, .val (.mov (.t 4)), none⟩, ⟨some 14, .val (.faddr 0 (.t 1)), none⟩, ⟨some 15, .val (.load none (.t 14)), none⟩, ⟨some 16, .val (.len 1 (.t 15)), none⟩, ⟨some 17, .val (.bin .num .lss (.t 13) (.t 16)), none⟩]
def g33_5 : IL := [⟨some 5, .val (.mov (.c (.int .i64 0))), none⟩]
def g33_6 : IL := [⟨some 20, .val (.mov (.t 5)), none⟩, ⟨some 21, .val (.faddr 1 (.t 1)), none⟩, ⟨some 22, .val (.load none (.t 21)), none⟩, ⟨some 23, .val (.len 1 (.t 22)), none⟩, ⟨some 24, .val (.bin .num .lss (.t 20) (.t 23)), none⟩]
def g33_8 : IL := [⟨some 27, .val (.mov (.t 3)), none⟩, ⟨some 28, .val (.mov (.t 27)), none⟩, ⟨some 29, .val (.faddr 0 (.t 1)), (some (28, true))⟩, ⟨some 30, .val (.loadv 0 1 none (.t 29)), (some (28, true))⟩, ⟨some 31, .val (.mov (.t 4)), (some (28, true))⟩, ⟨some 32, .val (.iaddr 3 none (.t 30) (.t 31)), (some (28, true))⟩, ⟨some 33, .val (.faddr 0 (.t 32)), (some (28, true))⟩, ⟨some 34, .val (.loadr none (.t 33)), (some (28, true))⟩, ⟨some 35, .val (.faddr 1 (.t 1)), (some (28, true))⟩, ⟨some 36, .val (.loadv 0 1 none (.t 35)), (some (28, true))⟩, ⟨some 37, .val (.mov (.t 5)), (some (28, true))⟩, ⟨some 38, .val (.iaddr 5 none (.t 36) (.t 37)), (some (28, true))⟩, ⟨some 39, .val (.faddr 0 (.t 38)), (some (28, true))⟩, ⟨some 40, .val (.loadr none (.t 39)), (some (28, true))⟩, ⟨some 41, .val (.bin .str .neq (.t 34) (.t 40)), (some (28, true))⟩, ⟨some 42, .val (.pick (.t 28) (.t 41) (.c (.bool false))), none⟩, ⟨some 3, .val (.mov (.t 42)), none⟩]
def g33_7 : IL := [⟨some 25, .val (.mov (.t 5)), none⟩, ⟨some 26, .val (.bin .num .add (.t 25) (.c (.int .i64 1))), none⟩, ⟨some 5, .val (.mov (.t 26)), none⟩]
def l33_0 : RC := .seq (.seq (.reg g33_6) (.cond (.t 24) (.skip) (.exit 2))) (.seq (.block 3 (.draw g33_8)) (.reg g33_7))
def g33_9 : IL := [⟨some 43, .val (.faddr 0 (.t 1)), none⟩, ⟨some 44, .val (.load none (.t 43)), none⟩, ⟨some 45, .val (.mov (.t 4)), none⟩, ⟨some 46, .val (.iaddr 3 none (.t 44) (.t 45)), none⟩, ⟨some 47, .val (.faddr 1 (.t 46)), none⟩, ⟨some 48, .val (.load none (.t 47)), none⟩, ⟨some 6, .val (.mov (.t 48)), none⟩]
def g33_10 : IL := [⟨some 7, .val (.mov (.c (.int .i64 0))), none⟩]
def g33_11 : IL := [⟨some 49, .val (.mov (.t 7)), none⟩, ⟨some 50, .val (.mov (.t 6)), none⟩, ⟨some 51, .val (.len 1 (.t 50)), none⟩, ⟨some 52, .val (.bin .num .lss (.t 49) (.t 51)), none⟩]
def g33_13 : IL := [⟨some 8, .val (.mov (.c (.int .i64 0))), none⟩]
def g33_14 : IL := [⟨some 55, .val (.mov (.t 8)), none⟩, ⟨some 56, .val (.mov (.t 7)), none⟩, ⟨some 57, .val (.bin .num .lss (.t 55) (.t 56)), none⟩]
def g33_16 : IL := [⟨some 60, .val (.mov (.t 3)), none⟩, ⟨some 61, .val (.mov (.t 60)), none⟩, ⟨some 62, .val (.mov (.t 6)), (some (61, true))⟩, ⟨some 63, .val (.mov (.t 8)), (some (61, true))⟩, ⟨some 64, .val (.iaddr 8 none (.t 62) (.t 63)), (some (61, true))⟩, ⟨some 65, .val (.faddr 1 (.t 64)), (some (61, true))⟩, ⟨some 66, .val (.loadr none (.t 65)), (some (61, true))⟩, ⟨some 67, .val (.mov (.t 6)), (some (61, true))⟩, ⟨some 68, .val (.mov (.t 7)), (some (61, true))⟩, ⟨some 69, .val (.iaddr 8 none (.t 67) (.t 68)), (some (61, true))⟩, ⟨some 70, .val (.faddr 1 (.t 69)), (some (61, true))⟩, ⟨some 71, .val (.loadr none (.t 70)), (some (61, true))⟩, ⟨some 72, .val (.bin .str .neq (.t 66) (.t 71)), (some (61, true))⟩, ⟨some 73, .val (.pick (.t 61) (.t 72) (.c (.bool false))), none⟩, ⟨some 3, .val (.mov (.t 73)), none⟩]
def g33_15 : IL := [⟨some 58, .val (.mov (.t 8)), none⟩, ⟨some 59, .val (.bin .num .add (.t 58) (.c (.int .i64 1))), none⟩, ⟨some 8, .val (.mov (.t 59)), none⟩]
def l33_1 : RC := .seq (.seq (.reg g33_14) (.cond (.t 57) (.skip) (.exit 6))) (.seq (.block 7 (.draw g33_16)) (.reg g33_15))
def g33_12 : IL := [⟨some 53, .val (.mov (.t 7)), none⟩, ⟨some 54, .val (.bin .num .add (.t 53) (.c (.int .i64 1))), none⟩, ⟨some 7, .val (.mov (.t 54)), none⟩]
def l33_2 : RC := .seq (.seq (.reg g33_11) (.cond (.t 52) (.skip) (.exit 4))) (.seq (.block 5 (.seq (.reg g33_13) (.block 6 (.loop l33_1)))) (.reg g33_12))
def g33_4 : IL := [⟨some 18, .val (.mov (.t 4)), none⟩, ⟨some 19, .val (.bin .num .add (.t 18) (.c (.int .i64 1))), none⟩, ⟨some 4, .val (.mov (.t 19)), none⟩]
def l33_3 : RC := .seq (.seq (.reg g33_3) (.cond (.t 17) (.skip) (.exit 0))) (.seq (.block 1 (.seq (.seq (.reg g33_5) (.block 2 (.loop l33_0))) (.seq (.reg g33_9) (.seq (.reg g33_10) (.block 4 (.loop l33_2)))))) (.reg g33_4))
def g33_17 : IL := [⟨some 9, .val (.mov (.c (.int .i64 0))), none⟩]
def g33_18 : IL := [⟨some 74, .val (.mov (.t 9)), none⟩, ⟨some 75, .val (.faddr 1 (.t 1)), none⟩, ⟨some 76, .val (.load none (.t 75)), none⟩, ⟨some 77, .val (.len 1 (.t 76)), none⟩, ⟨some 78, .val (.bin .num .lss (.t 74) (.t 77)), none⟩]
def g33_20 : IL := [⟨some 81, .val (.faddr 1 (.t 1)), none⟩, ⟨some 82, .val (.load none (.t 81)), none⟩, ⟨some 83, .val (.mov (.t 9)), none⟩, ⟨some 84, .val (.iaddr 5 none (.t 82) (.t 83)), none⟩, ⟨some 85, .val (.faddr 2 (.t 84)), none⟩, ⟨some 86, .val (.load none (.t 85)), none⟩, ⟨some 10, .val (.mov (.t 86)), none⟩]
def g33_21 : IL := [⟨some 11, .val (.mov (.c (.int .i64 0))), none⟩]
def g33_22 : IL := [⟨some 87, .val (.mov (.t 11)), none⟩, ⟨some 88, .val (.mov (.t 10)), none⟩, ⟨some 89, .val (.len 1 (.t 88)), none⟩, ⟨some 90, .val (.bin .num .lss (.t 87) (.t 89)), none⟩]
def g33_24 : IL := [⟨some 12, .val (.mov (.c (.int .i64 0))), none⟩]
def g33_25 : IL := [⟨some 93, .val (.mov (.t 12)), none⟩, ⟨some 94, .val (.mov (.t 11)), none⟩, ⟨some 95, .val (.bin .num .lss (.t 93) (.t 94)), none⟩]
def g33_27 : IL := [⟨some 98, .val (.mov (.t 3)), none⟩, ⟨some 99, .val (.mov (.t 98)), none⟩, ⟨some 100, .val (.mov (.t 10)), (some (99, true))⟩, ⟨some 101, .val (.mov (.t 12)), (some (99, true))⟩, ⟨some 102, .val (.iaddr 3 none (.t 100) (.t 101)), (some (99, true))⟩, ⟨some 103, .val (.faddr 0 (.t 102)), (some (99, true))⟩, ⟨some 104, .val (.loadr none (.t 103)), (some (99, true))⟩, ⟨some 105, .val (.mov (.t 10)), (some (99, true))⟩, ⟨some 106, .val (.mov (.t 11)), (some (99, true))⟩, ⟨some 107, .val (.iaddr 3 none (.t 105) (.t 106)), (some (99, true))⟩, ⟨some 108, .val (.faddr 0 (.t 107)), (some (99, true))⟩, ⟨some 109, .val (.loadr none (.t 108)), (some (99, true))⟩, ⟨some 110, .val (.bin .str .neq (.t 104) (.t 109)), (some (99, true))⟩, ⟨some 111, .val (.pick (.t 99) (.t 110) (.c (.bool false))), none⟩, ⟨some 3, .val (.mov (.t 111)), none⟩]
def g33_26 : IL := [⟨some 96, .val (.mov (.t 12)), none⟩, ⟨some 97, .val (.bin .num .add (.t 96) (.c (.int .i64 1))), none⟩, ⟨some 12, .val (.mov (.t 97)), none⟩]
def l33_4 : RC := .seq (.seq (.reg g33_25) (.cond (.t 95) (.skip) (.exit 12))) (.seq (.block 13 (.draw g33_27)) (.reg g33_26))
def g33_23 : IL := [⟨some 91, .val (.mov (.t 11)), none⟩, ⟨some 92, .val (.bin .num .add (.t 91) (.c (.int .i64 1))), none⟩, ⟨some 11, .val (.mov (.t 92)), none⟩]
def l33_5 : RC := .seq (.seq (.reg g33_22) (.cond (.t 90) (.skip) (.exit 10))) (.seq (.block 11 (.seq (.reg g33_24) (.block 12 (.loop l33_4)))) (.reg g33_23))
def g33_19 : IL := [⟨some 79, .val (.mov (.t 9)), none⟩, ⟨some 80, .val (.bin .num .add (.t 79) (.c (.int .i64 1))), none⟩, ⟨some 9, .val (.mov (.t 80)), none⟩]
def l33_6 : RC := .seq (.seq (.reg g33_18) (.cond (.t 78) (.skip) (.exit 8))) (.seq (.block 9 (.seq (.reg g33_20) (.seq (.reg g33_21) (.block 10 (.loop l33_5))))) (.reg g33_19))
def g33_28 : IL := [⟨some 112, .val (.mov (.t 3)), none⟩, ⟨some 2, .val (.mov (.t 112)), none⟩]
def r33 : RC := .seq (.reg g33_0) (.seq (.reg g33_1) (.seq (.seq (.reg g33_2) (.block 0 (.loop l33_3))) (.seq (.seq (.reg g33_17) (.block 8 (.loop l33_6))) (.seq (.reg g33_28) (.ret)))))
def o33 : List RR := [.tmp 2]
theorem k33 : KK 113 r33 Tryz.f33 := by decide +kernel
theorem q33 : QQ Tryz.f33 o33 := by decide +kernel
def g170_0 : IL := [⟨some 2, .boxN 2 (.t 0), none⟩, ⟨some 3, .boxN 3 (.t 1), none⟩, ⟨some 4, .val (.mov (.c (.bool false))), none⟩]
def g170_1 : IL := [⟨some 5, .val (.faddr 5 (.t 3)), none⟩, ⟨some 6, .val (.load none (.t 5)), none⟩]
def g170_2 : IL := [⟨some 8, .val (.bin .num .eql (.t 6) (.c (.int .i64 10))), none⟩, ⟨some 7, .val (.mov (.t 8)), none⟩]
def g170_3 : IL := [⟨some 9, .val (.faddr 6 (.t 3)), none⟩, ⟨some 10, .val (.load none (.t 9)), none⟩, ⟨some 11, .val (.bin .num .geq (.t 10) (.c (.int .i64 0))), none⟩, ⟨some 12, .val (.mov (.t 11)), none⟩, ⟨some 13, .val (.faddr 6 (.t 3)), (some (12, true))⟩, ⟨some 14, .val (.load none (.t 13)), (some (12, true))⟩, ⟨some 15, .val (.faddr 0 (.t 2)), (some (12, true))⟩, ⟨some 16, .val (.load none (.t 15)), (some (12, true))⟩, ⟨some 17, .val (.len 1 (.t 16)), (some (12, true))⟩, ⟨some 18, .val (.bin .num .lss (.t 14) (.t 17)), (some (12, true))⟩, ⟨some 19, .val (.pick (.t 12) (.t 18) (.c (.bool false))), none⟩, ⟨some 20, .val (.mov (.t 19)), none⟩, ⟨some 21, .val (.faddr 3 (.t 3)), (some (20, true))⟩, ⟨some 22, .val (.load none (.t 21)), (some (20, true))⟩, ⟨some 23, .val (.bin .num .neq (.t 22) (.c (.int .i64 3))), (some (20, true))⟩, ⟨some 24, .val (.pick (.t 20) (.t 23) (.c (.bool false))), none⟩, ⟨some 4, .val (.mov (.t 24)), none⟩]
def g170_4 : IL := [⟨some 26, .val (.bin .num .eql (.t 6) (.c (.int .i64 9))), none⟩, ⟨some 25, .val (.mov (.t 26)), none⟩]
def g170_5 : IL := [⟨some 27, .val (.faddr 6 (.t 3)), none⟩, ⟨some 28, .val (.load none (.t 27)), none⟩, ⟨some 29, .val (.bin .num .geq (.t 28) (.c (.int .i64 0))), none⟩, ⟨some 30, .val (.mov (.t 29)), none⟩, ⟨some 31, .val (.faddr 6 (.t 3)), (some (30, true))⟩, ⟨some 32, .val (.load none (.t 31)), (some (30, true))⟩, ⟨some 33, .val (.faddr 1 (.t 2)), (some (30, true))⟩, ⟨some 34, .val (.load none (.t 33)), (some (30, true))⟩, ⟨some 35, .val (.len 1 (.t 34)), (some (30, true))⟩, ⟨some 36, .val (.bin .num .lss (.t 32) (.t 35)), (some (30, true))⟩, ⟨some 37, .val (.pick (.t 30) (.t 36) (.c (.bool false))), none⟩, ⟨some 4, .val (.mov (.t 37)), none⟩]
def g170_6 : IL := [⟨some 38, .val (.faddr 6 (.t 3)), none⟩, ⟨some 39, .val (.load none (.t 38)), none⟩, ⟨some 40, .val (.bin .num .eql (.t 39) (.c (.int .i64 (-1)))), none⟩, ⟨some 4, .val (.mov (.t 40)), none⟩]
def r170 : RC := .seq (.reg g170_0) (.seq (.seq (.reg g170_1) (.block 0 (.seq (.reg g170_2) (.cond (.t 7) (.seq (.reg g170_3) (.ret)) (.seq (.reg g170_4) (.cond (.t 25) (.seq (.reg g170_5) (.ret)) (.skip))))))) (.seq (.reg g170_6) (.ret)))
def o170 : List RR := [.tmp 4]
theorem k170 : KK 41 r170 Tryz.f170 := by decide +kernel
theorem q170 : QQ Tryz.f170 o170 := by decide +kernel
def g172_0 : IL := [⟨some 4, .val (.mov (.c (.int .i64 0))), none⟩]
def g172_1 : IL := [⟨some 6, .val (.mov (.t 0)), none⟩, ⟨some 7, .val (.len 1 (.t 6)), none⟩, ⟨some 8, .val (.mov (.c (.int .i64 0))), none⟩]
def g172_2 : IL := [⟨some 9, .val (.bin .num .lss (.t 8) (.t 7)), none⟩]
def g172_3 : IL := [⟨some 10, .val (.mov (.t 8)), none⟩, ⟨some 5, .val (.mov (.t 10)), none⟩]
def g172_4 : IL := [⟨some 11, .val (.mov (.t 1)), none⟩, ⟨some 12, .val (.mov (.t 0)), none⟩, ⟨some 13, .val (.mov (.t 5)), none⟩, ⟨some 14, .val (.iaddr 8 none (.t 12) (.t 13)), none⟩, ⟨some 15, .val (.load (some 8) (.t 14)), none⟩, ⟨some 16, .callF (.t 11) [(.t 15)], none⟩]
def g172_5 : IL := [⟨some 17, .val (.mov (.t 5)), none⟩, ⟨some 4, .val (.mov (.t 17)), none⟩]
def g172_6 : IL := [⟨some 18, .val (.bin .num .add (.t 8) (.c (.int .i64 1))), none⟩, ⟨some 8, .val (.mov (.t 18)), none⟩]
def l172_0 : RC := .seq (.reg g172_2) (.seq (.cond (.t 9) (.skip) (.exit 0)) (.seq (.block 1 (.seq (.reg g172_3) (.seq (.reg g172_4) (.cond (.t 16) (.seq (.reg g172_5) (.ret)) (.skip))))) (.reg g172_6)))
def g172_7 : IL := [⟨some 4, .val (.mov (.c (.int .i64 (-1)))), none⟩]
def r172 : RC := .seq (.reg g172_0) (.seq (.seq (.reg g172_1) (.block 0 (.loop l172_0))) (.seq (.reg g172_7) (.ret)))
def o172 : List RR := [.tmp 4]
theorem k172 : KK 19 r172 Tryz.f172 := by decide +kernel
theorem q172 : QQ Tryz.f172 o172 := by decide +kernel
def g205_0 : IL := [⟨some 4, .val (.mov (.c (.int .i64 0))), none⟩]
def g205_1 : IL := [⟨some 6, .val (.mov (.t 0)), none⟩, ⟨some 7, .val (.len 1 (.t 6)), none⟩, ⟨some 8, .val (.mov (.c (.int .i64 0))), none⟩]
def g205_2 : IL := [⟨some 9, .val (.bin .num .lss (.t 8) (.t 7)), none⟩]
def g205_3 : IL := [⟨some 10, .val (.mov (.t 8)), none⟩, ⟨some 5, .val (.mov (.t 10)), none⟩]
def g205_4 : IL := [⟨some 11, .val (.mov (.t 1)), none⟩, ⟨some 12, .val (.mov (.t 0)), none⟩, ⟨some 13, .val (.mov (.t 5)), none⟩, ⟨some 14, .val (.iaddr 5 none (.t 12) (.t 13)), none⟩, ⟨some 15, .val (.load (some 5) (.t 14)), none⟩, ⟨some 16, .callF (.t 11) [(.t 15)], none⟩]
def g205_5 : IL := [⟨some 17, .val (.mov (.t 5)), none⟩, ⟨some 4, .val (.mov (.t 17)), none⟩]
def g205_6 : IL := [⟨some 18, .val (.bin .num .add (.t 8) (.c (.int .i64 1))), none⟩, ⟨some 8, .val (.mov (.t 18)), none⟩]
def l205_0 : RC := .seq (.reg g205_2) (.seq (.cond (.t 9) (.skip) (.exit 0)) (.seq (.block 1 (.seq (.reg g205_3) (.seq (.reg g205_4) (.cond (.t 16) (.seq (.reg g205_5) (.ret)) (.skip))))) (.reg g205_6)))
def g205_7 : IL := [⟨some 4, .val (.mov (.c (.int .i64 (-1)))), none⟩]
def r205 : RC := .seq (.reg g205_0) (.seq (.seq (.reg g205_1) (.block 0 (.loop l205_0))) (.seq (.reg g205_7) (.ret)))
def o205 : List RR := [.tmp 4]
theorem k205 : KK 19 r205 Tryz.f205 := by decide +kernel
theorem q205 : QQ Tryz.f205 o205 := by decide +kernel
def g212_0 : IL := [⟨some 4, .val (.mov (.c (.int .i64 0))), none⟩]
def g212_1 : IL := [⟨some 6, .val (.mov (.t 0)), none⟩, ⟨some 7, .val (.len 1 (.t 6)), none⟩, ⟨some 8, .val (.mov (.c (.int .i64 0))), none⟩]
def g212_2 : IL := [⟨some 9, .val (.bin .num .lss (.t 8) (.t 7)), none⟩]
def g212_3 : IL := [⟨some 10, .val (.mov (.t 8)), none⟩, ⟨some 5, .val (.mov (.t 10)), none⟩]
def g212_4 : IL := [⟨some 11, .val (.mov (.t 1)), none⟩, ⟨some 12, .val (.mov (.t 0)), none⟩, ⟨some 13, .val (.mov (.t 5)), none⟩, ⟨some 14, .val (.iaddr 3 none (.t 12) (.t 13)), none⟩, ⟨some 15, .val (.load (some 3) (.t 14)), none⟩, ⟨some 16, .callF (.t 11) [(.t 15)], none⟩]
def g212_5 : IL := [⟨some 17, .val (.mov (.t 5)), none⟩, ⟨some 4, .val (.mov (.t 17)), none⟩]
def g212_6 : IL := [⟨some 18, .val (.bin .num .add (.t 8) (.c (.int .i64 1))), none⟩, ⟨some 8, .val (.mov (.t 18)), none⟩]
def l212_0 : RC := .seq (.reg g212_2) (.seq (.cond (.t 9) (.skip) (.exit 0)) (.seq (.block 1 (.seq (.reg g212_3) (.seq (.reg g212_4) (.cond (.t 16) (.seq (.reg g212_5) (.ret)) (.skip))))) (.reg g212_6)))
def g212_7 : IL := [⟨some 4, .val (.mov (.c (.int .i64 (-1)))), none⟩]
def r212 : RC := .seq (.reg g212_0) (.seq (.seq (.reg g212_1) (.block 0 (.loop l212_0))) (.seq (.reg g212_7) (.ret)))
def o212 : List RR := [.tmp 4]
theorem k212 : KK 19 r212 Tryz.f212 := by decide +kernel
theorem q212 : QQ Tryz.f212 o212 := by decide +kernel
def g153_0 : IL := [⟨some 4, .val (.mov (.c (.bool false))), none⟩]
def g153_1 : IL := [⟨some 5, .val (.mov (.t 0)), none⟩, ⟨some 6, .val (.mov (.t 1)), none⟩, ⟨some 7, .callF (.f 212) [(.t 5), (.t 6)], none⟩, ⟨some 8, .val (.bin .num .geq (.t 7) (.c (.int .i64 0))), none⟩, ⟨some 4, .val (.mov (.t 8)), none⟩]
def r153 : RC := .seq (.reg g153_0) (.seq (.reg g153_1) (.ret))
def o153 : List RR := [.tmp 4]
theorem k153 : KK 9 r153 Tryz.f153 := by decide +kernel
theorem q153 : QQ Tryz.f153 o153 := by decide +kernel
def g214_0 : IL := [⟨some 2, .boxN 2 (.t 0), none⟩, ⟨some 3, .val (.mov (.c (.bool false))), none⟩]
def g214_1 : IL := [⟨some 4, .val (.faddr 0 (.t 2)), none⟩, ⟨some 5, .val (.load none (.t 4)), none⟩, ⟨some 6, .val (.load none (.t 1)), none⟩, ⟨some 7, .val (.bin .num .leq (.t 5) (.t 6)), none⟩, ⟨some 8, .val (.mov (.t 7)), none⟩, ⟨some 9, .val (.load none (.t 1)), (some (8, true))⟩, ⟨some 10, .val (.faddr 1 (.t 2)), (some (8, true))⟩, ⟨some 11, .val (.load none (.t 10)), (some (8, true))⟩, ⟨some 12, .val (.bin .num .leq (.t 9) (.t 11)), (some (8, true))⟩, ⟨some 13, .val (.pick (.t 8) (.t 12) (.c (.bool false))), none⟩, ⟨some 3, .val (.mov (.t 13)), none⟩]
def r214 : RC := .seq (.reg g214_0) (.seq (.reg g214_1) (.ret))
def o214 : List RR := [.tmp 3]
theorem k214 : KK 14 r214 Tryz.f214 := by decide +kernel
theorem q214 : QQ Tryz.f214 o214 := by decide +kernel
def g160_0 : IL := [⟨some 4, .boxN 4 (.t 0), none⟩, ⟨some 8, .val (.mov (.c (.int .i64 0))), none⟩]
def g160_1 : IL := [⟨some 12, .call (.f 216) [], none⟩, ⟨some 13, .val (.faddr 0 (.t 4)), none⟩, ⟨some 14, .val (.loadv 0 4 none (.t 13)), none⟩, ⟨some 15, .val (.mgetp true (.agg [.int .i64 0, .int .i64 0]) (.t 12) (.t 14)), none⟩, ⟨some 11, .val (.mov (.t 15)), none⟩, ⟨some 16, .val (.ext (.t 11) 0), none⟩, ⟨some 17, .val (.ext (.t 11) 1), none⟩, ⟨some 9, .allocN 9 [.int .i64 0, .int .i64 0], none⟩, ⟨none, .storev 0 9 2 (.t 9) (.t 16), none⟩, ⟨some 10, .val (.mov (.t 17)), none⟩]
def g160_2 : IL := [⟨some 19, .val (.mov (.t 10)), none⟩, ⟨some 20, .val (.un .not (.t 19)), none⟩, ⟨some 18, .val (.mov (.t 20)), none⟩]
def g160_3 : IL := [⟨some 8, .val (.mov (.c (.int .i64 8))), none⟩]
def g160_4 : IL := [⟨some 22, .val (.mov (.t 1)), none⟩, ⟨some 23, .val (.bin .num .lss (.t 22) (.c (.int .i64 1))), none⟩, ⟨some 24, .val (.mov (.t 23)), none⟩, ⟨some 25, .val (.mov (.t 1)), (some (24, false))⟩, ⟨some 26, .val (.bin .num .gtr (.t 25) (.c (.int .i64 6))), (some (24, false))⟩, ⟨some 27, .val (.pick (.t 24) (.c (.bool true)) (.t 26)), none⟩, ⟨some 28, .val (.mov (.t 27)), none⟩, ⟨some 29, .val (.faddr 1 (.t 9)), (some (28, false))⟩, ⟨some 30, .val (.load none (.t 29)), (some (28, false))⟩, ⟨some 31, .val (.mov (.t 1)), (some (28, false))⟩, ⟨some 32, .val (.bin .num .shr (.t 30) (.t 31)), (some (28, false))⟩, ⟨some 33, .val (.bin .num .and (.t 32) (.c (.int .i64 1))), (some (28, false))⟩, ⟨some 34, .val (.bin .num .eql (.t 33) (.c (.int .i64 0))), (some (28, false))⟩, ⟨some 35, .val (.pick (.t 28) (.c (.bool true)) (.t 34)), none⟩, ⟨some 21, .val (.mov (.t 35)), none⟩]
def g160_5 : IL := [⟨some 8, .val (.mov (.c (.int .i64 1))), none⟩]
def g160_6 : IL := [⟨some 37, .val (.load (some 8) (.t 4)), none⟩, ⟨some 38, .call (.f 217) [(.t 37)], none⟩, ⟨some 39, .val (.un .not (.t 38)), none⟩, ⟨some 36, .val (.mov (.t 39)), none⟩]
def g160_7 : IL := [⟨some 8, .val (.mov (.c (.int .i64 12))), none⟩]
def g160_8 : IL := [⟨some 41, .val (.mov (.t 3)), none⟩, ⟨some 42, .val (.mov (.t 41)), none⟩, ⟨some 43, .val (.faddr 0 (.t 4)), (some (42, true))⟩, ⟨some 44, .val (.load none (.t 43)), (some (42, true))⟩, ⟨some 45, .val (.mov (.t 2)), (some (42, true))⟩, ⟨some 46, .val (.bin .str .lss (.t 44) (.t 45)), (some (42, true))⟩, ⟨some 47, .val (.pick (.t 42) (.t 46) (.c (.bool false))), none⟩, ⟨some 40, .val (.mov (.t 47)), none⟩]
def g160_9 : IL := [⟨some 8, .val (.mov (.c (.int .i64 11))), none⟩]
def g160_10 : IL := [⟨some 49, .val (.mov (.t 3)), none⟩, ⟨some 50, .val (.mov (.t 49)), none⟩, ⟨some 51, .val (.faddr 0 (.t 4)), (some (50, true))⟩, ⟨some 52, .val (.load none (.t 51)), (some (50, true))⟩, ⟨some 53, .val (.mov (.t 2)), (some (50, true))⟩, ⟨some 54, .val (.bin .str .eql (.t 52) (.t 53)), (some (50, true))⟩, ⟨some 55, .val (.pick (.t 50) (.t 54) (.c (.bool false))), none⟩, ⟨some 48, .val (.mov (.t 55)), none⟩]
def g160_11 : IL := [⟨some 8, .val (.mov (.c (.int .i64 9))), none⟩]
def g160_12 : IL := [⟨some 8, .val (.mov (.c (.int .i64 0))), none⟩]
def r160 : RC := .seq (.reg g160_0) (.seq (.draw g160_1) (.seq (.block 0 (.seq (.reg g160_2) (.cond (.t 18) (.seq (.reg g160_3) (.ret)) (.seq (.reg g160_4) (.cond (.t 21) (.seq (.reg g160_5) (.ret)) (.seq (.reg g160_6) (.cond (.t 36) (.seq (.reg g160_7) (.ret)) (.seq (.reg g160_8) (.cond (.t 40) (.seq (.reg g160_9) (.ret)) (.seq (.reg g160_10) (.cond (.t 48) (.seq (.reg g160_11) (.ret)) (.skip)))))))))))) (.seq (.reg g160_12) (.ret))))
def o160 : List RR := [.tmp 8]
theorem k160 : KK 56 r160 Tryz.f160 := by decide +kernel
theorem q160 : QQ Tryz.f160 o160 := by decide +kernel
def g216_0 : IL := [⟨some 0, .val (.mov (.c (.nilm))), none⟩]
def g216_1 : IL := [⟨some 1, .mkm 1, none⟩, ⟨some 2, .val (.build [.int .i64 0, .int .i64 0] [(0, 1, (.c (.int .i64 1))), (1, 1, (.c (.int .i64 126)))]), none⟩, ⟨none, .mput (.t 1) (.c (.str [100, 101, 112, 114, 101, 99, 97, 116, 101, 100])) (.t 2), none⟩, ⟨some 3, .val (.build [.int .i64 0, .int .i64 0] [(0, 1, (.c (.int .i64 7))), (1, 1, (.c (.int .i64 126)))]), none⟩, ⟨none, .mput (.t 1) (.c (.str [100, 111, 99])) (.t 3), none⟩, ⟨some 4, .val (.build [.int .i64 0, .int .i64 0] [(0, 1, (.c (.int .i64 7))), (1, 1, (.c (.int .i64 84)))]), none⟩, ⟨none, .mput (.t 1) (.c (.str [97, 108, 105, 97, 115])) (.t 4), none⟩, ⟨some 5, .val (.build [.int .i64 0, .int .i64 0] [(0, 1, (.c (.int .i64 4))), (1, 1, (.c (.int .i64 84)))]), none⟩, ⟨none, .mput (.t 1) (.c (.str [115, 105, 110, 99, 101])) (.t 5), none⟩, ⟨some 6, .val (.build [.int .i64 0, .int .i64 0] [(0, 1, (.c (.int .i64 4))), (1, 1, (.c (.int .i64 84)))]), none⟩, ⟨none, .mput (.t 1) (.c (.str [117, 110, 116, 105, 108])) (.t 6), none⟩, ⟨some 7, .val (.build [.int .i64 0, .int .i64 0] [(0, 1, (.c (.int .i64 3))), (1, 1, (.c (.int .i64 4)))]), none⟩, ⟨none, .mput (.t 1) (.c (.str [109, 105, 110])) (.t 7), none⟩, ⟨some 8, .val (.build [.int .i64 0, .int .i64 0] [(0, 1, (.c (.int .i64 3))), (1, 1, (.c (.int .i64 4)))]), none⟩, ⟨none, .mput (.t 1) (.c (.str [109, 97, 120])) (.t 8), none⟩, ⟨some 9, .val (.build [.int .i64 0, .int .i64 0] [(0, 1, (.c (.int .i64 4))), (1, 1, (.c (.int .i64 4)))]), none⟩, ⟨none, .mput (.t 1) (.c (.str [108, 101, 110, 103, 116, 104])) (.t 9), none⟩, ⟨some 10, .val (.build [.int .i64 0, .int .i64 0] [(0, 1, (.c (.int .i64 1))), (1, 1, (.c (.int .i64 4)))]), none⟩, ⟨none, .mput (.t 1) (.c (.str [115, 101, 99, 114, 101, 116])) (.t 10), none⟩, ⟨some 11, .val (.build [.int .i64 0, .int .i64 0] [(0, 1, (.c (.int .i64 1))), (1, 1, (.c (.int .i64 64)))]), none⟩, ⟨none, .mput (.t 1) (.c (.str [105, 100, 101, 109, 112, 111, 116, 101, 110, 116])) (.t 11), none⟩, ⟨some 12, .val (.build [.int .i64 0, .int .i64 0] [(0, 1, (.c (.int .i64 4))), (1, 1, (.c (.int .i64 64)))]), none⟩, ⟨none, .mput (.t 1) (.c (.str [116, 105, 109, 101, 111, 117, 116])) (.t 12), none⟩, ⟨some 13, .val (.build [.int .i64 0, .int .i64 0] [(0, 1, (.c (.int .i64 7))), (1, 1, (.c (.int .i64 64)))]), none⟩, ⟨none, .mput (.t 1) (.c (.str [114, 111, 117, 116, 101])) (.t 13), none⟩, ⟨some 14, .val (.build [.int .i64 0, .int .i64 0] [(0, 1, (.c (.int .i64 7))), (1, 1, (.c (.int .i64 34)))]), none⟩, ⟨none, .mput (.t 1) (.c (.str [111, 119, 110, 101, 114])) (.t 14), none⟩, ⟨some 15, .val (.mov (.t 1)), none⟩, ⟨some 0, .val (.mov (.t 15)), none⟩]
def r216 : RC := .seq (.reg g216_0) (.seq (.reg g216_1) (.ret))
def o216 : List RR := [.tmp 0]
theorem k216 : KK 16 r216 Tryz.f216 := by decide +kernel
theorem q216 : QQ Tryz.f216 o216 := by decide +kernel
def g217_0 : IL := [⟨some 1, .boxN 1 (.t 0), none⟩, ⟨some 2, .val (.mov (.c (.bool false))), none⟩]
def g217_1 : IL := [⟨some 4, .val (.faddr 0 (.t 1)), none⟩, ⟨some 5, .val (.load none (.t 4)), none⟩, ⟨some 6, .call (.f 262) [(.t 5)], none⟩, ⟨some 3, .val (.mov (.t 6)), none⟩]
def g217_2 : IL := [⟨some 7, .val (.mov (.t 3)), none⟩, ⟨some 8, .val (.bin .num .neq (.t 7) (.c (.int .i64 0))), none⟩, ⟨some 9, .val (.mov (.t 8)), none⟩, ⟨some 10, .val (.mov (.t 3)), (some (9, true))⟩, ⟨some 11, .val (.faddr 1 (.t 1)), (some (9, true))⟩, ⟨some 12, .val (.load (some 7) (.t 11)), (some (9, true))⟩, ⟨some 13, .call (.f 263) [(.t 10), (.t 12)], (some (9, true))⟩, ⟨some 14, .val (.pick (.t 9) (.t 13) (.c (.bool false))), none⟩, ⟨some 2, .val (.mov (.t 14)), none⟩]
def r217 : RC := .seq (.reg g217_0) (.seq (.reg g217_1) (.seq (.reg g217_2) (.ret)))
def o217 : List RR := [.tmp 2]
theorem k217 : KK 15 r217 Tryz.f217 := by decide +kernel
theorem q217 : QQ Tryz.f217 o217 := by decide +kernel
def g262_0 : IL := [⟨some 2, .val (.mov (.c (.int .i64 0))), none⟩]
def g262_1 : IL := [⟨some 3, .call (.f 216) [], none⟩, ⟨some 4, .val (.mov (.t 0)), none⟩, ⟨some 5, .val (.mget false (.agg [.int .i64 0, .int .i64 0]) (.t 3) (.t 4)), none⟩, ⟨some 6, .val (.fld 0 none (.t 5)), none⟩, ⟨some 2, .val (.mov (.t 6)), none⟩]
def r262 : RC := .seq (.reg g262_0) (.seq (.reg g262_1) (.ret))
def o262 : List RR := [.tmp 2]
theorem k262 : KK 7 r262 Tryz.f262 := by decide +kernel
theorem q262 : QQ Tryz.f262 o262 := by decide +kernel
def g100_0 : IL := [⟨some 2, .val (.mov (.c (.bool false))), none⟩]
def g100_1 : IL := [⟨some 3, .val (.mov (.t 0)), none⟩, ⟨some 4, .call (.f 158) [(.t 3)], none⟩, ⟨some 5, .val (.bin .num .lss (.t 4) (.c (.int .i64 0))), none⟩, ⟨some 2, .val (.mov (.t 5)), none⟩]
def r100 : RC := .seq (.reg g100_0) (.seq (.reg g100_1) (.ret))
def o100 : List RR := [.tmp 2]
theorem k100 : KK 6 r100 Tryz.f100 := by decide +kernel
theorem q100 : QQ Tryz.f100 o100 := by decide +kernel
def g158_0 : IL := [⟨some 2, .val (.mov (.c (.int .i64 0))), none⟩]
def g158_1 : IL := [⟨some 5, .val (.mov (.t 0)), none⟩, ⟨some 6, .rngs 6 (.t 5), none⟩]
def g158_2 : IL := [⟨some 7, .nxts (.t 6), none⟩, ⟨some 8, .val (.ext (.t 7) 0), none⟩]
def g158_3 : IL := [⟨some 9, .val (.ext (.t 7) 1), none⟩, ⟨some 10, .val (.ext (.t 7) 2), none⟩, ⟨some 3, .val (.mov (.t 9)), none⟩, ⟨some 4, .val (.mov (.t 10)), none⟩]
def g158_4 : IL := [⟨some 11, .val (.mov (.t 0)), none⟩, ⟨some 12, .val (.mov (.t 3)), none⟩, ⟨some 13, .val (.mov (.t 4)), none⟩, ⟨some 14, .call (.f 215) [(.t 11), (.t 12), (.t 13)], none⟩]
def g158_5 : IL := [⟨some 15, .val (.mov (.t 3)), none⟩, ⟨some 2, .val (.mov (.t 15)), none⟩]
def l158_0 : RC := .seq (.reg g158_2) (.seq (.cond (.t 8) (.skip) (.exit 0)) (.block 1 (.seq (.reg g158_3) (.seq (.reg g158_4) (.cond (.t 14) (.seq (.reg g158_5) (.ret)) (.skip))))))
def g158_6 : IL := [⟨some 2, .val (.mov (.c (.int .i64 (-1)))), none⟩]
def r158 : RC := .seq (.reg g158_0) (.seq (.seq (.reg g158_1) (.block 0 (.loop l158_0))) (.seq (.reg g158_6) (.ret)))
def o158 : List RR := [.tmp 2]
theorem k158 : KK 16 r158 Tryz.f158 := by decide +kernel
theorem q158 : QQ Tryz.f158 o158 := by decide +kernel
def g215_0 : IL := [⟨some 6, .val (.mov (.c (.bool false))), none⟩]
def g215_1 : IL := [⟨some 7, .val (.mov (.t 2)), none⟩, ⟨some 8, .val (.bin .num .eql (.t 7) (.c (.int .i32 65533))), none⟩, ⟨some 9, .val (.mov (.t 8)), none⟩, ⟨some 10, .val (.mov (.t 0)), (some (9, true))⟩, ⟨some 11, .val (.mov (.t 1)), (some (9, true))⟩, ⟨some 12, .val (.slc none (.t 10) (some (.t 11)) none none), (some (9, true))⟩, ⟨some 13, .call (.f 261) [(.t 12), (.c (.str [239, 191, 189]))], (some (9, true))⟩, ⟨some 14, .val (.un .not (.t 13)), (some (9, true))⟩, ⟨some 15, .val (.pick (.t 9) (.t 14) (.c (.bool false))), none⟩, ⟨some 6, .val (.mov (.t 15)), none⟩]
def r215 : RC := .seq (.reg g215_0) (.seq (.reg g215_1) (.ret))
def o215 : List RR := [.tmp 6]
theorem k215 : KK 16 r215 Tryz.f215 := by decide +kernel
theorem q215 : QQ Tryz.f215 o215 := by decide +kernel
def g261_0 : IL := [⟨some 4, .val (.mov (.c (.bool false))), none⟩]
def g261_1 : IL := [⟨some 5, .val (.mov (.t 0)), none⟩, ⟨some 6, .val (.mov (.t 1)), none⟩, ⟨some 7, .call (.f 287) [(.t 5), (.t 6)], none⟩, ⟨some 4, .val (.mov (.t 7)), none⟩]
def r261 : RC := .seq (.reg g261_0) (.seq (.reg g261_1) (.ret))
def o261 : List RR := [.tmp 4]
theorem k261 : KK 8 r261 Tryz.f261 := by decide +kernel
theorem q261 : QQ Tryz.f261 o261 := by decide +kernel
def g287_0 : IL := [⟨some 4, .val (.mov (.c (.bool false))), none⟩]
def g287_1 : IL := [⟨some 5, .val (.mov (.t 0)), none⟩, ⟨some 6, .val (.len 0 (.t 5)), none⟩, ⟨some 7, .val (.mov (.t 1)), none⟩, ⟨some 8, .val (.len 0 (.t 7)), none⟩, ⟨some 9, .val (.bin .num .geq (.t 6) (.t 8)), none⟩, ⟨some 10, .val (.mov (.t 9)), none⟩, ⟨some 11, .val (.mov (.t 0)), (some (10, true))⟩, ⟨some 12, .val (.mov (.t 1)), (some (10, true))⟩, ⟨some 13, .val (.len 0 (.t 12)), (some (10, true))⟩, ⟨some 14, .val (.slc none (.t 11) none (some (.t 13)) none), (some (10, true))⟩, ⟨some 15, .val (.mov (.t 1)), (some (10, true))⟩, ⟨some 16, .val (.bin .str .eql (.t 14) (.t 15)), (some (10, true))⟩, ⟨some 17, .val (.pick (.t 10) (.t 16) (.c (.bool false))), none⟩, ⟨some 4, .val (.mov (.t 17)), none⟩]
def r287 : RC := .seq (.reg g287_0) (.seq (.reg g287_1) (.ret))
def o287 : List RR := [.tmp 4]
theorem k287 : KK 18 r287 Tryz.f287 := by decide +kernel
theorem q287 : QQ Tryz.f287 o287 := by decide +kernel
def g259_0 : IL := [⟨some 4, .val (.mov (.c (.int .i64 0))), none⟩]
def g259_1 : IL := [⟨some 5, .val (.mov (.t 0)), none⟩, ⟨some 6, .val (.mov (.t 1)), none⟩, ⟨some 7, .call (.f 286) [(.t 5), (.t 6)], none⟩, ⟨some 4, .val (.mov (.t 7)), none⟩]
def r259 : RC := .seq (.reg g259_0) (.seq (.reg g259_1) (.ret))
def o259 : List RR := [.tmp 4]
theorem k259 : KK 8 r259 Tryz.f259 := by decide +kernel
theorem q259 : QQ Tryz.f259 o259 := by decide +kernel
def g286_0 : IL := [⟨some 4, .val (.mov (.c (.int .i64 0))), none⟩]
def g286_1 : IL := [⟨some 14, .val (.mov (.t 1)), none⟩, ⟨some 15, .val (.len 0 (.t 14)), none⟩, ⟨some 5, .val (.mov (.t 15)), none⟩]
def g286_2 : IL := [⟨some 17, .val (.mov (.t 5)), none⟩, ⟨some 18, .val (.bin .num .eql (.t 17) (.c (.int .i64 0))), none⟩, ⟨some 19, .val (.mov (.t 18)), none⟩, ⟨some 20, .val (.mov (.t 1)), (some (19, false))⟩, ⟨some 21, .val (.mov (.t 0)), (some (19, false))⟩, ⟨some 22, .val (.bin .str .eql (.t 20) (.t 21)), (some (19, false))⟩, ⟨some 23, .val (.pick (.t 19) (.c (.bool true)) (.t 22)), none⟩, ⟨some 16, .val (.mov (.t 23)), none⟩]
def g286_3 : IL := [⟨some 4, .val (.mov (.c (.int .i64 0))), none⟩]
def g286_4 : IL := [⟨some 25, .val (.mov (.t 5)), none⟩, ⟨some 26, .val (.bin .num .eql (.t 25) (.c (.int .i64 1))), none⟩, ⟨some 24, .val (.mov (.t 26)), none⟩]
def g286_5 : IL := [⟨some 27, .val (.mov (.t 0)), none⟩, ⟨some 28, .val (.mov (.t 1)), none⟩, ⟨some 29, .val (.idx (.t 28) (.c (.int .i64 0))), none⟩, ⟨some 30, .call (.f 303) [(.t 27), (.t 29)], none⟩, ⟨some 4, .val (.mov (.t 30)), none⟩]
def g286_6 : IL := [⟨some 32, .val (.mov (.t 5)), none⟩, ⟨some 33, .val (.mov (.t 0)), none⟩, ⟨some 34, .val (.len 0 (.t 33)), none⟩, ⟨some 35, .val (.bin .num .geq (.t 32) (.t 34)), none⟩, ⟨some 31, .val (.mov (.t 35)), none⟩]
def g286_7 : IL := [⟨some 4, .val (.mov (.c (.int .i64 (-1)))), none⟩]
def g286_9 : IL := [⟨some 45, .val (.mov (.t 0)), none⟩, ⟨some 46, .val (.mov (.t 1)), none⟩, ⟨some 47, .call (.f 304) [(.t 45), (.t 46)], none⟩, ⟨some 4, .val (.mov (.t 47)), none⟩]
def g286_10 : IL := [⟨some 48, .val (.mov (.t 1)), none⟩, ⟨some 49, .val (.idx (.t 48) (.c (.int .i64 0))), none⟩, ⟨some 6, .val (.mov (.t 49)), none⟩]
def g286_11 : IL := [⟨some 50, .val (.mov (.t 1)), none⟩, ⟨some 51, .val (.idx (.t 50) (.c (.int .i64 1))), none⟩, ⟨some 7, .val (.mov (.t 51)), none⟩]
def g286_12 : IL := [⟨some 8, .val (.mov (.c (.int .i64 0))), none⟩]
def g286_13 : IL := [⟨some 52, .val (.mov (.t 0)), none⟩, ⟨some 53, .val (.len 0 (.t 52)), none⟩, ⟨some 54, .val (.mov (.t 5)), none⟩, ⟨some 55, .val (.bin .num .sub (.t 53) (.t 54)), none⟩, ⟨some 56, .val (.bin .num .add (.t 55) (.c (.int .i64 1))), none⟩, ⟨some 9, .val (.mov (.t 56)), none⟩]
def g286_14 : IL := [⟨some 10, .val (.mov (.c (.int .i64 0))), none⟩]
def g286_15 : IL := [⟨some 57, .val (.mov (.t 8)), none⟩, ⟨some 58, .val (.mov (.t 9)), none⟩, ⟨some 59, .val (.bin .num .lss (.t 57) (.t 58)), none⟩]
def g286_16 : IL := [⟨some 60, .val (.mov (.t 0)), none⟩, ⟨some 61, .val (.mov (.t 8)), none⟩, ⟨some 62, .val (.idx (.t 60) (.t 61)), none⟩, ⟨some 63, .val (.mov (.t 6)), none⟩, ⟨some 64, .val (.bin .num .neq (.t 62) (.t 63)), none⟩]
def g286_17 : IL := [⟨some 65, .val (.mov (.t 0)), none⟩, ⟨some 66, .val (.mov (.t 8)), none⟩, ⟨some 67, .val (.bin .num .add (.t 66) (.c (.int .i64 1))), none⟩, ⟨some 68, .val (.mov (.t 9)), none⟩, ⟨some 69, .val (.slc none (.t 65) (some (.t 67)) (some (.t 68)) none), none⟩, ⟨some 70, .val (.mov (.t 6)), none⟩, ⟨some 71, .call (.f 303) [(.t 69), (.t 70)], none⟩, ⟨some 11, .val (.mov (.t 71)), none⟩]
def g286_18 : IL := [⟨some 72, .val (.mov (.t 11)), none⟩, ⟨some 73, .val (.bin .num .lss (.t 72) (.c (.int .i64 0))), none⟩]
def g286_19 : IL := [⟨some 4, .val (.mov (.c (.int .i64 (-1)))), none⟩]
def g286_20 : IL := [⟨some 74, .val (.mov (.t 8)), none⟩, ⟨some 75, .val (.mov (.t 11)), none⟩, ⟨some 76, .val (.bin .num .add (.t 75) (.c (.int .i64 1))), none⟩, ⟨some 77, .val (.bin .num .add (.t 74) (.t 76)), none⟩, ⟨some 8, .val (.mov (.t 77)), none⟩]
def g286_21 : IL := [⟨some 78, .val (.mov (.t 0)), none⟩, ⟨some 79, .val (.mov (.t 8)), none⟩, ⟨some 80, .val (.bin .num .add (.t 79) (.c (.int .i64 1))), none⟩, ⟨some 81, .val (.idx (.t 78) (.t 80)), none⟩, ⟨some 82, .val (.mov (.t 7)), none⟩, ⟨some 83, .val (.bin .num .eql (.t 81) (.t 82)), none⟩, ⟨some 84, .val (.mov (.t 83)), none⟩, ⟨some 85, .val (.mov (.t 0)), (some (84, true))⟩, ⟨some 86, .val (.mov (.t 8)), (some (84, true))⟩, ⟨some 87, .val (.mov (.t 8)), (some (84, true))⟩, ⟨some 88, .val (.mov (.t 5)), (some (84, true))⟩, ⟨some 89, .val (.bin .num .add (.t 87) (.t 88)), (some (84, true))⟩, ⟨some 90, .val (.slc none (.t 85) (some (.t 86)) (some (.t 89)) none), (some (84, true))⟩, ⟨some 91, .val (.mov (.t 1)), (some (84, true))⟩, ⟨some 92, .val (.bin .str .eql (.t 90) (.t 91)), (some (84, true))⟩, ⟨some 93, .val (.pick (.t 84) (.t 92) (.c (.bool false))), none⟩]
def g286_22 : IL := [⟨some 94, .val (.mov (.t 8)), none⟩, ⟨some 4, .val (.mov (.t 94)), none⟩]
def g286_23 : IL := [⟨some 95, .val (.mov (.t 8)), none⟩, ⟨some 96, .val (.bin .num .add (.t 95) (.c (.int .i64 1))), none⟩, ⟨some 8, .val (.mov (.t 96)), none⟩]
def g286_24 : IL := [⟨some 97, .val (.mov (.t 10)), none⟩, ⟨some 98, .val (.bin .num .add (.t 97) (.c (.int .i64 1))), none⟩, ⟨some 10, .val (.mov (.t 98)), none⟩]
def g286_26 : IL := [⟨some 108, .val (.mov (.t 0)), none⟩, ⟨some 109, .val (.mov (.t 8)), none⟩, ⟨some 110, .val (.slc none (.t 108) (some (.t 109)) none none), none⟩, ⟨some 111, .val (.mov (.t 1)), none⟩, ⟨some 112, .call (.f 304) [(.t 110), (.t 111)], none⟩, ⟨some 12, .val (.mov (.t 112)), none⟩]
def g286_27 : IL := [⟨some 113, .val (.mov (.t 12)), none⟩, ⟨some 114, .val (.bin .num .geq (.t 113) (.c (.int .i64 0))), none⟩]
def g286_28 : IL := [⟨some 115, .val (.mov (.t 12)), none⟩, ⟨some 116, .val (.mov (.t 8)), none⟩, ⟨some 117, .val (.bin .num .add (.t 115) (.t 116)), none⟩, ⟨some 4, .val (.mov (.t 117)), none⟩]
def g286_29 : IL := [⟨some 4, .val (.mov (.c (.int .i64 (-1)))), none⟩]
def g286_31 : IL := [⟨some 133, .val (.mov (.t 0)), none⟩, ⟨some 134, .val (.mov (.t 8)), none⟩, ⟨some 135, .val (.slc none (.t 133) (some (.t 134)) none none), none⟩, ⟨some 136, .val (.mov (.t 1)), none⟩, ⟨some 137, .call (.f 306) [(.t 135), (.t 136)], none⟩, ⟨some 13, .val (.mov (.t 137)), none⟩]
def g286_32 : IL := [⟨some 138, .val (.mov (.t 13)), none⟩, ⟨some 139, .val (.bin .num .lss (.t 138) (.c (.int .i64 0))), none⟩]
def g286_33 : IL := [⟨some 4, .val (.mov (.c (.int .i64 (-1)))), none⟩]
def g286_34 : IL := [⟨some 140, .val (.mov (.t 8)), none⟩, ⟨some 141, .val (.mov (.t 13)), none⟩, ⟨some 142, .val (.bin .num .add (.t 140) (.t 141)), none⟩, ⟨some 4, .val (.mov (.t 142)), none⟩]
def l286_0 : RC := .seq (.seq (.reg g286_15) (.cond (.t 59) (.skip) (.exit 1))) (.block 2 (.seq (.seq (.reg g286_16) (.cond (.t 64) (.seq (.reg g286_17) (.seq (.seq (.reg g286_18) (.cond (.t 73) (.seq (.reg g286_19) (.ret)) (.skip))) (.reg g286_20))) (.skip))) (.seq (.seq (.reg g286_21) (.cond (.t 93) (.seq (.reg g286_22) (.ret)) (.skip))) (.seq (.reg g286_23) (.seq (.reg g286_24) (.seq (.no) (.cond (.t 107) (.seq (.reg g286_26) (.seq (.seq (.reg g286_27) (.cond (.t 114) (.seq (.reg g286_28) (.ret)) (.skip))) (.seq (.reg g286_29) (.ret)))) (.seq (.no) (.cond (.t 132) (.seq (.reg g286_31) (.seq (.seq (.reg g286_32) (.cond (.t 139) (.seq (.reg g286_33) (.ret)) (.skip))) (.seq (.reg g286_34) (.ret)))) (.skip))))))))))
def g286_35 : IL := [⟨some 4, .val (.mov (.c (.int .i64 (-1)))), none⟩]
def r286 : RC := .seq (.reg g286_0) (.seq (.reg g286_1) (.seq (.block 0 (.seq (.reg g286_2) (.cond (.t 16) (.seq (.reg g286_3) (.ret)) (.seq (.reg g286_4) (.cond (.t 24) (.seq (.reg g286_5) (.ret)) (.seq (.reg g286_6) (.cond (.t 31) (.seq (.reg g286_7) (.ret)) (.seq (.no) (.cond (.t 36) (.seq (.reg g286_9) (.ret)) (.skip)))))))))) (.seq (.reg g286_10) (.seq (.reg g286_11) (.seq (.reg g286_12) (.seq (.reg g286_13) (.seq (.reg g286_14) (.seq (.block 1 (.loop l286_0)) (.seq (.reg g286_35) (.ret))))))))))
def o286 : List RR := [.tmp 4]
theorem k286 : KK 143 r286 Tryz.f286 := by decide +kernel
theorem q286 : QQ Tryz.f286 o286 := by decide +kernel
def g303_0 : IL := [⟨some 4, .val (.mov (.c (.int .i64 0))), none⟩]
def g303_1 : IL := [⟨some 5, .val (.mov (.t 0)), none⟩, ⟨some 6, .val (.mov (.t 1)), none⟩, ⟨some 7, .xb false 310 (.t 5) (.t 6), none⟩, ⟨some 4, .val (.mov (.t 7)), none⟩]
def r303 : RC := .seq (.reg g303_0) (.seq (.reg g303_1) (.ret))
def o303 : List RR := [.tmp 4]
theorem k303 : KK 8 r303 Tryz.f303 := by decide +kernel
theorem q303 : QQ Tryz.f303 o303 := by decide +kernel
def g263_0 : IL := [⟨some 3, .boxN 3 (.t 1), none⟩, ⟨some 4, .val (.mov (.c (.bool false))), none⟩]
def g263_1 : IL := [⟨some 5, .val (.mov (.t 0)), none⟩, ⟨some 6, .call (.f 159) [(.t 5)], none⟩, ⟨some 7, .val (.un .not (.t 6)), none⟩, ⟨some 8, .val (.mov (.t 7)), none⟩, ⟨some 9, .val (.faddr 0 (.t 3)), (some (8, false))⟩, ⟨some 10, .val (.load none (.t 9)), (some (8, false))⟩, ⟨some 11, .val (.mov (.t 0)), (some (8, false))⟩, ⟨some 12, .val (.bin .num .neq (.t 10) (.t 11)), (some (8, false))⟩, ⟨some 13, .val (.pick (.t 8) (.c (.bool true)) (.t 12)), none⟩, ⟨some 14, .val (.mov (.t 13)), none⟩, ⟨some 15, .val (.load (some 7) (.t 3)), (some (14, false))⟩, ⟨some 16, .call (.f 179) [(.t 15)], (some (14, false))⟩, ⟨some 17, .val (.un .not (.t 16)), (some (14, false))⟩, ⟨some 18, .val (.pick (.t 14) (.c (.bool true)) (.t 17)), none⟩, ⟨some 19, .val (.mov (.t 18)), none⟩, ⟨some 20, .val (.mov (.t 0)), (some (19, false))⟩, ⟨some 21, .val (.faddr 1 (.t 3)), (some (19, false))⟩, ⟨some 22, .val (.load none (.t 21)), (some (19, false))⟩, ⟨some 23, .call (.f 288) [(.t 20), (.t 22)], (some (19, false))⟩, ⟨some 24, .val (.un .not (.t 23)), (some (19, false))⟩, ⟨some 25, .val (.pick (.t 19) (.c (.bool true)) (.t 24)), none⟩, ⟨some 26, .val (.mov (.t 25)), none⟩, ⟨some 27, .val (.faddr 2 (.t 3)), (some (26, false))⟩, ⟨some 28, .val (.load none (.t 27)), (some (26, false))⟩, ⟨some 29, .val (.len 0 (.t 28)), (some (26, false))⟩, ⟨some 30, .val (.bin .num .gtr (.t 29) (.c (.int .i64 4096))), (some (26, false))⟩, ⟨some 31, .val (.pick (.t 26) (.c (.bool true)) (.t 30)), none⟩]
def g263_2 : IL := [⟨some 4, .val (.mov (.c (.bool false))), none⟩]
def g263_3 : IL := [⟨some 32, .val (.mov (.t 0)), none⟩, ⟨some 33, .val (.bin .num .neq (.t 32) (.c (.int .i64 7))), none⟩, ⟨some 34, .val (.mov (.t 33)), none⟩, ⟨some 35, .val (.faddr 2 (.t 3)), (some (34, false))⟩, ⟨some 36, .val (.load none (.t 35)), (some (34, false))⟩, ⟨some 37, .call (.f 100) [(.t 36)], (some (34, false))⟩, ⟨some 38, .val (.pick (.t 34) (.c (.bool true)) (.t 37)), none⟩, ⟨some 4, .val (.mov (.t 38)), none⟩]
def r263 : RC := .seq (.reg g263_0) (.seq (.seq (.reg g263_1) (.cond (.t 31) (.seq (.reg g263_2) (.ret)) (.skip))) (.seq (.reg g263_3) (.ret)))
def o263 : List RR := [.tmp 4]
theorem k263 : KK 39 r263 Tryz.f263 := by decide +kernel
theorem q263 : QQ Tryz.f263 o263 := by decide +kernel
def g288_0 : IL := [⟨some 4, .val (.mov (.c (.bool false))), none⟩]
def g288_1 : IL := [⟨some 5, .val (.mov (.c (.int .u64 4294967295))), none⟩]
def g288_2 : IL := [⟨some 6, .val (.mov (.t 0)), none⟩]
def g288_3 : IL := [⟨some 8, .val (.bin .num .eql (.t 6) (.c (.int .i64 1))), none⟩, ⟨some 7, .val (.mov (.t 8)), none⟩]
def g288_4 : IL := [⟨some 10, .val (.bin .num .eql (.t 6) (.c (.int .i64 2))), none⟩, ⟨some 9, .val (.mov (.t 10)), none⟩]
def g288_5 : IL := [⟨some 12, .val (.bin .num .eql (.t 6) (.c (.int .i64 9))), none⟩, ⟨some 11, .val (.mov (.t 12)), none⟩]
def g288_6 : IL := [⟨some 14, .val (.bin .num .eql (.t 6) (.c (.int .i64 4))), none⟩, ⟨some 13, .val (.mov (.t 14)), none⟩]
def g288_7 : IL := [⟨some 15, .val (.mov (.t 1)), none⟩, ⟨some 16, .val (.bin .num .leq (.t 15) (.c (.int .u64 1))), none⟩, ⟨some 4, .val (.mov (.t 16)), none⟩]
def g288_8 : IL := [⟨some 17, .val (.mov (.t 1)), none⟩, ⟨some 18, .val (.cvi .i64 (.t 17)), none⟩, ⟨some 19, .val (.bin .num .geq (.t 18) (.c (.int .i64 (-2147483648)))), none⟩, ⟨some 20, .val (.mov (.t 19)), none⟩, ⟨some 21, .val (.mov (.t 1)), (some (20, true))⟩, ⟨some 22, .val (.cvi .i64 (.t 21)), (some (20, true))⟩, ⟨some 23, .val (.bin .num .leq (.t 22) (.c (.int .i64 2147483647))), (some (20, true))⟩, ⟨some 24, .val (.pick (.t 20) (.t 23) (.c (.bool false))), none⟩, ⟨some 4, .val (.mov (.t 24)), none⟩]
def g288_9 : IL := [⟨some 5, .val (.mov (.c (.int .u64 2147483647))), none⟩]
def g288_10 : IL := [⟨some 25, .val (.mov (.t 1)), none⟩, ⟨some 26, .val (.mov (.t 5)), none⟩, ⟨some 27, .val (.bin .num .leq (.t 25) (.t 26)), none⟩, ⟨some 4, .val (.mov (.t 27)), none⟩]
def g288_11 : IL := [⟨some 4, .val (.mov (.c (.bool true))), none⟩]
def r288 : RC := .seq (.reg g288_0) (.seq (.reg g288_1) (.seq (.seq (.reg g288_2) (.block 0 (.seq (.block 4 (.seq (.block 3 (.seq (.block 2 (.seq (.block 1 (.seq (.seq (.seq (.reg g288_3) (.cond (.t 7) (.exit 1) (.skip))) (.seq (.seq (.reg g288_4) (.cond (.t 9) (.exit 2) (.skip))) (.seq (.seq (.reg g288_5) (.cond (.t 11) (.exit 3) (.skip))) (.seq (.reg g288_6) (.cond (.t 13) (.exit 4) (.skip)))))) (.exit 0))) (.seq (.seq (.reg g288_7) (.ret)) (.exit 0)))) (.seq (.seq (.reg g288_8) (.ret)) (.exit 0)))) (.reg g288_9))) (.seq (.seq (.reg g288_10) (.ret)) (.exit 0))))) (.seq (.reg g288_11) (.ret))))
def o288 : List RR := [.tmp 4]
theorem k288 : KK 28 r288 Tryz.f288 := by decide +kernel
theorem q288 : QQ Tryz.f288 o288 := by decide +kernel
def g179_0 : IL := [⟨some 1, .boxN 1 (.t 0), none⟩, ⟨some 2, .val (.mov (.c (.bool false))), none⟩]
def g179_1 : IL := [⟨some 3, .val (.faddr 3 (.t 1)), none⟩, ⟨some 4, .val (.load none (.t 3)), none⟩, ⟨some 5, .val (.len 1 (.t 4)), none⟩, ⟨some 6, .val (.faddr 4 (.t 1)), none⟩, ⟨some 7, .val (.load none (.t 6)), none⟩, ⟨some 8, .val (.len 1 (.t 7)), none⟩, ⟨some 9, .val (.bin .num .add (.t 5) (.t 8)), none⟩, ⟨some 10, .val (.faddr 5 (.t 1)), none⟩, ⟨some 11, .val (.load none (.t 10)), none⟩, ⟨some 12, .val (.len 1 (.t 11)), none⟩, ⟨some 13, .val (.bin .num .add (.t 9) (.t 12)), none⟩, ⟨some 14, .val (.faddr 6 (.t 1)), none⟩, ⟨some 15, .val (.load none (.t 14)), none⟩, ⟨some 16, .val (.len 1 (.t 15)), none⟩, ⟨some 17, .val (.bin .num .add (.t 13) (.t 16)), none⟩, ⟨some 18, .val (.bin .num .gtr (.t 17) (.c (.int .i64 0))), none⟩]
def g179_2 : IL := [⟨some 2, .val (.mov (.c (.bool false))), none⟩]
def g179_3 : IL := [⟨some 19, .val (.faddr 0 (.t 1)), none⟩, ⟨some 20, .val (.load none (.t 19)), none⟩, ⟨some 21, .call (.f 235) [(.t 20)], none⟩]
def g179_4 : IL := [⟨some 22, .val (.faddr 1 (.t 1)), none⟩, ⟨some 23, .val (.load none (.t 22)), none⟩, ⟨some 24, .val (.bin .num .eql (.t 23) (.c (.int .u64 0))), none⟩, ⟨some 2, .val (.mov (.t 24)), none⟩]
def g179_5 : IL := [⟨some 25, .val (.faddr 2 (.t 1)), none⟩, ⟨some 26, .val (.load none (.t 25)), none⟩, ⟨some 27, .val (.bin .str .eql (.t 26) (.c (.str []))), none⟩, ⟨some 2, .val (.mov (.t 27)), none⟩]
def r179 : RC := .seq (.reg g179_0) (.seq (.seq (.reg g179_1) (.cond (.t 18) (.seq (.reg g179_2) (.ret)) (.skip))) (.seq (.seq (.reg g179_3) (.cond (.t 21) (.seq (.reg g179_4) (.ret)) (.skip))) (.seq (.reg g179_5) (.ret))))
def o179 : List RR := [.tmp 2]
theorem k179 : KK 28 r179 Tryz.f179 := by decide +kernel
theorem q179 : QQ Tryz.f179 o179 := by decide +kernel
def g235_0 : IL := [⟨some 2, .val (.mov (.c (.bool false))), none⟩]
def g235_1 : IL := [⟨some 3, .val (.mov (.t 0)), none⟩, ⟨some 4, .val (.bin .num .eql (.t 3) (.c (.int .i64 7))), none⟩, ⟨some 5, .val (.mov (.t 4)), none⟩, ⟨some 6, .val (.mov (.t 0)), (some (5, false))⟩, ⟨some 7, .val (.bin .num .eql (.t 6) (.c (.int .i64 8))), (some (5, false))⟩, ⟨some 8, .val (.pick (.t 5) (.c (.bool true)) (.t 7)), none⟩, ⟨some 2, .val (.mov (.t 8)), none⟩]
def r235 : RC := .seq (.reg g235_0) (.seq (.reg g235_1) (.ret))
def o235 : List RR := [.tmp 2]
theorem k235 : KK 9 r235 Tryz.f235 := by decide +kernel
theorem q235 : QQ Tryz.f235 o235 := by decide +kernel
def g159_0 : IL := [⟨some 2, .val (.mov (.c (.bool false))), none⟩]
def g159_1 : IL := [⟨some 3, .val (.mov (.t 0)), none⟩, ⟨some 4, .val (.bin .num .geq (.t 3) (.c (.int .i64 1))), none⟩, ⟨some 5, .val (.mov (.t 4)), none⟩, ⟨some 6, .val (.mov (.t 0)), (some (5, true))⟩, ⟨some 7, .val (.bin .num .leq (.t 6) (.c (.int .i64 9))), (some (5, true))⟩, ⟨some 8, .val (.pick (.t 5) (.t 7) (.c (.bool false))), none⟩, ⟨some 2, .val (.mov (.t 8)), none⟩]
def r159 : RC := .seq (.reg g159_0) (.seq (.reg g159_1) (.ret))
def o159 : List RR := [.tmp 2]
theorem k159 : KK 9 r159 Tryz.f159 := by decide +kernel
theorem q159 : QQ Tryz.f159 o159 := by decide +kernel
end Go.Proofs.YtelhohgmmhbahaaGreatDoor.Rc

namespace Go.Proofs.YtelhohgmmhbahaaGreatDoor.Bt
open Go

theorem wi64 (n : Int) : IntKind.i64.wrap n = (n + 9223372036854775808) % 18446744073709551616 - 9223372036854775808 := IntKind.wrap_i64 n

end Go.Proofs.YtelhohgmmhbahaaGreatDoor.Bt

set_option linter.unusedSimpArgs false
namespace Go.Proofs.YtelhohgmmhbahaaGreatDoor.Va
open Go Am Rc Bt

def RB (v : AV) : Prop := ∃ b, v = .bool b
theorem rb (b : Bool) : RB (.bool b) = True := eq_true ⟨b, rfl⟩
theorem RB.rf {v : AV} {l : List AV} (h : RB v) : v.rf = true ∧ (AV.rfL l = true ∨ v.nl = true) := by
  obtain ⟨b, rfl⟩ := h
  exact ⟨rfl, .inr rfl⟩

end Go.Proofs.YtelhohgmmhbahaaGreatDoor.Va

set_option linter.unusedSimpArgs false
namespace Go.Proofs.YtelhohgmmhbahaaGreatDoor.Va
open Go Am Rc Bt

def isk (k : Int) : Bool := decide (k ≥ 1) && decide (k ≤ 9)
def txk (k : Int) : Bool := k == 7 || k == 8
theorem x189 (k : Int) : Fn1 Tryz.prog 189 [.int .i64 k] (.bool (isk k)) := by
  refine fn1_of_awp (rc := r189) (rs := o189) Tryz.func189 rfl rfl Tryz.ntmps189 k189 q189 (by simp) ?_
  simp only [g189_0, g189_1, r189, o189, isk, eES, Nat.reduceBEq, ↓reduceIte]
  cases h : decide (k ≥ 1) <;> simp only [Bool.true_and, Bool.false_and, eES, Nat.reduceBEq, ↓reduceIte]

theorem x159 (k : Int) : Fn1 Tryz.prog 159 [.int .i64 k] (.bool (isk k)) := by
  refine fn1_of_awp (rc := r159) (rs := o159) Tryz.func159 rfl rfl Tryz.ntmps159 k159 q159 (by simp) ?_
  simp only [g159_0, g159_1, r159, o159, isk, eES, Nat.reduceBEq, ↓reduceIte]
  cases h : decide (k ≥ 1) <;> simp only [Bool.true_and, Bool.false_and, eES, Nat.reduceBEq, ↓reduceIte]

theorem x238 (k : Int) : Fn1 Tryz.prog 238 [.int .i64 k] (.bool (txk k)) := by
  refine fn1_of_awp (rc := r238) (rs := o238) Tryz.func238 rfl rfl Tryz.ntmps238 k238 q238 (by simp) ?_
  simp only [g238_0, g238_1, r238, o238, txk, eES, Nat.reduceBEq, ↓reduceIte]
  cases h : (k == 7) <;> simp only [Bool.true_or, Bool.false_or, eES, Nat.reduceBEq, ↓reduceIte]

theorem x235 (k : Int) : Fn1 Tryz.prog 235 [.int .i64 k] (.bool (txk k)) := by
  refine fn1_of_awp (rc := r235) (rs := o235) Tryz.func235 rfl rfl Tryz.ntmps235 k235 q235 (by simp) ?_
  simp only [g235_0, g235_1, r235, o235, txk, eES, Nat.reduceBEq, ↓reduceIte]
  cases h : (k == 7) <;> simp only [Bool.true_or, Bool.false_or, eES, Nat.reduceBEq, ↓reduceIte]

def oc (n : Int) (s a : List UInt8) (c k kd t u : Int) : AV := .agg [.int .i64 n, .str s, .str a, .int .i64 c, .int .i64 k, .int .i64 kd, .int .i64 t, .int .i64 u]

section
variable (n : Int) (s a : List UInt8) (c k kd t u : Int)

end

end Go.Proofs.YtelhohgmmhbahaaGreatDoor.Va

set_option linter.unusedSimpArgs false
namespace Go.Proofs.YtelhohgmmhbahaaGreatDoor.Va
open Go Am Rc Bt

theorem wi64_s (i : Nat) (n : Nat) (h : i < n) (hn : n ≤ maxLen) : IntKind.i64.wrap ((i : Int) + 1) = ((i + 1 : Nat) : Int) := by
  simp only [maxLen] at hn
  rw [wi64]; omega

theorem lt_t {i n : Nat} (h : i < n) : decide ((i : Int) < (n : Int)) = true := by simp; omega
theorem lt_f {i n : Nat} (h : ¬ i < n) : decide ((i : Int) < (n : Int)) = false := by simp; omega
theorem nneg (i : Nat) : (0 ≤ (i : Int)) = True := by simp

end Go.Proofs.YtelhohgmmhbahaaGreatDoor.Va

namespace Go.Proofs.YtelhohgmmhbahaaGreatDoor.Br
open Go Am Go.RowKit Go.WideShapes Go.ChangeShapes Go.ChangeAt Go.Joins Go.Deep Go.WideElems Go.Maps

section
variable {H : Type} {enc : TypeId × Value → H} {P : Program} {W : World} {base : Nat} {sp : Nat → Bool} {held : Bool}

end

end Go.Proofs.YtelhohgmmhbahaaGreatDoor.Br

namespace Go.Proofs.YtelhohgmmhbahaaGreatDoor.Br
open Go Am Go.RowKit Go.WideShapes Go.ChangeShapes Go.ChangeAt Go.Joins Go.Deep Go.WideElems Go.Maps

theorem flatMap_get {X α : Type} {f : X → List α} {sz : Nat} (hsz : 0 < sz) (hf : ∀ x, (f x).length = sz) : ∀ (xs : List X) (j : Nat), (xs.flatMap f)[j]? = (xs[j / sz]?).bind fun x => (f x)[j % sz]?
  | [], j => by simp
  | x :: xs, j => by
    rw [List.flatMap_cons]
    by_cases hj : j < sz
    · rw [List.getElem?_append_left (by rw [hf]; exact hj), Nat.div_eq_of_lt hj, Nat.mod_eq_of_lt hj]; rfl
    · obtain ⟨i, rfl⟩ : ∃ i, j = sz + i := ⟨j - sz, by omega⟩
      rw [List.getElem?_append_right (by rw [hf]; omega), hf, flatMap_get hsz hf xs, show sz + i - sz = i by omega, show (sz + i) / sz = i / sz + 1 by rw [Nat.add_div_left _ hsz], Nat.add_mod_left]
      rfl

section
variable {H : Type} {enc : TypeId × Value → H} {P : Program} {W : World}

structure El (enc : TypeId × Value → H) (P : Program) (e : TypeId) (sz : Nat) (X : Type) where
  av : X → AV
  vals : X → List Value
  dat : X → DataW H
  ok : X → Prop
  pos : 0 < sz
  len : ∀ x, (vals x).length = sz
  cells : ∀ x, (av x).cells.length = sz
  rfl' : ∀ x, AV.rfL (av x).cells = true
  leaf : ∀ x, (av x).cells.all AV.leaf = true
  rep : ∀ (G : Gh) x, RepL G (av x).cells (vals x)
  opened : ∀ {W : World} {n : Nat} {cs : List Value} {d : DataW H} {pl : List MemPlace}, cs.length = sz → DataW.trod enc P W 0 (fun _ => true) true n e cs = some (d, pl) → ∃ x, ok x ∧ cs = vals x ∧ d = dat x ∧ pl = []
  shut : ∀ (W : World) (sp : Nat → Bool) x, ok x → ∃ n, DataW.trod enc P W 0 sp true n e (vals x) = some (dat x, [])

end
end Go.Proofs.YtelhohgmmhbahaaGreatDoor.Br

namespace Go.Proofs.YtelhohgmmhbahaaGreatDoor.Br
open Go Am Go.RowKit Go.WideShapes Go.ChangeShapes Go.ChangeAt Go.Joins Go.Deep Go.WideElems Go.Maps

def elemV : List AV → AV
  | [x] => x
  | l => .agg l

def consec (P : Program) : Nat → List Field → Nat → Bool
  | o, [], n => Nat.beq o n
  | o, f :: fs, n => Nat.beq f.offset o && consec P (o + P.cellsOf f.type) fs n

def plain1 (P : Program) (ts : List TypeId) (t : TypeId) : Bool :=
  match P.underlying t with
  | some (.int _) | some .bool | some .string => P.cellsOf t == 1
  | some (.struct fs) => consec P 0 fs.toList (P.cellsOf t) && fs.toList.all fun f => ts.contains f.type
  | some (.slice e) => P.cellsOf t == 1 && (decide (0 < P.cellsOf e) && decide (0 < P.bytesOf e)) && ts.contains e
  | _ => false
def plainS (P : Program) (ts : List TypeId) : Bool := ts.all (plain1 P ts)

def Has (P : Program) (M : Nat) : Nat → TypeId → List AV → Prop
  | 0, _, _ => False
  | k + 1, t, cs => match P.underlying t with
    | some (.int ik) => ∃ n, cs = [.int ik n] ∧ (Lit.int ik n).wf = true
    | some .bool => ∃ b, cs = [.bool b]
    | some .string => ∃ s, cs = [.str s] ∧ s.length ≤ M
    | some (.struct fs) => HasL (Has P M k) fs.toList cs
    | some (.slice e) => ∃ l : List (List AV), cs = [.list (l.map elemV)] ∧ l.length ≤ maxLen ∧ (∀ c ∈ l, Has P M k e c) ∧ l.length ≤ M
    | _ => False
where
  HasL (h : TypeId → List AV → Prop) : List Field → List AV → Prop
    | [], cs => cs = []
    | f :: fs, cs => ∃ a b, cs = a ++ b ∧ h f.type a ∧ HasL h fs b

theorem elemV_cells {l : List AV} (h : l.all AV.leaf = true) : (elemV l).cells = l := by
  match l, h with
  | [], _ => rfl
  | [x], h => cases x <;> first | rfl | simp [AV.leaf] at h
  | _ :: _ :: _, _ => rfl

theorem repL_flatten {G : Gh} : ∀ {ls : List (List AV)} {cs : List (List Value)}, ls.length = cs.length → (∀ i (h1 : i < ls.length) (h2 : i < cs.length), RepL G ls[i] cs[i]) → RepL G ls.flatten cs.flatten
  | [], [], _, _ => .nil
  | l :: ls, c :: cs, hn, h => by
    rw [List.flatten_cons, List.flatten_cons]
    exact RepL.append (h 0 (by simp) (by simp)) (repL_flatten (by simpa using hn) fun i h1 h2 => h (i + 1) (by simpa using h1) (by simpa using h2))
  | [], _ :: _, hn, _ => by simp at hn
  | _ :: _, [], hn, _ => by simp at hn

section
variable {H : Type} {enc : TypeId × Value → H} {P : Program} {W : World} {M : Nat}

theorem bulk_mem {d : DataW H} : ∀ {l : List (DataW H)}, d ∈ l → Rows.uptoBulk d ≤ Rows.uptoBulkAll l
  | [], h => by cases h
  | x :: l, h => by
    rw [Rows.uptoBulkAll]
    rcases List.mem_cons.1 h with rfl | h
    · omega
    · have := bulk_mem h
      omega

def Fit (P : Program) (M : Nat) (t : TypeId) (d : DataW H) : Prop := M = maxLen ∨ Rows.uptoBulk d ≤ M ∨ (d.weights P t).all (· ≤ M) = true

theorem weights_at {t : TypeId} {d : DataW H} : ∀ {ts : List TypeId} {ds : List (DataW H)} (i : Nat), (DataW.weightsEach P ts ds).all (· ≤ M) = true → ts[i]? = some t → ds[i]? = some d → (d.weights P t).all (· ≤ M) = true
  | [], _, _, _, h, _ => by simp at h
  | _ :: _, [], _, _, _, h => by simp at h
  | t' :: ts, d' :: ds, 0, h, h1, h2 => by
    rw [DataW.weightsEach, List.all_append, Bool.and_eq_true] at h
    cases h1; cases h2
    exact h.1
  | t' :: ts, d' :: ds, i + 1, h, h1, h2 => by
    rw [DataW.weightsEach, List.all_append, Bool.and_eq_true] at h
    exact weights_at i h.2 (by simpa using h1) (by simpa using h2)

theorem weightsAll_mem {e : TypeId} {d : DataW H} : ∀ {ds : List (DataW H)}, (DataW.weightsAll P e ds).all (· ≤ M) = true → d ∈ ds → (d.weights P e).all (· ≤ M) = true
  | [], _, h => by cases h
  | d' :: ds, h, hd => by
    rw [DataW.weightsAll, List.all_append, Bool.and_eq_true] at h
    rcases List.mem_cons.1 hd with rfl | hd
    · exact h.1
    · exact weightsAll_mem h.2 hd

def Opn (W : World) (h : List AV → Prop) (n : Nat) (cs : List Value) : Prop :=
  ∃ avs, h avs ∧ RepL (Gh.bare fun b o => sv W b o) avs cs ∧ avs.length = n ∧ AV.rfL avs = true ∧ avs.all AV.leaf = true

theorem open_fields {h : TypeId → List AV → Prop} {cs : List Value} : ∀ (fs : List Field) (o : Nat), consec P o fs cs.length = true → (∀ f ∈ fs, Opn W (h f.type) (P.cellsOf f.type) ((cs.drop f.offset).take (P.cellsOf f.type))) →
    Opn W (Has.HasL h fs) (cs.length - o) (cs.drop o)
  | [], o, hc, _ => by
    have e : o = cs.length := Nat.eq_of_beq_eq_true hc
    refine ⟨[], rfl, ?_, by simp [e], rfl, rfl⟩
    rw [e, List.drop_length]
    exact .nil
  | f :: fs, o, hc, hf => by
    simp only [consec, Bool.and_eq_true] at hc
    have eo : f.offset = o := Nat.eq_of_beq_eq_true hc.1
    obtain ⟨a, a1, a2, a3, a4, a5⟩ := hf f (by simp)
    obtain ⟨b, b1, b2, b3, b4, b5⟩ := open_fields fs _ hc.2 fun g hg => hf g (by simp [hg])
    rw [eo] at a2
    refine ⟨a ++ b, ⟨a, b, rfl, a1, b1⟩, ?_, ?_, by rw [rfL_append, a4, b4] <;> rfl, by rw [List.all_append, a5, b5] <;> rfl⟩
    · have := RepL.append a2 b2
      rwa [← List.drop_drop, List.take_append_drop] at this
    · have hlen : a.length = ((cs.drop o).take (P.cellsOf f.type)).length := (RepL.length a2).symm
      rw [List.length_append, a3, b3]
      rw [a3, List.length_take, List.length_drop] at hlen
      omega

theorem open_deep {ts : List TypeId} (hP : plainS P ts = true) : ∀ (k : Nat) (t : TypeId) (cs : List Value) (d : DataW H) (pl : List MemPlace), ts.contains t = true → DataW.trod enc P W 0 (fun _ => true) true k t cs = some (d, pl) → Fit P M t d →
    Opn W (Has P M k t) (P.cellsOf t) cs
  | 0, _, _, _, _, _, h, _ => by simp [DataW.trod] at h
  | k + 1, t, cs, d, pl, ht, h, hb => by
    have hp := List.all_eq_true.1 hP t (by simpa using ht)
    unfold plain1 at hp
    split at hp
    · rename_i ik hu
      obtain ⟨v, rfl, _, hw⟩ := DataW.trod_int hu h
      refine ⟨[.int ik v], ?_, .cons (.int ik v) .nil, by rw [beq_iff_eq] at hp; simp [hp], rfl, rfl⟩
      simp only [Has, hu]
      exact ⟨v, rfl, hw⟩
    · rename_i hu
      obtain ⟨b, rfl, _⟩ := DataW.trod_bool hu h
      refine ⟨[.bool b], ?_, .cons (.bool b) .nil, by rw [beq_iff_eq] at hp; simp [hp], rfl, rfl⟩
      simp only [Has, hu]
      exact ⟨b, rfl⟩
    · rename_i hu
      obtain ⟨⟨⟨s⟩⟩, rfl, e, hw⟩ := DataW.trod_string hu h
      have hw : s.length ≤ M := by
        cases e
        rcases hb with rfl | hb | hb
        · exact hw
        · rw [Rows.uptoBulk] at hb
          exact Nat.le_trans (Nat.le_succ _) hb
        · rw [DataW.weights] at hb
          simpa using hb
      refine ⟨[.str s], ?_, .cons (.str s) .nil, by rw [beq_iff_eq] at hp; simp [hp], rfl, rfl⟩
      simp only [Has, hu]
      exact ⟨s, rfl, hw⟩
    · rename_i fs hu
      simp only [Bool.and_eq_true, List.all_eq_true] at hp
      obtain ⟨xs, n', hk, e, hlen, hxl, hx⟩ := DataW.trod_struct hu h
      obtain rfl : k = n' := by omega
      have hbx : ∀ (i : Nat) x (f : Field), xs[i]? = some x → fs[i]? = some f → Fit P M f.type x.1 := fun i x f hx hf => by
        cases e
        refine hb.imp id fun hb => hb.imp (fun hb => ?_) fun hb => ?_
        · rw [Rows.uptoBulk] at hb
          have := bulk_mem (l := xs.map (·.1)) (List.mem_map.2 ⟨x, List.mem_of_getElem? hx, rfl⟩)
          omega
        · rw [DataW.weights, hu] at hb
          exact weights_at i hb (by simp [hf]) (by simp [hx])
      have := open_fields (W := W) (h := Has P M k) (cs := cs) fs.toList 0 (by rw [hlen]; exact hp.1) (fun f hf => by
        obtain ⟨i, hi⟩ := List.mem_iff_getElem?.1 hf
        have hi' : fs[i]? = some f := by simpa using hi
        have hlt : i < fs.size := by
          have := List.getElem?_eq_some_iff.1 hi
          simpa using this.1
        have h2 := hx i f hi'
        rw [List.getElem?_eq_getElem (by omega)] at h2
        exact open_deep hP k f.type _ _ _ (hp.2 f hf) h2 (hbx i _ f (List.getElem?_eq_getElem (by omega)) hi'))
      rw [List.drop_zero, Nat.sub_zero, hlen] at this
      obtain ⟨avs, h1, h2⟩ := this
      refine ⟨avs, ?_, h2⟩
      simp only [Has, hu]
      exact h1
    · rename_i e hu
      simp only [Bool.and_eq_true, decide_eq_true_eq, beq_iff_eq] at hp
      obtain ⟨⟨h1, h0, hby⟩, hpe⟩ := hp
      rcases DataW.trod_slice hu h with ⟨rfl, _⟩ | ⟨a, len, cap, elems, rest, n', hk, rfl, e0, _, hl, hm, hln0, hel, _⟩
      · refine ⟨[.list []], ?_, .cons (.list (cs := []) (sz := 0) .nil (by simp) rfl rfl (by simp) rfl (Nat.zero_le _) (Nat.zero_le _)) .nil, by simp [h1], rfl, rfl⟩
        simp only [Has, hu]
        exact ⟨[], rfl, Nat.zero_le _, by simp, Nat.zero_le _⟩
      · obtain rfl : k = n' := by omega
        have hbx : ∀ x ∈ elems, Fit P M e x.1 := fun x hx => by
          cases e0
          refine hb.imp id fun hb => hb.imp (fun hb => ?_) fun hb => ?_
          · rw [Rows.uptoBulk] at hb
            have := bulk_mem (l := elems.map (·.1)) (List.mem_map.2 ⟨x, hx, rfl⟩)
            omega
          · rw [DataW.weights, hu, List.all_cons, List.all_append, Bool.and_eq_true, Bool.and_eq_true] at hb
            exact weightsAll_mem hb.2.1 (List.mem_map.2 ⟨x, hx, rfl⟩)
        have hlenM : len ≤ M := by
          cases e0
          rcases hb with rfl | hb | hb
          · omega
          · have key : ∀ l : List (DataW H), l.length ≤ Rows.uptoBulkAll l := by
              intro l
              induction l with
              | nil => simp
              | cons x l ih =>
                have : 1 ≤ Rows.uptoBulk x := by unfold Rows.uptoBulk; split <;> omega
                rw [Rows.uptoBulkAll, List.length_cons]
                omega
            rw [Rows.uptoBulk] at hb
            have := key (elems.map (·.1))
            rw [List.length_map] at this
            omega
          · rw [DataW.weights, hu, List.all_cons, Bool.and_eq_true] at hb
            have h5 := hb.1
            simp only [decide_eq_true_eq, List.length_map] at h5
            have h6 : elems.length * 1 ≤ (elems.length + rest.length) * P.bytesOf e := Nat.mul_le_mul (Nat.le_add_right _ _) hby
            omega
        haveI : Inhabited ({c : List Value // c.length = P.cellsOf e} × List AV) := ⟨(⟨List.replicate (P.cellsOf e) (.bool false), by simp⟩, [])⟩
        obtain ⟨F, hF⟩ := choose_lt (α := {c : List Value // c.length = P.cellsOf e} × List AV) (n := len) (p := fun i x => W.cells? 0 (a.add (i * P.cellsOf e)) (P.cellsOf e) = some x.1.1 ∧ Has P M k e x.2 ∧ RepL (Gh.bare fun b o => sv W b o) x.2 x.1.1 ∧ x.2.length = P.cellsOf e ∧ AV.rfL x.2 = true ∧ x.2.all AV.leaf = true) (fun i hi => by
          have hb := hel i hi
          rw [List.getElem?_eq_getElem (by omega)] at hb
          obtain ⟨cs', c1, c2⟩ := Option.bind_eq_some_iff.1 hb
          obtain ⟨_, hln, _⟩ := World.cells?_some c1
          obtain ⟨avs, o1, o2, o3, o4, o5⟩ := open_deep hP k e cs' _ _ hpe c2 (hbx _ (List.getElem_mem _))
          exact ⟨(⟨cs', hln⟩, avs), c1, o1, o2, o3, o4, o5⟩)
        have cellAt : ∀ i j, i < len → j < P.cellsOf e → W.cell? (a.add (i * P.cellsOf e + j)) = (F i).1.1[j]? := by
          intro i j hi hj
          obtain ⟨_, _, h3⟩ := World.cells?_some (hF i hi).1
          rw [← h3 j hj, add_add]
        have hspot : 0 < len → a.spot = none := by
          intro hc
          have := cellAt 0 0 hc h0
          rw [Nat.zero_mul, show a.add (0 + 0) = a from rfl, List.getElem?_eq_getElem (by rw [(F 0).1.2]; exact h0)] at this
          unfold World.cell? at this
          split at this
          · split at this
            · cases this
            · rename_i h; simpa using h
          · cases this
        have hel' : ∀ c ∈ (List.range len).map (fun i => (F i).2), ∃ i, i < len ∧ c = (F i).2 := by
          intro c hc
          obtain ⟨i, hi, rfl⟩ := List.mem_map.1 hc
          exact ⟨i, List.mem_range.1 hi, rfl⟩
        have hflat : ∀ L : List (List AV), (∀ c ∈ L, c.all AV.leaf = true) → flat (L.map elemV) = L.flatten := by
          intro L
          induction L with
          | nil => intro _; rfl
          | cons c L ih =>
            intro hh
            show (elemV c).cells ++ flat (L.map elemV) = c ++ L.flatten
            rw [elemV_cells (hh c (by simp)), ih fun x hx => hh x (by simp [hx])]
        have hrf : ∀ L : List (List AV), (∀ c ∈ L, AV.rfL c = true) → AV.rfL L.flatten = true := by
          intro L
          induction L with
          | nil => intro _; rfl
          | cons c L ih =>
            intro hh
            rw [List.flatten_cons, rfL_append, hh c (by simp), ih fun x hx => hh x (by simp [hx])] <;> rfl
        have hlf : ∀ L : List (List AV), (∀ c ∈ L, c.all AV.leaf = true) → L.flatten.all AV.leaf = true := by
          intro L
          induction L with
          | nil => intro _; rfl
          | cons c L ih =>
            intro hh
            rw [List.flatten_cons, List.all_append, hh c (by simp), ih fun x hx => hh x (by simp [hx])] <;> rfl
        have hl1 : ∀ c ∈ (List.range len).map (fun i => (F i).2), c.all AV.leaf = true := fun c hc => by
          obtain ⟨i, hi, rfl⟩ := hel' c hc
          exact (hF i hi).2.2.2.2.2
        have hl2 : ∀ c ∈ (List.range len).map (fun i => (F i).2), AV.rfL c = true := fun c hc => by
          obtain ⟨i, hi, rfl⟩ := hel' c hc
          exact (hF i hi).2.2.2.2.1
        refine ⟨[.list (((List.range len).map fun i => (F i).2).map elemV)], ?_, .cons (.list (cs := ((List.range len).map fun i => (F i).1.1).flatten) (sz := P.cellsOf e) ?_ ?_ ?_ ?_ ?_ (by simp) hl (by omega)) .nil, by simp [h1], rfl, rfl⟩
        · simp only [Has, hu]
          refine ⟨_, rfl, by simp; omega, ?_, by simpa using hlenM⟩
          intro c hc
          obtain ⟨i, hi, rfl⟩ := hel' c hc
          exact (hF i hi).2.1
        · rw [hflat _ hl1]
          refine repL_flatten (by simp) fun i g1 g2 => ?_
          simp only [List.length_map, List.length_range] at g1
          simp only [List.getElem_map, List.getElem_range]
          exact (hF i (by omega)).2.2.1
        · intro x hx
          obtain ⟨c, hc, rfl⟩ := List.mem_map.1 hx
          rw [elemV_cells (hl1 c hc)]
          obtain ⟨i, hi, rfl⟩ := hel' c hc
          exact (hF i hi).2.2.2.1
        · rw [hflat _ hl1]; exact hrf _ hl2
        · rw [hflat _ hl1]; exact hlf _ hl1
        · intro j u hj
          rw [← List.flatMap_def, flatMap_get h0 (fun i => (F i).1.2)] at hj
          by_cases hi : j / P.cellsOf e < len
          · rw [List.getElem?_range hi] at hj
            have hj : (F (j / P.cellsOf e)).1.1[j % P.cellsOf e]? = some u := hj
            have hk := cellAt (j / P.cellsOf e) (j % P.cellsOf e) (by omega) (Nat.mod_lt _ h0)
            rw [hj, Nat.div_add_mod'] at hk
            have hs := hspot (Nat.lt_of_le_of_lt (Nat.zero_le _) hi)
            obtain ⟨b, o, s⟩ := a
            subst hs
            refine ⟨b, o, rfl, ?_⟩
            refine sv_cell ?_
            show W.cell? ⟨b, o + j, none⟩ = some u
            rw [← hk]
            unfold Addr.add
            split
            · rename_i h; rw [h]; rfl
            · rfl
          · rw [List.getElem?_eq_none (by simp; omega)] at hj
            cases hj
    · cases hp

theorem deep_stays {t : TypeId} {v : Value} {d : DataW H} {p : List MemPlace} (hl : laidOutB P = true) (hr : P.readableRec t = true) (hrow : t < P.types.size) (h : DataW.Trod enc P W 0 (fun _ => true) true t v d p) :
    ∀ (W' : World) (sp : Nat → Bool), Below W.heap.size W W' → (∀ q ∈ p, sp q.block = true) → DataW.Trod enc P W' 0 sp true t v d p := by
  intro W' sp hb hs
  obtain ⟨n, hn⟩ := h
  exact Trod_stays hl hr hrow ⟨n, hn⟩ (fun x hx => hb.same (DataW.trod_lt n _ _ _ hn x hx)) hs

theorem open_struct {t : TypeId} {fs : Array Field} {ts : List TypeId} {r : Reach} {b0 : Nat} {v : Value} {d : DataW H} {p : List MemPlace} (hP : plainS P ts = true) (ht : ts.contains t = true) (hs : P.underlying t = some (.struct fs)) (hv : Value.okWide P W r b0 t v)
    (h : DataW.Trod enc P W 0 (fun _ => true) true t v d p) (hb : Fit P M t d) : ∃ k avs, Has P M k t avs ∧ Rep (Gh.bare fun b o => sv W b o) (.agg avs) v := by
  obtain ⟨⟨cs⟩, rfl, _⟩ := okWide_struct hs hv
  obtain ⟨n, hn⟩ := h
  obtain ⟨avs, h1, h2, _⟩ := open_deep hP n t _ _ _ ht hn hb
  exact ⟨n, avs, h1, .agg h2⟩

theorem list_of {X : Type} {f : X → List AV} {ok : X → Prop} : ∀ {l : List (List AV)}, (∀ c ∈ l, ∃ x, ok x ∧ c = f x) → ∃ xs : List X, l = xs.map f ∧ ∀ x ∈ xs, ok x
  | [], _ => ⟨[], rfl, by simp⟩
  | c :: l, h => by
    obtain ⟨x, hx, rfl⟩ := h c (by simp)
    obtain ⟨xs, rfl, hxs⟩ := list_of (l := l) fun c hc => h c (by simp [hc])
    exact ⟨x :: xs, rfl, by simpa using ⟨hx, hxs⟩⟩

end

end Go.Proofs.YtelhohgmmhbahaaGreatDoor.Br

namespace Go.Proofs.YtelhohgmmhbahaaGreatDoor.Br
open Go Am

section
variable {P : Program} {M k : Nat} {t : TypeId} {cs : List AV}

theorem has_int {ik : IntKind} (hu : P.underlying t = some (.int ik)) (h : Has P M k t cs) : ∃ n, cs = [.int ik n] ∧ (Lit.int ik n).wf = true := by
  cases k with
  | zero => cases h
  | succ k => simpa only [Has, hu] using h

theorem has_bool (hu : P.underlying t = some .bool) (h : Has P M k t cs) : ∃ b, cs = [.bool b] := by
  cases k with
  | zero => cases h
  | succ k => simpa only [Has, hu] using h

theorem has_str (hu : P.underlying t = some .string) (h : Has P M k t cs) : ∃ s, cs = [.str s] ∧ s.length ≤ M := by
  cases k with
  | zero => cases h
  | succ k => simpa only [Has, hu] using h

theorem has_slice {e : TypeId} (hu : P.underlying t = some (.slice e)) (h : Has P M k t cs) : ∃ (k' : Nat) (l : List (List AV)), cs = [.list (l.map elemV)] ∧ l.length ≤ maxLen ∧ ∀ c ∈ l, Has P M k' e c := by
  cases k with
  | zero => cases h
  | succ k =>
    simp only [Has, hu] at h
    obtain ⟨l, h1, h2, h3, _⟩ := h
    exact ⟨k, l, h1, h2, h3⟩

theorem has_sliceM {e : TypeId} (hu : P.underlying t = some (.slice e)) (h : Has P M k t cs) : ∃ (k' : Nat) (l : List (List AV)), cs = [.list (l.map elemV)] ∧ l.length ≤ M ∧ ∀ c ∈ l, Has P M k' e c := by
  cases k with
  | zero => cases h
  | succ k =>
    simp only [Has, hu] at h
    obtain ⟨l, h1, _, h3, h4⟩ := h
    exact ⟨k, l, h1, h4, h3⟩

theorem has_struct {fs : Array Field} (hu : P.underlying t = some (.struct fs)) (h : Has P M k t cs) : ∃ k', Has.HasL (Has P M k') fs.toList cs := by
  cases k with
  | zero => cases h
  | succ k =>
    simp only [Has, hu] at h
    exact ⟨k, h⟩

end

structure PO where
  num : Int
  name : List UInt8
  alias : List UInt8
  card : Int
  key : Int
  kind : Int
  target : Int
  union : Int

def PO.cells (o : PO) : List AV := [.int .i64 o.num, .str o.name, .str o.alias, .int .i64 o.card, .int .i64 o.key, .int .i64 o.kind, .int .i64 o.target, .int .i64 o.union]

structure PO.ok (M : Nat) (o : PO) : Prop where
  num : (Lit.int .i64 o.num).wf = true
  name : o.name.length ≤ M
  alias : o.alias.length ≤ M
  card : (Lit.int .i64 o.card).wf = true
  key : (Lit.int .i64 o.key).wf = true
  kind : (Lit.int .i64 o.kind).wf = true
  target : (Lit.int .i64 o.target).wf = true
  union : (Lit.int .i64 o.union).wf = true

theorem has_op {M k : Nat} {cs : List AV} (h : Has Tryz.prog M k 68 cs) : ∃ o : PO, o.ok M ∧ cs = o.cells := by
  obtain ⟨k, h⟩ := has_struct Tryz.underlying68 h
  simp only [Has.HasL] at h
  obtain ⟨_, _, rfl, h0, _, _, rfl, h1, _, _, rfl, h2, _, _, rfl, h3, _, _, rfl, h4, _, _, rfl, h5, _, _, rfl, h6, _, _, rfl, h7, rfl⟩ := h
  obtain ⟨a0, rfl, w0⟩ := has_int Tryz.underlying3 h0
  obtain ⟨a1, rfl, w1⟩ := has_str Tryz.underlying9 h1
  obtain ⟨a2, rfl, w2⟩ := has_str Tryz.underlying9 h2
  obtain ⟨a3, rfl, w3⟩ := has_int Tryz.underlying3 h3
  obtain ⟨a4, rfl, w4⟩ := has_int Tryz.underlying3 h4
  obtain ⟨a5, rfl, w5⟩ := has_int Tryz.underlying3 h5
  obtain ⟨a6, rfl, w6⟩ := has_int Tryz.underlying3 h6
  obtain ⟨a7, rfl, w7⟩ := has_int Tryz.underlying3 h7
  exact ⟨⟨a0, a1, a2, a3, a4, a5, a6, a7⟩, ⟨w0, w1, w2, w3, w4, w5, w6, w7⟩, rfl⟩

structure PG where
  name : List UInt8
  ops : List PO
  unions : Int

def PG.cells (g : PG) : List AV := [.str g.name, .list (g.ops.map fun o => .agg o.cells), .int .i64 g.unions]

structure PG.ok (M : Nat) (g : PG) : Prop where
  name : g.name.length ≤ M
  len : g.ops.length ≤ maxLen
  ops : ∀ o ∈ g.ops, o.ok M
  unions : (Lit.int .i64 g.unions).wf = true

theorem has_prog {M k : Nat} {cs : List AV} (h : Has Tryz.prog M k 48 cs) : ∃ g : PG, g.ok M ∧ cs = g.cells := by
  obtain ⟨k, h⟩ := has_struct Tryz.underlying48 h
  simp only [Has.HasL] at h
  obtain ⟨_, _, rfl, h0, _, _, rfl, h1, _, _, rfl, h2, rfl⟩ := h
  obtain ⟨a0, rfl, w0⟩ := has_str Tryz.underlying9 h0
  obtain ⟨k', l, rfl, w1, hl⟩ := has_slice Tryz.underlying46 h1
  obtain ⟨a2, rfl, w2⟩ := has_int Tryz.underlying3 h2
  obtain ⟨ops, rfl, hok⟩ := list_of (f := PO.cells) (ok := PO.ok M) fun c hc => has_op (hl c hc)
  refine ⟨⟨a0, ops, a2⟩, ⟨w0, by simpa using w1, hok, w2⟩, ?_⟩
  simp only [PG.cells, List.map_map, List.cons_append, List.nil_append]
  rfl

structure PS where
  lo : Int
  hi : Int

def PS.cells (x : PS) : List AV := [.int .i64 x.lo, .int .i64 x.hi]
def PS.ok (x : PS) : Prop := (Lit.int .i64 x.lo).wf = true ∧ (Lit.int .i64 x.hi).wf = true

theorem has_span {M k : Nat} {cs : List AV} (h : Has Tryz.prog M k 129 cs) : ∃ x : PS, x.ok ∧ cs = x.cells := by
  obtain ⟨k, h⟩ := has_struct Tryz.underlying129 h
  simp only [Has.HasL] at h
  obtain ⟨_, _, rfl, h0, _, _, rfl, h1, rfl⟩ := h
  obtain ⟨a0, rfl, w0⟩ := has_int Tryz.underlying3 h0
  obtain ⟨a1, rfl, w1⟩ := has_int Tryz.underlying3 h1
  exact ⟨⟨a0, a1⟩, ⟨w0, w1⟩, rfl⟩

structure PN where
  name : List UInt8
  val : List AV

def PN.cells (x : PN) : List AV := .str x.name :: x.val
def PN.ok (P : Program) (M : Nat) (t : TypeId) (x : PN) : Prop := x.name.length ≤ M ∧ ∃ k, Has P M k t x.val

theorem has_note {M k : Nat} {cs : List AV} (h : Has Tryz.prog M k 123 cs) : ∃ x : PN, x.ok Tryz.prog M 32 ∧ cs = x.cells := by
  obtain ⟨k, h⟩ := has_struct Tryz.underlying123 h
  simp only [Has.HasL] at h
  obtain ⟨_, _, rfl, h0, a1, _, rfl, h1, rfl⟩ := h
  obtain ⟨a0, rfl, w0⟩ := has_str Tryz.underlying9 h0
  exact ⟨⟨a0, a1⟩, ⟨w0, k, h1⟩, by simp [PN.cells]⟩

structure PI where
  name : List UInt8
  num : Int
  notes : List PN

def PI.cells (x : PI) : List AV := [.str x.name, .int .i64 x.num, .list (x.notes.map fun n => elemV n.cells)]

structure PI.ok (M : Nat) (x : PI) : Prop where
  name : x.name.length ≤ M
  num : (Lit.int .i64 x.num).wf = true
  len : x.notes.length ≤ maxLen
  notes : ∀ n ∈ x.notes, n.ok Tryz.prog M 32

theorem has_item {M k : Nat} {cs : List AV} (h : Has Tryz.prog M k 107 cs) : ∃ x : PI, x.ok M ∧ cs = x.cells := by
  obtain ⟨k, h⟩ := has_struct Tryz.underlying107 h
  simp only [Has.HasL] at h
  obtain ⟨_, _, rfl, h0, _, _, rfl, h1, _, _, rfl, h2, rfl⟩ := h
  obtain ⟨a0, rfl, w0⟩ := has_str Tryz.underlying9 h0
  obtain ⟨a1, rfl, w1⟩ := has_int Tryz.underlying3 h1
  obtain ⟨k', l, rfl, w2, hl⟩ := has_slice Tryz.underlying52 h2
  obtain ⟨ns, rfl, hok⟩ := list_of (f := PN.cells) (ok := PN.ok Tryz.prog M 32) fun c hc => has_note (hl c hc)
  refine ⟨⟨a0, a1, ns⟩, ⟨w0, w1, by simpa using w2, hok⟩, ?_⟩
  simp only [PI.cells, List.map_map, List.cons_append, List.nil_append]
  rfl

structure PE where
  name : List UInt8
  opn : Bool
  items : List PI
  free : List PS
  notes : List PN

def PE.cells (x : PE) : List AV := [.str x.name, .bool x.opn, .list (x.items.map fun n => .agg n.cells), .list (x.free.map fun n => .agg n.cells), .list (x.notes.map fun n => elemV n.cells)]

structure PE.ok (M : Nat) (x : PE) : Prop where
  name : x.name.length ≤ M
  len1 : x.items.length ≤ maxLen
  items : ∀ n ∈ x.items, n.ok M
  len2 : x.free.length ≤ maxLen
  free : ∀ n ∈ x.free, n.ok
  len3 : x.notes.length ≤ maxLen
  notes : ∀ n ∈ x.notes, n.ok Tryz.prog M 32

theorem has_enum {M k : Nat} {cs : List AV} (h : Has Tryz.prog M k 71 cs) : ∃ x : PE, x.ok M ∧ cs = x.cells := by
  obtain ⟨k, h⟩ := has_struct Tryz.underlying71 h
  simp only [Has.HasL] at h
  obtain ⟨_, _, rfl, h0, _, _, rfl, h1, _, _, rfl, h2, _, _, rfl, h3, _, _, rfl, h4, rfl⟩ := h
  obtain ⟨a0, rfl, w0⟩ := has_str Tryz.underlying9 h0
  obtain ⟨a1, rfl⟩ := has_bool Tryz.underlying4 h1
  obtain ⟨k2, l2, rfl, w2, hl2⟩ := has_slice Tryz.underlying69 h2
  obtain ⟨k3, l3, rfl, w3, hl3⟩ := has_slice Tryz.underlying58 h3
  obtain ⟨k4, l4, rfl, w4, hl4⟩ := has_slice Tryz.underlying52 h4
  obtain ⟨x2, rfl, o2⟩ := list_of (f := PI.cells) (ok := PI.ok M) fun c hc => has_item (hl2 c hc)
  obtain ⟨x3, rfl, o3⟩ := list_of (f := PS.cells) (ok := PS.ok) fun c hc => has_span (hl3 c hc)
  obtain ⟨x4, rfl, o4⟩ := list_of (f := PN.cells) (ok := PN.ok Tryz.prog M 32) fun c hc => has_note (hl4 c hc)
  refine ⟨⟨a0, a1, x2, x3, x4⟩, ⟨w0, by simpa using w2, o2, by simpa using w3, o3, by simpa using w4, o4⟩, ?_⟩
  simp only [PE.cells, List.map_map, List.cons_append, List.nil_append]
  rfl

structure PL where
  progs : List PG
  enums : List PE

def PL.av (p : PL) : AV := .agg [.list (p.progs.map fun n => .agg n.cells), .list (p.enums.map fun n => .agg n.cells)]

structure PL.ok (M : Nat) (x : PL) : Prop where
  len1 : x.progs.length ≤ maxLen
  progs : ∀ n ∈ x.progs, n.ok M
  len2 : x.enums.length ≤ maxLen
  enums : ∀ n ∈ x.enums, n.ok M

theorem has_plan {M k : Nat} {cs : List AV} (h : Has Tryz.prog M k 25 cs) : ∃ x : PL, x.ok M ∧ .agg cs = x.av := by
  obtain ⟨k, h⟩ := has_struct Tryz.underlying25 h
  simp only [Has.HasL] at h
  obtain ⟨_, _, rfl, h0, _, _, rfl, h1, rfl⟩ := h
  obtain ⟨k2, l2, rfl, w2, hl2⟩ := has_slice Tryz.underlying22 h0
  obtain ⟨k3, l3, rfl, w3, hl3⟩ := has_slice Tryz.underlying23 h1
  obtain ⟨x2, rfl, o2⟩ := list_of (f := PG.cells) (ok := PG.ok M) fun c hc => has_prog (hl2 c hc)
  obtain ⟨x3, rfl, o3⟩ := list_of (f := PE.cells) (ok := PE.ok M) fun c hc => has_enum (hl3 c hc)
  refine ⟨⟨x2, x3⟩, ⟨by simpa using w2, o2, by simpa using w3, o3⟩, ?_⟩
  simp only [PL.av, List.map_map, List.cons_append, List.nil_append]
  rfl

end Go.Proofs.YtelhohgmmhbahaaGreatDoor.Br

set_option linter.unusedSimpArgs false
namespace Go.Proofs.YtelhohgmmhbahaaGreatDoor.Va
open Go Am Rc Bt Br

def fxi {α : Type} (p : α → Bool) : List α → Nat → Int
  | [], _ => -1
  | x :: l, i => if p x = true then (i : Int) else fxi p l (i + 1)

theorem fxi_spec {α : Type} (p : α → Bool) : ∀ (l : List α) (i : Nat), (fxi p l i = -1 ∧ l.find? p = none) ∨ ∃ k o, fxi p l i = ((i + k : Nat) : Int) ∧ l[k]? = some o ∧ l.find? p = some o
  | [], _ => .inl ⟨rfl, rfl⟩
  | x :: l, i => by
    unfold fxi
    rw [List.find?_cons]
    cases h : p x with
    | true => exact .inr ⟨0, x, by simp, rfl, rfl⟩
    | false =>
      simp only [Bool.false_eq_true, if_false]
      rcases fxi_spec p l (i + 1) with h' | ⟨k, o, h1, h2, h3⟩
      · exact .inl h'
      · exact .inr ⟨k + 1, o, by rw [h1]; congr 1; omega, by simpa using h2, h3⟩

theorem fxi_drop {α : Type} (p : α → Bool) {l : List α} {i : Nat} {x : α} (hx : l[i]? = some x) : fxi p (l.drop i) i = if p x = true then (i : Int) else fxi p (l.drop (i + 1)) (i + 1) := by
  have hlt : i < l.length := (List.getElem?_eq_some_iff.1 hx).1
  rw [List.drop_eq_getElem_cons hlt, show l[i] = x from (List.getElem?_eq_some_iff.1 hx).2]
  rfl

def oav (o : PO) : AV := .agg o.cells
def gav (g : PG) : AV := .agg g.cells
def iav (x : PI) : AV := .agg x.cells
def eav (x : PE) : AV := .agg x.cells

section ops
variable (L : List PO) (hl : L.length ≤ maxLen) (p : PO → Bool) (c : Nat) (cap : AV) (m : Mem)

end ops

section
variable (o : PO) (fr frO : Nat → Ob)

end

end Go.Proofs.YtelhohgmmhbahaaGreatDoor.Va

set_option linter.unusedSimpArgs false
namespace Go.Proofs.YtelhohgmmhbahaaGreatDoor.Va
open Go Am Rc Bt Br

def allU (p : Nat → Bool) : Nat → Bool
  | 0 => true
  | n + 1 => allU p n && p n

theorem allU_iff {p : Nat → Bool} {n : Nat} : allU p n = true ↔ ∀ i, i < n → p i = true := by
  induction n with
  | zero => simp [allU]
  | succ n ih =>
    simp only [allU, Bool.and_eq_true, ih]
    constructor
    · rintro ⟨h1, h2⟩ i hi
      rcases Nat.lt_succ_iff_lt_or_eq.1 hi with h | rfl
      · exact h1 i h
      · exact h2
    · intro h
      exact ⟨fun i hi => h i (by omega), h n (by omega)⟩

theorem allU_false {p : Nat → Bool} {n i : Nat} (hi : i < n) (h : p i = false) : allU p n = false := by
  rw [Bool.eq_false_iff]
  intro h'
  rw [allU_iff.1 h' i hi] at h
  cases h

theorem allU_and {p q : Nat → Bool} {n : Nat} : allU (fun i => p i && q i) n = (allU p n && allU q n) := by
  induction n with
  | zero => rfl
  | succ n ih =>
    simp only [allU, ih]
    cases allU p n <;> cases allU q n <;> cases p n <;> cases q n <;> rfl

def ask {α : Type} (l : List α) (q : α → Bool) (i : Nat) : Bool := match l[i]? with
  | some x => q x
  | none => true

theorem ask_at {α : Type} {l : List α} {q : α → Bool} {i : Nat} {x : α} (h : l[i]? = some x) : ask l q i = q x := by
  unfold ask; rw [h]

theorem allU_ask {α : Type} (l : List α) (q : α → Bool) : allU (ask l q) l.length = l.all q := by
  rw [Bool.eq_iff_iff, allU_iff, List.all_eq_true]
  constructor
  · intro h x hx
    obtain ⟨i, hi⟩ := List.mem_iff_getElem?.1 hx
    have := h i (List.getElem?_eq_some_iff.1 hi).1
    rwa [ask_at hi] at this
  · intro h i hi
    rw [ask_at (List.getElem?_eq_getElem hi)]
    exact h _ (List.getElem_mem _)

def two {α : Type} (l : List α) (lt : α → α → Bool) (i : Nat) : Bool := match i with
  | 0 => true
  | k + 1 => match l[k]?, l[k + 1]? with
    | some x, some y => lt x y
    | _, _ => true

theorem two_at {α : Type} {l : List α} {lt : α → α → Bool} {k : Nat} {x y : α} (h : l[k]? = some x) (h' : l[k + 1]? = some y) : two l lt (k + 1) = lt x y := by
  unfold two; simp only [h, h']
theorem two_zero {α : Type} {l : List α} {lt : α → α → Bool} : two l lt 0 = true := rfl

def adj {α : Type} (l : List α) (lt : α → α → Bool) : Bool := allU (two l lt) l.length

def uniq {α : Type} (l : List α) (nm : α → List UInt8) (i : Nat) : Bool := match l[i]? with
  | some x => (l.take i).all fun y => !(nm y == nm x)
  | none => true
theorem uniq_at {α : Type} {l : List α} {nm : α → List UInt8} {i : Nat} {x : α} (h : l[i]? = some x) : uniq l nm i = (l.take i).all fun y => !(nm y == nm x) := by
  unfold uniq; rw [h]
def once {α : Type} (l : List α) (nm : α → List UInt8) : Bool := allU (uniq l nm) l.length

theorem take_all {α : Type} {l : List α} {q : α → Bool} {i : Nat} {x : α} (h : l[i]? = some x) : (l.take (i + 1)).all q = ((l.take i).all q && q x) := by
  rw [List.take_add_one, h]
  simp
theorem take_any {α : Type} {l : List α} {q : α → Bool} {i : Nat} {x : α} (h : l[i]? = some x) : (l.take (i + 1)).any q = ((l.take i).any q || q x) := by
  rw [List.take_add_one, h]
  simp
theorem all_not {α : Type} {l : List α} {q : α → Bool} : (l.all fun x => !q x) = !l.any q := by
  induction l with
  | nil => rfl
  | cons x l ih => simp [ih]

def letter (c : UInt8) : Bool := (decide (97 ≤ c.toNat) && decide (c.toNat ≤ 122)) || (decide (65 ≤ c.toNat) && decide (c.toNat ≤ 90))
def pchar (c : UInt8) : Bool := letter c || c.toNat == 95 || (decide (48 ≤ c.toNat) && decide (c.toNat ≤ 57))
def isPart : List UInt8 → Bool
  | [] => false
  | c :: t => decide ((c :: t).length ≤ 40) && letter c && t.all pchar
def words : List (List UInt8) := [[109, 101, 115, 115, 97, 103, 101], [101, 110, 117, 109], [115, 101, 114, 118, 105, 99, 101], [117, 110, 105, 111, 110], [109, 97, 112], [108, 105, 115, 116], [114, 101, 113, 117, 105, 114, 101, 100], [111, 112, 116, 105, 111, 110, 97, 108], [112, 108, 97, 105, 110], [100, 101, 102, 97, 117, 108, 116], [114, 101, 115, 101, 114, 118, 101, 100],
  [105, 109, 112, 111, 114, 116], [115, 112, 97, 99, 101], [114, 112, 99], [115, 116, 114, 101, 97, 109], [114, 101, 116, 117, 114, 110, 115], [111, 112, 101, 110], [116, 114, 117, 101], [102, 97, 108, 115, 101], [110, 97, 110], [105, 110, 102]]
def isWord (s : List UInt8) : Bool := words.any fun w => s == w
def usab (s : List UInt8) : Bool := isPart s && !isWord s
def parts : List UInt8 → List (List UInt8)
  | [] => [[]]
  | c :: t => if c = 46 then [] :: parts t else match parts t with
    | [] => [[c]]
    | p :: ps => (c :: p) :: ps
def full (s : List UInt8) : Bool := decide (s.length ≤ 120) && (parts s).all isPart && !(parts s).any isWord

theorem parts_ne : ∀ s : List UInt8, parts s ≠ []
  | [] => by simp [parts]
  | c :: t => by
    unfold parts
    split
    · simp
    · split <;> simp

theorem parts_app (a : List UInt8) : ∀ s : List UInt8, (∀ c ∈ a, c ≠ 46) → parts (a ++ s) = match parts s with
    | [] => [a]
    | p :: ps => (a ++ p) :: ps := by
  induction a with
  | nil => intro s _; cases h : parts s with
    | nil => exact absurd h (parts_ne s)
    | cons p ps => simp [h]
  | cons c a ih =>
    intro s h
    have hc : c ≠ 46 := h c (by simp)
    rw [List.cons_append, parts, if_neg hc, ih s fun x hx => h x (by simp [hx])]
    cases hs : parts s with
    | nil => exact absurd hs (parts_ne s)
    | cons p ps => rfl

theorem parts_one {s : List UInt8} (h : ∀ c ∈ s, c ≠ 46) : parts s = [s] := by
  have := parts_app s [] h
  simpa [parts] using this

theorem parts_cons {a t : List UInt8} (h : ∀ c ∈ a, c ≠ 46) : parts (a ++ 46 :: t) = a :: parts t := by
  rw [parts_app a _ h, parts, if_pos rfl]
  simp

theorem parts_snoc {a t : List UInt8} (h : ∀ c ∈ t, c ≠ 46) : parts (a ++ 46 :: t) = parts a ++ [t] := by
  induction a with
  | nil =>
    show parts (46 :: t) = [[]] ++ [t]
    rw [show parts (46 :: t) = [] :: parts t from by rw [parts, if_pos rfl], parts_one h]
    rfl
  | cons c a ih =>
    rw [List.cons_append, parts, parts, ih]
    split
    · rfl
    · cases hs : parts a with
      | nil => exact absurd hs (parts_ne a)
      | cons p ps => rfl

theorem parts_len (s : List UInt8) : (parts s).length = s.count 46 + 1 := by
  induction s with
  | nil => rfl
  | cons c t ih =>
    unfold parts
    split
    · rename_i h; subst h; simp [ih]
    · rename_i h
      rw [List.count_cons_of_ne (by simpa using h)]
      cases hs : parts t with
      | nil => exact absurd hs (parts_ne t)
      | cons p ps => rw [hs] at ih; simpa using ih

def lim1 (g : PG) : Bool := decide (g.ops.length ≤ 64)
def lim2 (e : PE) : Bool := decide (1 ≤ e.items.length) && decide (e.items.length ≤ 64) && decide (e.free.length ≤ 16)
def lim (P : PL) : Bool := decide (P.progs.length ≤ 64) && decide (P.enums.length ≤ 64) && P.progs.all lim1 && P.enums.all lim2
def nam1 (g : PG) : Bool := full g.name && g.ops.all fun o => usab o.name
def nam2 (e : PE) : Bool := full e.name && e.items.all fun o => usab o.name
def nam (P : PL) : Bool := P.progs.all nam1 && P.enums.all nam2
def ordn {α : Type} (f : α → Int) (x y : α) : Bool := decide (f x < f y)
def ords {α : Type} (f : α → List UInt8) (x y : α) : Bool := Op.bytesLess (f x) (f y)
def ord1 (g : PG) : Bool := adj g.ops (ordn PO.num)
def ord2 (e : PE) : Bool := adj e.items (ordn PI.num)
def ord (P : PL) : Bool := adj P.progs (ords PG.name) && adj P.enums (ords PE.name) && P.progs.all ord1 && P.enums.all ord2
def sin1 (P : PL) (g : PG) : Bool := (P.enums.all fun e => !(e.name == g.name)) && once g.ops PO.name
def sin2 (e : PE) : Bool := once e.items PI.name
def sin (P : PL) : Bool := P.progs.all (sin1 P) && P.enums.all sin2
def rngO (o : PO) : Bool := decide (o.num ≥ 1) && decide (o.num ≤ 65535)
def spn (x : PS) : Bool := decide (x.lo ≥ 0) && decide (x.hi ≤ 2147483647) && decide (x.lo ≤ x.hi)
def spt (x y : PS) : Bool := decide (y.lo > x.hi)
def kept (l : List PS) (n : Int) : Bool := l.any fun x => decide (x.lo ≤ n) && decide (n ≤ x.hi)
def rngI (e : PE) (x : PI) : Bool := decide (x.num ≤ 2147483647) && !kept e.free x.num
def frst (e : PE) : Bool := match e.items with
  | [] => true
  | x :: _ => x.num == 0
def rng2 (e : PE) : Bool := e.free.all spn && adj e.free spt && frst e && e.items.all (rngI e)
def rng (P : PL) : Bool := P.progs.all (fun g => g.ops.all rngO) && P.enums.all rng2

end Go.Proofs.YtelhohgmmhbahaaGreatDoor.Va

set_option linter.unusedSimpArgs false
namespace Go.Proofs.YtelhohgmmhbahaaGreatDoor.Va
open Go Am Rc Bt Br

def spav (x : PS) : AV := .agg x.cells
def rav (x : List UInt8) : AV := .str x

theorem fxi_any0 {α : Type} (p : α → Bool) (l : List α) : decide (fxi p l 0 ≥ 0) = l.any p := by
  rcases fxi_spec p l 0 with ⟨h1, h2⟩ | ⟨k, o, h1, _, h3⟩
  · rw [h1]
    have : l.any p = false := by
      rw [List.any_eq_false]
      intro x hx
      exact fun h => by have := List.find?_eq_none.1 h2 x hx; exact this h
    rw [this]; rfl
  · rw [h1]
    have : l.any p = true := List.any_eq_true.2 ⟨o, List.mem_of_find?_eq_some h3, List.find?_some h3⟩
    rw [this]
    exact decide_eq_true (by omega)

theorem wp64 (k n : Nat) (h : k + 1 < n) (hn : n ≤ maxLen) : IntKind.i64.wrap (((k + 1 : Nat) : Int) - 1) = (k : Int) := by
  rw [wi64]; simp only [maxLen] at hn; omega

section
variable (L : List PG) (hl : L.length ≤ maxLen) (p : PG → Bool) (c : Nat) (cs : List AV) (m : Mem)

def JxG (k : Nat) (st : St) : Prop :=
  ∃ f i, st = ⟨f, noObs :: m, []⟩ ∧ k = L.length - i ∧ fxi p L 0 = fxi p (L.drop i) i ∧ f 0 = .list (L.map gav) ∧ f 1 = .fn (.func c) [] (AV.shL cs) ∧ f 7 = .int .i64 (L.length : Nat) ∧ f 8 = .int .i64 (i : Nat)

include hl in
theorem z208 (hc : ∀ o ∈ L, ACalls Tryz.prog c (gav o :: AV.shL cs) (noObs :: m) fun y m1 => y = .bool (p o) ∧ m1 = noObs :: m) :
    ACalls Tryz.prog 208 [.list (L.map gav), .fn (.func c) [] cs] m fun y m1 => y = .int .i64 (fxi p L 0) ∧ m1 = m := by
  refine acalls_of_awp (rc := r208) (rs := o208) Tryz.func208 rfl rfl Tryz.ntmps208 k208 q208 (by simp) ?_
  simp only [g208_0, g208_1, g208_7, r208, o208, List.length_map, eES, Nat.reduceBEq]
  refine awp_loop (JxG L p c cs m) _ ⟨_, 0, rfl, rfl, rfl, (by first | rfl | simp only [eES, eEX, Nat.reduceBEq, ↓reduceIte, reduceCtorEq, Nat.reduceEqDiff]), (by first | rfl | simp only [eES, eEX, Nat.reduceBEq, ↓reduceIte, reduceCtorEq, Nat.reduceEqDiff]), (by first | rfl | simp only [eES, eEX, Nat.reduceBEq, ↓reduceIte, reduceCtorEq, Nat.reduceEqDiff]), (by first | rfl | simp only [eES, eEX, Nat.reduceBEq, ↓reduceIte, reduceCtorEq, Nat.reduceEqDiff])⟩ ?_
  rintro _ st ⟨f, i, rfl, rfl, hx, h0, h1, h7, h8⟩
  simp only [l208_0, g208_2, g208_3, g208_4, g208_5, g208_6, h7, h8, eES, Nat.reduceBEq, ↓reduceIte]
  by_cases hlt : i < L.length
  · obtain ⟨x, hi⟩ : ∃ x, L[i]? = some x := ⟨L[i], List.getElem?_eq_getElem hlt⟩
    have hcl := hc x (List.mem_of_getElem? hi)
    have hg : (L.map gav)[i]? = some (gav x) := by simp [hi]
    have e1 := wi64_s i _ hlt hl
    simp only [gav, PG.cells] at hcl
    simp only [lt_t hlt, nneg, Int.toNat_natCast, aiaddr, hg, gav, PG.cells, h0, h1, h8, eES, eEX, Nat.reduceBEq, ↓reduceIte, Nat.reduceAdd, Nat.reduceLeDiff]
    refine aops_callV (fa := []) (fb := AV.shL cs) (by first | rfl | exact h1 | simp only [h1, eES, eEX, Nat.reduceBEq, ↓reduceIte, reduceCtorEq, Nat.reduceEqDiff]) hcl (by simp only [List.map_cons, List.map_nil, List.nil_append, List.cons_append, eES, Nat.reduceBEq]) ?_
    rw [fxi_drop p hi] at hx
    cases hp : p x
    · rw [hp] at hx
      simp only [Bool.false_eq_true, if_false] at hx
      simp only [h8, e1, eES, Nat.reduceBEq, ↓reduceIte]
      exact ⟨L.length - (i + 1), by omega, _, i + 1, rfl, rfl, hx, (by first | rfl | exact h0 | simp only [h0, eES, eEX, Nat.reduceBEq, ↓reduceIte, reduceCtorEq, Nat.reduceEqDiff]), (by first | rfl | exact h1 | simp only [h1, eES, eEX, Nat.reduceBEq, ↓reduceIte, reduceCtorEq, Nat.reduceEqDiff]), (by first | rfl | exact h7 | simp only [h7, eES, eEX, Nat.reduceBEq, ↓reduceIte, reduceCtorEq, Nat.reduceEqDiff]), (by first | rfl | simp only [eES, eEX, Nat.reduceBEq, ↓reduceIte, reduceCtorEq, Nat.reduceEqDiff])⟩
    · rw [hp] at hx
      simp only [if_true] at hx
      simp only [hx, eES, Nat.reduceBEq]
  · have hx' : fxi p L 0 = -1 := by rw [hx, List.drop_of_length_le (by omega)]; rfl
    simp only [lt_f hlt, hx', eES, Nat.reduceBEq, ↓reduceIte]

include hl in
theorem z145 (hc : ∀ o ∈ L, ACalls Tryz.prog c (gav o :: AV.shL (AV.shL cs)) (noObs :: noObs :: m) fun y m1 => y = .bool (p o) ∧ m1 = noObs :: noObs :: m) :
    ACalls Tryz.prog 145 [.list (L.map gav), .fn (.func c) [] cs] m fun y m1 => y = .bool (L.any p) ∧ m1 = m := by
  refine acalls_of_awp (rc := r145) (rs := o145) Tryz.func145 rfl rfl Tryz.ntmps145 k145 q145 (by simp) ?_
  simp only [g145_0, g145_1, r145, o145, eES, Nat.reduceBEq]
  refine aops_callF (z208 L hl p c (AV.shL cs) _ hc) (by simp only [List.map_cons, List.map_nil, eES, Nat.reduceBEq] <;> rfl) ?_
  simp only [fxi_any0, eES, Nat.reduceBEq, ↓reduceIte]

include hl in
theorem z65 (hc : ∀ o ∈ L, ACalls Tryz.prog c (gav o :: AV.shL (AV.shL (AV.shL cs))) (noObs :: noObs :: noObs :: m) fun y m1 => y = .bool (p o) ∧ m1 = noObs :: noObs :: noObs :: m) :
    ACalls Tryz.prog 65 [.list (L.map gav), .fn (.func c) [] cs] m fun y m1 => y = .bool (L.any p) ∧ m1 = m := by
  refine acalls_of_awp (rc := r65) (rs := o65) Tryz.func65 rfl rfl Tryz.ntmps65 k65 q65 (by simp) ?_
  simp only [g65_0, g65_1, r65, o65, eES, Nat.reduceBEq]
  refine aops_callF (z145 L hl p c (AV.shL cs) _ hc) (by simp only [List.map_cons, List.map_nil, eES, Nat.reduceBEq] <;> rfl) ?_
  simp only [eES, Nat.reduceBEq]

end

section
variable (L : List PO) (hl : L.length ≤ maxLen) (p : PO → Bool) (c : Nat) (cs : List AV) (m : Mem)

def JxO (k : Nat) (st : St) : Prop :=
  ∃ f i, st = ⟨f, noObs :: m, []⟩ ∧ k = L.length - i ∧ fxi p L 0 = fxi p (L.drop i) i ∧ f 0 = .list (L.map oav) ∧ f 1 = .fn (.func c) [] (AV.shL cs) ∧ f 7 = .int .i64 (L.length : Nat) ∧ f 8 = .int .i64 (i : Nat)

include hl in
theorem z172 (hc : ∀ o ∈ L, ACalls Tryz.prog c (oav o :: AV.shL cs) (noObs :: m) fun y m1 => y = .bool (p o) ∧ m1 = noObs :: m) :
    ACalls Tryz.prog 172 [.list (L.map oav), .fn (.func c) [] cs] m fun y m1 => y = .int .i64 (fxi p L 0) ∧ m1 = m := by
  refine acalls_of_awp (rc := r172) (rs := o172) Tryz.func172 rfl rfl Tryz.ntmps172 k172 q172 (by simp) ?_
  simp only [g172_0, g172_1, g172_7, r172, o172, List.length_map, eES, Nat.reduceBEq]
  refine awp_loop (JxO L p c cs m) _ ⟨_, 0, rfl, rfl, rfl, (by first | rfl | simp only [eES, eEX, Nat.reduceBEq, ↓reduceIte, reduceCtorEq, Nat.reduceEqDiff]), (by first | rfl | simp only [eES, eEX, Nat.reduceBEq, ↓reduceIte, reduceCtorEq, Nat.reduceEqDiff]), (by first | rfl | simp only [eES, eEX, Nat.reduceBEq, ↓reduceIte, reduceCtorEq, Nat.reduceEqDiff]), (by first | rfl | simp only [eES, eEX, Nat.reduceBEq, ↓reduceIte, reduceCtorEq, Nat.reduceEqDiff])⟩ ?_
  rintro _ st ⟨f, i, rfl, rfl, hx, h0, h1, h7, h8⟩
  simp only [l172_0, g172_2, g172_3, g172_4, g172_5, g172_6, h7, h8, eES, Nat.reduceBEq, ↓reduceIte]
  by_cases hlt : i < L.length
  · obtain ⟨x, hi⟩ : ∃ x, L[i]? = some x := ⟨L[i], List.getElem?_eq_getElem hlt⟩
    have hcl := hc x (List.mem_of_getElem? hi)
    have hg : (L.map oav)[i]? = some (oav x) := by simp [hi]
    have e1 := wi64_s i _ hlt hl
    simp only [oav, PO.cells] at hcl
    simp only [lt_t hlt, nneg, Int.toNat_natCast, aiaddr, hg, oav, PO.cells, h0, h1, h8, eES, eEX, Nat.reduceBEq, ↓reduceIte, Nat.reduceAdd, Nat.reduceLeDiff]
    refine aops_callV (fa := []) (fb := AV.shL cs) (by first | rfl | exact h1 | simp only [h1, eES, eEX, Nat.reduceBEq, ↓reduceIte, reduceCtorEq, Nat.reduceEqDiff]) hcl (by simp only [List.map_cons, List.map_nil, List.nil_append, List.cons_append, eES, Nat.reduceBEq]) ?_
    rw [fxi_drop p hi] at hx
    cases hp : p x
    · rw [hp] at hx
      simp only [Bool.false_eq_true, if_false] at hx
      simp only [h8, e1, eES, Nat.reduceBEq, ↓reduceIte]
      exact ⟨L.length - (i + 1), by omega, _, i + 1, rfl, rfl, hx, (by first | rfl | exact h0 | simp only [h0, eES, eEX, Nat.reduceBEq, ↓reduceIte, reduceCtorEq, Nat.reduceEqDiff]), (by first | rfl | exact h1 | simp only [h1, eES, eEX, Nat.reduceBEq, ↓reduceIte, reduceCtorEq, Nat.reduceEqDiff]), (by first | rfl | exact h7 | simp only [h7, eES, eEX, Nat.reduceBEq, ↓reduceIte, reduceCtorEq, Nat.reduceEqDiff]), (by first | rfl | simp only [eES, eEX, Nat.reduceBEq, ↓reduceIte, reduceCtorEq, Nat.reduceEqDiff])⟩
    · rw [hp] at hx
      simp only [if_true] at hx
      simp only [hx, eES, Nat.reduceBEq]
  · have hx' : fxi p L 0 = -1 := by rw [hx, List.drop_of_length_le (by omega)]; rfl
    simp only [lt_f hlt, hx', eES, Nat.reduceBEq, ↓reduceIte]

include hl in
theorem z151 (hc : ∀ o ∈ L, ACalls Tryz.prog c (oav o :: AV.shL (AV.shL cs)) (noObs :: noObs :: m) fun y m1 => y = .bool (p o) ∧ m1 = noObs :: noObs :: m) :
    ACalls Tryz.prog 151 [.list (L.map oav), .fn (.func c) [] cs] m fun y m1 => y = .bool (L.any p) ∧ m1 = m := by
  refine acalls_of_awp (rc := r151) (rs := o151) Tryz.func151 rfl rfl Tryz.ntmps151 k151 q151 (by simp) ?_
  simp only [g151_0, g151_1, r151, o151, eES, Nat.reduceBEq]
  refine aops_callF (z172 L hl p c (AV.shL cs) _ hc) (by simp only [List.map_cons, List.map_nil, eES, Nat.reduceBEq] <;> rfl) ?_
  simp only [fxi_any0, eES, Nat.reduceBEq, ↓reduceIte]

include hl in
theorem z71 (hc : ∀ o ∈ L, ACalls Tryz.prog c (oav o :: AV.shL (AV.shL (AV.shL cs))) (noObs :: noObs :: noObs :: m) fun y m1 => y = .bool (p o) ∧ m1 = noObs :: noObs :: noObs :: m) :
    ACalls Tryz.prog 71 [.list (L.map oav), .fn (.func c) [] cs] m fun y m1 => y = .bool (L.any p) ∧ m1 = m := by
  refine acalls_of_awp (rc := r71) (rs := o71) Tryz.func71 rfl rfl Tryz.ntmps71 k71 q71 (by simp) ?_
  simp only [g71_0, g71_1, r71, o71, eES, Nat.reduceBEq]
  refine aops_callF (z151 L hl p c (AV.shL cs) _ hc) (by simp only [List.map_cons, List.map_nil, eES, Nat.reduceBEq] <;> rfl) ?_
  simp only [eES, Nat.reduceBEq]

end

section
variable (L : List PE) (hl : L.length ≤ maxLen) (p : PE → Bool) (c : Nat) (cs : List AV) (m : Mem)

def JxE (k : Nat) (st : St) : Prop :=
  ∃ f i, st = ⟨f, noObs :: m, []⟩ ∧ k = L.length - i ∧ fxi p L 0 = fxi p (L.drop i) i ∧ f 0 = .list (L.map eav) ∧ f 1 = .fn (.func c) [] (AV.shL cs) ∧ f 7 = .int .i64 (L.length : Nat) ∧ f 8 = .int .i64 (i : Nat)

include hl in
theorem z205 (hc : ∀ o ∈ L, ACalls Tryz.prog c (eav o :: AV.shL cs) (noObs :: m) fun y m1 => y = .bool (p o) ∧ m1 = noObs :: m) :
    ACalls Tryz.prog 205 [.list (L.map eav), .fn (.func c) [] cs] m fun y m1 => y = .int .i64 (fxi p L 0) ∧ m1 = m := by
  refine acalls_of_awp (rc := r205) (rs := o205) Tryz.func205 rfl rfl Tryz.ntmps205 k205 q205 (by simp) ?_
  simp only [g205_0, g205_1, g205_7, r205, o205, List.length_map, eES, Nat.reduceBEq]
  refine awp_loop (JxE L p c cs m) _ ⟨_, 0, rfl, rfl, rfl, (by first | rfl | simp only [eES, eEX, Nat.reduceBEq, ↓reduceIte, reduceCtorEq, Nat.reduceEqDiff]), (by first | rfl | simp only [eES, eEX, Nat.reduceBEq, ↓reduceIte, reduceCtorEq, Nat.reduceEqDiff]), (by first | rfl | simp only [eES, eEX, Nat.reduceBEq, ↓reduceIte, reduceCtorEq, Nat.reduceEqDiff]), (by first | rfl | simp only [eES, eEX, Nat.reduceBEq, ↓reduceIte, reduceCtorEq, Nat.reduceEqDiff])⟩ ?_
  rintro _ st ⟨f, i, rfl, rfl, hx, h0, h1, h7, h8⟩
  simp only [l205_0, g205_2, g205_3, g205_4, g205_5, g205_6, h7, h8, eES, Nat.reduceBEq, ↓reduceIte]
  by_cases hlt : i < L.length
  · obtain ⟨x, hi⟩ : ∃ x, L[i]? = some x := ⟨L[i], List.getElem?_eq_getElem hlt⟩
    have hcl := hc x (List.mem_of_getElem? hi)
    have hg : (L.map eav)[i]? = some (eav x) := by simp [hi]
    have e1 := wi64_s i _ hlt hl
    simp only [eav, PE.cells] at hcl
    simp only [lt_t hlt, nneg, Int.toNat_natCast, aiaddr, hg, eav, PE.cells, h0, h1, h8, eES, eEX, Nat.reduceBEq, ↓reduceIte, Nat.reduceAdd, Nat.reduceLeDiff]
    refine aops_callV (fa := []) (fb := AV.shL cs) (by first | rfl | exact h1 | simp only [h1, eES, eEX, Nat.reduceBEq, ↓reduceIte, reduceCtorEq, Nat.reduceEqDiff]) hcl (by simp only [List.map_cons, List.map_nil, List.nil_append, List.cons_append, eES, Nat.reduceBEq]) ?_
    rw [fxi_drop p hi] at hx
    cases hp : p x
    · rw [hp] at hx
      simp only [Bool.false_eq_true, if_false] at hx
      simp only [h8, e1, eES, Nat.reduceBEq, ↓reduceIte]
      exact ⟨L.length - (i + 1), by omega, _, i + 1, rfl, rfl, hx, (by first | rfl | exact h0 | simp only [h0, eES, eEX, Nat.reduceBEq, ↓reduceIte, reduceCtorEq, Nat.reduceEqDiff]), (by first | rfl | exact h1 | simp only [h1, eES, eEX, Nat.reduceBEq, ↓reduceIte, reduceCtorEq, Nat.reduceEqDiff]), (by first | rfl | exact h7 | simp only [h7, eES, eEX, Nat.reduceBEq, ↓reduceIte, reduceCtorEq, Nat.reduceEqDiff]), (by first | rfl | simp only [eES, eEX, Nat.reduceBEq, ↓reduceIte, reduceCtorEq, Nat.reduceEqDiff])⟩
    · rw [hp] at hx
      simp only [if_true] at hx
      simp only [hx, eES, Nat.reduceBEq]
  · have hx' : fxi p L 0 = -1 := by rw [hx, List.drop_of_length_le (by omega)]; rfl
    simp only [lt_f hlt, hx', eES, Nat.reduceBEq, ↓reduceIte]

include hl in
theorem z146 (hc : ∀ o ∈ L, ACalls Tryz.prog c (eav o :: AV.shL (AV.shL cs)) (noObs :: noObs :: m) fun y m1 => y = .bool (p o) ∧ m1 = noObs :: noObs :: m) :
    ACalls Tryz.prog 146 [.list (L.map eav), .fn (.func c) [] cs] m fun y m1 => y = .bool (L.any p) ∧ m1 = m := by
  refine acalls_of_awp (rc := r146) (rs := o146) Tryz.func146 rfl rfl Tryz.ntmps146 k146 q146 (by simp) ?_
  simp only [g146_0, g146_1, r146, o146, eES, Nat.reduceBEq]
  refine aops_callF (z205 L hl p c (AV.shL cs) _ hc) (by simp only [List.map_cons, List.map_nil, eES, Nat.reduceBEq] <;> rfl) ?_
  simp only [fxi_any0, eES, Nat.reduceBEq, ↓reduceIte]

include hl in
theorem z67 (hc : ∀ o ∈ L, ACalls Tryz.prog c (eav o :: AV.shL (AV.shL (AV.shL cs))) (noObs :: noObs :: noObs :: m) fun y m1 => y = .bool (p o) ∧ m1 = noObs :: noObs :: noObs :: m) :
    ACalls Tryz.prog 67 [.list (L.map eav), .fn (.func c) [] cs] m fun y m1 => y = .bool (L.any p) ∧ m1 = m := by
  refine acalls_of_awp (rc := r67) (rs := o67) Tryz.func67 rfl rfl Tryz.ntmps67 k67 q67 (by simp) ?_
  simp only [g67_0, g67_1, r67, o67, eES, Nat.reduceBEq]
  refine aops_callF (z146 L hl p c (AV.shL cs) _ hc) (by simp only [List.map_cons, List.map_nil, eES, Nat.reduceBEq] <;> rfl) ?_
  simp only [eES, Nat.reduceBEq]

end

section
variable (L : List PI) (hl : L.length ≤ maxLen) (p : PI → Bool) (c : Nat) (cs : List AV) (m : Mem)

def JxI (k : Nat) (st : St) : Prop :=
  ∃ f i, st = ⟨f, noObs :: m, []⟩ ∧ k = L.length - i ∧ fxi p L 0 = fxi p (L.drop i) i ∧ f 0 = .list (L.map iav) ∧ f 1 = .fn (.func c) [] (AV.shL cs) ∧ f 7 = .int .i64 (L.length : Nat) ∧ f 8 = .int .i64 (i : Nat)

include hl in
theorem z212 (hc : ∀ o ∈ L, ACalls Tryz.prog c (iav o :: AV.shL cs) (noObs :: m) fun y m1 => y = .bool (p o) ∧ m1 = noObs :: m) :
    ACalls Tryz.prog 212 [.list (L.map iav), .fn (.func c) [] cs] m fun y m1 => y = .int .i64 (fxi p L 0) ∧ m1 = m := by
  refine acalls_of_awp (rc := r212) (rs := o212) Tryz.func212 rfl rfl Tryz.ntmps212 k212 q212 (by simp) ?_
  simp only [g212_0, g212_1, g212_7, r212, o212, List.length_map, eES, Nat.reduceBEq]
  refine awp_loop (JxI L p c cs m) _ ⟨_, 0, rfl, rfl, rfl, (by first | rfl | simp only [eES, eEX, Nat.reduceBEq, ↓reduceIte, reduceCtorEq, Nat.reduceEqDiff]), (by first | rfl | simp only [eES, eEX, Nat.reduceBEq, ↓reduceIte, reduceCtorEq, Nat.reduceEqDiff]), (by first | rfl | simp only [eES, eEX, Nat.reduceBEq, ↓reduceIte, reduceCtorEq, Nat.reduceEqDiff]), (by first | rfl | simp only [eES, eEX, Nat.reduceBEq, ↓reduceIte, reduceCtorEq, Nat.reduceEqDiff])⟩ ?_
  rintro _ st ⟨f, i, rfl, rfl, hx, h0, h1, h7, h8⟩
  simp only [l212_0, g212_2, g212_3, g212_4, g212_5, g212_6, h7, h8, eES, Nat.reduceBEq, ↓reduceIte]
  by_cases hlt : i < L.length
  · obtain ⟨x, hi⟩ : ∃ x, L[i]? = some x := ⟨L[i], List.getElem?_eq_getElem hlt⟩
    have hcl := hc x (List.mem_of_getElem? hi)
    have hg : (L.map iav)[i]? = some (iav x) := by simp [hi]
    have e1 := wi64_s i _ hlt hl
    simp only [iav, PI.cells] at hcl
    simp only [lt_t hlt, nneg, Int.toNat_natCast, aiaddr, hg, iav, PI.cells, h0, h1, h8, eES, eEX, Nat.reduceBEq, ↓reduceIte, Nat.reduceAdd, Nat.reduceLeDiff]
    refine aops_callV (fa := []) (fb := AV.shL cs) (by first | rfl | exact h1 | simp only [h1, eES, eEX, Nat.reduceBEq, ↓reduceIte, reduceCtorEq, Nat.reduceEqDiff]) hcl (by simp only [List.map_cons, List.map_nil, List.nil_append, List.cons_append, eES, Nat.reduceBEq]) ?_
    rw [fxi_drop p hi] at hx
    cases hp : p x
    · rw [hp] at hx
      simp only [Bool.false_eq_true, if_false] at hx
      simp only [h8, e1, eES, Nat.reduceBEq, ↓reduceIte]
      exact ⟨L.length - (i + 1), by omega, _, i + 1, rfl, rfl, hx, (by first | rfl | exact h0 | simp only [h0, eES, eEX, Nat.reduceBEq, ↓reduceIte, reduceCtorEq, Nat.reduceEqDiff]), (by first | rfl | exact h1 | simp only [h1, eES, eEX, Nat.reduceBEq, ↓reduceIte, reduceCtorEq, Nat.reduceEqDiff]), (by first | rfl | exact h7 | simp only [h7, eES, eEX, Nat.reduceBEq, ↓reduceIte, reduceCtorEq, Nat.reduceEqDiff]), (by first | rfl | simp only [eES, eEX, Nat.reduceBEq, ↓reduceIte, reduceCtorEq, Nat.reduceEqDiff])⟩
    · rw [hp] at hx
      simp only [if_true] at hx
      simp only [hx, eES, Nat.reduceBEq]
  · have hx' : fxi p L 0 = -1 := by rw [hx, List.drop_of_length_le (by omega)]; rfl
    simp only [lt_f hlt, hx', eES, Nat.reduceBEq, ↓reduceIte]

include hl in
theorem z153 (hc : ∀ o ∈ L, ACalls Tryz.prog c (iav o :: AV.shL (AV.shL cs)) (noObs :: noObs :: m) fun y m1 => y = .bool (p o) ∧ m1 = noObs :: noObs :: m) :
    ACalls Tryz.prog 153 [.list (L.map iav), .fn (.func c) [] cs] m fun y m1 => y = .bool (L.any p) ∧ m1 = m := by
  refine acalls_of_awp (rc := r153) (rs := o153) Tryz.func153 rfl rfl Tryz.ntmps153 k153 q153 (by simp) ?_
  simp only [g153_0, g153_1, r153, o153, eES, Nat.reduceBEq]
  refine aops_callF (z212 L hl p c (AV.shL cs) _ hc) (by simp only [List.map_cons, List.map_nil, eES, Nat.reduceBEq] <;> rfl) ?_
  simp only [fxi_any0, eES, Nat.reduceBEq, ↓reduceIte]

include hl in
theorem z75 (hc : ∀ o ∈ L, ACalls Tryz.prog c (iav o :: AV.shL (AV.shL (AV.shL cs))) (noObs :: noObs :: noObs :: m) fun y m1 => y = .bool (p o) ∧ m1 = noObs :: noObs :: noObs :: m) :
    ACalls Tryz.prog 75 [.list (L.map iav), .fn (.func c) [] cs] m fun y m1 => y = .bool (L.any p) ∧ m1 = m := by
  refine acalls_of_awp (rc := r75) (rs := o75) Tryz.func75 rfl rfl Tryz.ntmps75 k75 q75 (by simp) ?_
  simp only [g75_0, g75_1, r75, o75, eES, Nat.reduceBEq]
  refine aops_callF (z153 L hl p c (AV.shL cs) _ hc) (by simp only [List.map_cons, List.map_nil, eES, Nat.reduceBEq] <;> rfl) ?_
  simp only [eES, Nat.reduceBEq]

end

section
variable (L : List PS) (hl : L.length ≤ maxLen) (p : PS → Bool) (c : Nat) (cs : List AV) (m : Mem)

def JxS (k : Nat) (st : St) : Prop :=
  ∃ f i, st = ⟨f, noObs :: m, []⟩ ∧ k = L.length - i ∧ fxi p L 0 = fxi p (L.drop i) i ∧ f 0 = .list (L.map spav) ∧ f 1 = .fn (.func c) [] (AV.shL cs) ∧ f 7 = .int .i64 (L.length : Nat) ∧ f 8 = .int .i64 (i : Nat)

include hl in
theorem z260 (hc : ∀ o ∈ L, ACalls Tryz.prog c (spav o :: AV.shL cs) (noObs :: m) fun y m1 => y = .bool (p o) ∧ m1 = noObs :: m) :
    ACalls Tryz.prog 260 [.list (L.map spav), .fn (.func c) [] cs] m fun y m1 => y = .int .i64 (fxi p L 0) ∧ m1 = m := by
  refine acalls_of_awp (rc := r260) (rs := o260) Tryz.func260 rfl rfl Tryz.ntmps260 k260 q260 (by simp) ?_
  simp only [g260_0, g260_1, g260_7, r260, o260, List.length_map, eES, Nat.reduceBEq]
  refine awp_loop (JxS L p c cs m) _ ⟨_, 0, rfl, rfl, rfl, (by first | rfl | simp only [eES, eEX, Nat.reduceBEq, ↓reduceIte, reduceCtorEq, Nat.reduceEqDiff]), (by first | rfl | simp only [eES, eEX, Nat.reduceBEq, ↓reduceIte, reduceCtorEq, Nat.reduceEqDiff]), (by first | rfl | simp only [eES, eEX, Nat.reduceBEq, ↓reduceIte, reduceCtorEq, Nat.reduceEqDiff]), (by first | rfl | simp only [eES, eEX, Nat.reduceBEq, ↓reduceIte, reduceCtorEq, Nat.reduceEqDiff])⟩ ?_
  rintro _ st ⟨f, i, rfl, rfl, hx, h0, h1, h7, h8⟩
  simp only [l260_0, g260_2, g260_3, g260_4, g260_5, g260_6, h7, h8, eES, Nat.reduceBEq, ↓reduceIte]
  by_cases hlt : i < L.length
  · obtain ⟨x, hi⟩ : ∃ x, L[i]? = some x := ⟨L[i], List.getElem?_eq_getElem hlt⟩
    have hcl := hc x (List.mem_of_getElem? hi)
    have hg : (L.map spav)[i]? = some (spav x) := by simp [hi]
    have e1 := wi64_s i _ hlt hl
    simp only [spav, PS.cells] at hcl
    simp only [lt_t hlt, nneg, Int.toNat_natCast, aiaddr, hg, spav, PS.cells, h0, h1, h8, eES, eEX, Nat.reduceBEq, ↓reduceIte, Nat.reduceAdd, Nat.reduceLeDiff]
    refine aops_callV (fa := []) (fb := AV.shL cs) (by first | rfl | exact h1 | simp only [h1, eES, eEX, Nat.reduceBEq, ↓reduceIte, reduceCtorEq, Nat.reduceEqDiff]) hcl (by simp only [List.map_cons, List.map_nil, List.nil_append, List.cons_append, eES, Nat.reduceBEq]) ?_
    rw [fxi_drop p hi] at hx
    cases hp : p x
    · rw [hp] at hx
      simp only [Bool.false_eq_true, if_false] at hx
      simp only [h8, e1, eES, Nat.reduceBEq, ↓reduceIte]
      exact ⟨L.length - (i + 1), by omega, _, i + 1, rfl, rfl, hx, (by first | rfl | exact h0 | simp only [h0, eES, eEX, Nat.reduceBEq, ↓reduceIte, reduceCtorEq, Nat.reduceEqDiff]), (by first | rfl | exact h1 | simp only [h1, eES, eEX, Nat.reduceBEq, ↓reduceIte, reduceCtorEq, Nat.reduceEqDiff]), (by first | rfl | exact h7 | simp only [h7, eES, eEX, Nat.reduceBEq, ↓reduceIte, reduceCtorEq, Nat.reduceEqDiff]), (by first | rfl | simp only [eES, eEX, Nat.reduceBEq, ↓reduceIte, reduceCtorEq, Nat.reduceEqDiff])⟩
    · rw [hp] at hx
      simp only [if_true] at hx
      simp only [hx, eES, Nat.reduceBEq]
  · have hx' : fxi p L 0 = -1 := by rw [hx, List.drop_of_length_le (by omega)]; rfl
    simp only [lt_f hlt, hx', eES, Nat.reduceBEq, ↓reduceIte]

include hl in
theorem z213 (hc : ∀ o ∈ L, ACalls Tryz.prog c (spav o :: AV.shL (AV.shL cs)) (noObs :: noObs :: m) fun y m1 => y = .bool (p o) ∧ m1 = noObs :: noObs :: m) :
    ACalls Tryz.prog 213 [.list (L.map spav), .fn (.func c) [] cs] m fun y m1 => y = .bool (L.any p) ∧ m1 = m := by
  refine acalls_of_awp (rc := r213) (rs := o213) Tryz.func213 rfl rfl Tryz.ntmps213 k213 q213 (by simp) ?_
  simp only [g213_0, g213_1, r213, o213, eES, Nat.reduceBEq]
  refine aops_callF (z260 L hl p c (AV.shL cs) _ hc) (by simp only [List.map_cons, List.map_nil, eES, Nat.reduceBEq] <;> rfl) ?_
  simp only [fxi_any0, eES, Nat.reduceBEq, ↓reduceIte]

end

section
variable (L : List (List UInt8)) (hl : L.length ≤ maxLen) (p : (List UInt8) → Bool) (c : Nat) (cs : List AV) (m : Mem)

def JxR (k : Nat) (st : St) : Prop :=
  ∃ f i, st = ⟨f, noObs :: m, []⟩ ∧ k = L.length - i ∧ fxi p L 0 = fxi p (L.drop i) i ∧ f 0 = .list (L.map rav) ∧ f 1 = .fn (.func c) [] (AV.shL cs) ∧ f 7 = .int .i64 (L.length : Nat) ∧ f 8 = .int .i64 (i : Nat)

include hl in
theorem z209 (hc : ∀ o ∈ L, ACalls Tryz.prog c (rav o :: AV.shL cs) (noObs :: m) fun y m1 => y = .bool (p o) ∧ m1 = noObs :: m) :
    ACalls Tryz.prog 209 [.list (L.map rav), .fn (.func c) [] cs] m fun y m1 => y = .int .i64 (fxi p L 0) ∧ m1 = m := by
  refine acalls_of_awp (rc := r209) (rs := o209) Tryz.func209 rfl rfl Tryz.ntmps209 k209 q209 (by simp) ?_
  simp only [g209_0, g209_1, g209_7, r209, o209, List.length_map, eES, Nat.reduceBEq]
  refine awp_loop (JxR L p c cs m) _ ⟨_, 0, rfl, rfl, rfl, (by first | rfl | simp only [eES, eEX, Nat.reduceBEq, ↓reduceIte, reduceCtorEq, Nat.reduceEqDiff]), (by first | rfl | simp only [eES, eEX, Nat.reduceBEq, ↓reduceIte, reduceCtorEq, Nat.reduceEqDiff]), (by first | rfl | simp only [eES, eEX, Nat.reduceBEq, ↓reduceIte, reduceCtorEq, Nat.reduceEqDiff]), (by first | rfl | simp only [eES, eEX, Nat.reduceBEq, ↓reduceIte, reduceCtorEq, Nat.reduceEqDiff])⟩ ?_
  rintro _ st ⟨f, i, rfl, rfl, hx, h0, h1, h7, h8⟩
  simp only [l209_0, g209_2, g209_3, g209_4, g209_5, g209_6, h7, h8, eES, Nat.reduceBEq, ↓reduceIte]
  by_cases hlt : i < L.length
  · obtain ⟨x, hi⟩ : ∃ x, L[i]? = some x := ⟨L[i], List.getElem?_eq_getElem hlt⟩
    have hcl := hc x (List.mem_of_getElem? hi)
    have hg : (L.map rav)[i]? = some (rav x) := by simp [hi]
    have e1 := wi64_s i _ hlt hl
    simp only [rav] at hcl
    simp only [lt_t hlt, nneg, Int.toNat_natCast, aiaddr, hg, rav, h0, h1, h8, eES, eEX, Nat.reduceBEq, ↓reduceIte, Nat.reduceAdd]
    refine aops_callV (fa := []) (fb := AV.shL cs) (by first | rfl | exact h1 | simp only [h1, eES, eEX, Nat.reduceBEq, ↓reduceIte, reduceCtorEq, Nat.reduceEqDiff]) hcl (by simp only [List.map_cons, List.map_nil, List.nil_append, List.cons_append, eES, Nat.reduceBEq]) ?_
    rw [fxi_drop p hi] at hx
    cases hp : p x
    · rw [hp] at hx
      simp only [Bool.false_eq_true, if_false] at hx
      simp only [h8, e1, eES, Nat.reduceBEq, ↓reduceIte]
      exact ⟨L.length - (i + 1), by omega, _, i + 1, rfl, rfl, hx, (by first | rfl | exact h0 | simp only [h0, eES, eEX, Nat.reduceBEq, ↓reduceIte, reduceCtorEq, Nat.reduceEqDiff]), (by first | rfl | exact h1 | simp only [h1, eES, eEX, Nat.reduceBEq, ↓reduceIte, reduceCtorEq, Nat.reduceEqDiff]), (by first | rfl | exact h7 | simp only [h7, eES, eEX, Nat.reduceBEq, ↓reduceIte, reduceCtorEq, Nat.reduceEqDiff]), (by first | rfl | simp only [eES, eEX, Nat.reduceBEq, ↓reduceIte, reduceCtorEq, Nat.reduceEqDiff])⟩
    · rw [hp] at hx
      simp only [if_true] at hx
      simp only [hx, eES, Nat.reduceBEq]
  · have hx' : fxi p L 0 = -1 := by rw [hx, List.drop_of_length_le (by omega)]; rfl
    simp only [lt_f hlt, hx', eES, Nat.reduceBEq, ↓reduceIte]

include hl in
theorem z148 (hc : ∀ o ∈ L, ACalls Tryz.prog c (rav o :: AV.shL (AV.shL cs)) (noObs :: noObs :: m) fun y m1 => y = .bool (p o) ∧ m1 = noObs :: noObs :: m) :
    ACalls Tryz.prog 148 [.list (L.map rav), .fn (.func c) [] cs] m fun y m1 => y = .bool (L.any p) ∧ m1 = m := by
  refine acalls_of_awp (rc := r148) (rs := o148) Tryz.func148 rfl rfl Tryz.ntmps148 k148 q148 (by simp) ?_
  simp only [g148_0, g148_1, r148, o148, eES, Nat.reduceBEq]
  refine aops_callF (z209 L hl p c (AV.shL cs) _ hc) (by simp only [List.map_cons, List.map_nil, eES, Nat.reduceBEq] <;> rfl) ?_
  simp only [fxi_any0, eES, Nat.reduceBEq, ↓reduceIte]

end

section
variable (L : List PG) (hl : L.length ≤ maxLen) (lt : PG → PG → Bool) (c : Nat) (cs : List AV) (m : Mem)

def AxG (k : Nat) (st : St) : Prop :=
  ∃ f i, st = ⟨f, noObs :: m, []⟩ ∧ k = L.length - (i + 1) ∧ allU (two L lt) (i + 1) = true ∧ f 0 = .list (L.map gav) ∧ f 1 = .fn (.func c) [] (AV.shL cs) ∧ f 5 = .int .i64 ((i + 1 : Nat) : Int)

include hl in
theorem z77 (hc : ∀ x ∈ L, ∀ y ∈ L, ACalls Tryz.prog c (gav x :: gav y :: AV.shL cs) (noObs :: m) fun r m1 => r = .bool (lt x y) ∧ m1 = noObs :: m) :
    ACalls Tryz.prog 77 [.list (L.map gav), .fn (.func c) [] cs] m fun y m1 => y = .bool (adj L lt) ∧ m1 = m := by
  refine acalls_of_awp (rc := r77) (rs := o77) Tryz.func77 rfl rfl Tryz.ntmps77 k77 q77 (by simp) ?_
  simp only [g77_0, g77_1, g77_6, r77, o77, eES]
  refine awp_loop (AxG L lt c cs m) _ ⟨_, 0, rfl, rfl, rfl, (by first | rfl | simp only [eES, eEX, Nat.reduceBEq, ↓reduceIte, reduceCtorEq, Nat.reduceEqDiff]), (by first | rfl | simp only [eES, eEX, Nat.reduceBEq, ↓reduceIte, reduceCtorEq, Nat.reduceEqDiff]), (by first | rfl | simp only [eES, eEX, Nat.reduceBEq, ↓reduceIte, reduceCtorEq, Nat.reduceEqDiff])⟩ ?_
  rintro _ st ⟨f, i, rfl, rfl, hx, h0, h1, h5⟩
  simp only [l77_0, g77_2, g77_4, g77_5, g77_3, List.length_map, h0, h5, eES, Nat.reduceBEq, ↓reduceIte]
  by_cases hlt : i + 1 < L.length
  · obtain ⟨x, hi⟩ : ∃ x, L[i]? = some x := ⟨L[i]'(by omega), List.getElem?_eq_getElem (by omega)⟩
    obtain ⟨y, hj⟩ : ∃ y, L[i + 1]? = some y := ⟨L[i + 1], List.getElem?_eq_getElem hlt⟩
    have hcl := hc x (List.mem_of_getElem? hi) y (List.mem_of_getElem? hj)
    have hg : (L.map gav)[i]? = some (gav x) := by simp [hi]
    have hh : (L.map gav)[i + 1]? = some (gav y) := by simp [hj]
    have e1 := wi64_s (i + 1) _ hlt hl
    have e2 := wp64 i _ hlt hl
    simp only [gav, PG.cells] at hcl
    simp only [lt_t hlt, e2, nneg, Int.toNat_natCast, aiaddr, hg, hh, gav, PG.cells, h0, h1, h5, eES, eEX, Nat.reduceBEq, ↓reduceIte, Nat.reduceAdd, Nat.reduceLeDiff]
    refine aops_callV (fa := []) (fb := AV.shL cs) (by first | rfl | exact h1 | simp only [h1, eES, eEX, Nat.reduceBEq, ↓reduceIte, reduceCtorEq, Nat.reduceEqDiff]) hcl (by simp only [List.map_cons, List.map_nil, List.nil_append, List.cons_append, eES, Nat.reduceBEq]) ?_
    have hs : allU (two L lt) (i + 2) = lt x y := by
      show (allU (two L lt) (i + 1) && two L lt (i + 1)) = _
      rw [hx, two_at hi hj, Bool.true_and]
    cases hp : lt x y
    · rw [hp] at hs
      have hf : adj L lt = false := by
        rw [Bool.eq_false_iff]
        intro h'
        rw [allU_iff.2 fun k hk => allU_iff.1 h' k (by omega)] at hs
        cases hs
      simp only [hf, eES, Nat.reduceBEq]
    · rw [hp] at hs
      simp only [h5, e1, eES, Nat.reduceBEq, ↓reduceIte]
      exact ⟨L.length - (i + 2), by omega, _, i + 1, rfl, rfl, hs, (by first | rfl | exact h0 | simp only [h0, eES, eEX, Nat.reduceBEq, ↓reduceIte, reduceCtorEq, Nat.reduceEqDiff]), (by first | rfl | exact h1 | simp only [h1, eES, eEX, Nat.reduceBEq, ↓reduceIte, reduceCtorEq, Nat.reduceEqDiff]), (by first | rfl | simp only [eES, eEX, Nat.reduceBEq, ↓reduceIte, reduceCtorEq, Nat.reduceEqDiff])⟩
  · have hf : adj L lt = true := allU_iff.2 fun k hk => allU_iff.1 hx k (by omega)
    simp only [lt_f hlt, hf, eES, Nat.reduceBEq, ↓reduceIte]

end

section
variable (L : List PO) (hl : L.length ≤ maxLen) (lt : PO → PO → Bool) (c : Nat) (cs : List AV) (m : Mem)

def AxO (k : Nat) (st : St) : Prop :=
  ∃ f i, st = ⟨f, noObs :: m, []⟩ ∧ k = L.length - (i + 1) ∧ allU (two L lt) (i + 1) = true ∧ f 0 = .list (L.map oav) ∧ f 1 = .fn (.func c) [] (AV.shL cs) ∧ f 5 = .int .i64 ((i + 1 : Nat) : Int)

include hl in
theorem z82 (hc : ∀ x ∈ L, ∀ y ∈ L, ACalls Tryz.prog c (oav x :: oav y :: AV.shL cs) (noObs :: m) fun r m1 => r = .bool (lt x y) ∧ m1 = noObs :: m) :
    ACalls Tryz.prog 82 [.list (L.map oav), .fn (.func c) [] cs] m fun y m1 => y = .bool (adj L lt) ∧ m1 = m := by
  refine acalls_of_awp (rc := r82) (rs := o82) Tryz.func82 rfl rfl Tryz.ntmps82 k82 q82 (by simp) ?_
  simp only [g82_0, g82_1, g82_6, r82, o82, eES]
  refine awp_loop (AxO L lt c cs m) _ ⟨_, 0, rfl, rfl, rfl, (by first | rfl | simp only [eES, eEX, Nat.reduceBEq, ↓reduceIte, reduceCtorEq, Nat.reduceEqDiff]), (by first | rfl | simp only [eES, eEX, Nat.reduceBEq, ↓reduceIte, reduceCtorEq, Nat.reduceEqDiff]), (by first | rfl | simp only [eES, eEX, Nat.reduceBEq, ↓reduceIte, reduceCtorEq, Nat.reduceEqDiff])⟩ ?_
  rintro _ st ⟨f, i, rfl, rfl, hx, h0, h1, h5⟩
  simp only [l82_0, g82_2, g82_4, g82_5, g82_3, List.length_map, h0, h5, eES, Nat.reduceBEq, ↓reduceIte]
  by_cases hlt : i + 1 < L.length
  · obtain ⟨x, hi⟩ : ∃ x, L[i]? = some x := ⟨L[i]'(by omega), List.getElem?_eq_getElem (by omega)⟩
    obtain ⟨y, hj⟩ : ∃ y, L[i + 1]? = some y := ⟨L[i + 1], List.getElem?_eq_getElem hlt⟩
    have hcl := hc x (List.mem_of_getElem? hi) y (List.mem_of_getElem? hj)
    have hg : (L.map oav)[i]? = some (oav x) := by simp [hi]
    have hh : (L.map oav)[i + 1]? = some (oav y) := by simp [hj]
    have e1 := wi64_s (i + 1) _ hlt hl
    have e2 := wp64 i _ hlt hl
    simp only [oav, PO.cells] at hcl
    simp only [lt_t hlt, e2, nneg, Int.toNat_natCast, aiaddr, hg, hh, oav, PO.cells, h0, h1, h5, eES, eEX, Nat.reduceBEq, ↓reduceIte, Nat.reduceAdd, Nat.reduceLeDiff]
    refine aops_callV (fa := []) (fb := AV.shL cs) (by first | rfl | exact h1 | simp only [h1, eES, eEX, Nat.reduceBEq, ↓reduceIte, reduceCtorEq, Nat.reduceEqDiff]) hcl (by simp only [List.map_cons, List.map_nil, List.nil_append, List.cons_append, eES, Nat.reduceBEq]) ?_
    have hs : allU (two L lt) (i + 2) = lt x y := by
      show (allU (two L lt) (i + 1) && two L lt (i + 1)) = _
      rw [hx, two_at hi hj, Bool.true_and]
    cases hp : lt x y
    · rw [hp] at hs
      have hf : adj L lt = false := by
        rw [Bool.eq_false_iff]
        intro h'
        rw [allU_iff.2 fun k hk => allU_iff.1 h' k (by omega)] at hs
        cases hs
      simp only [hf, eES, Nat.reduceBEq]
    · rw [hp] at hs
      simp only [h5, e1, eES, Nat.reduceBEq, ↓reduceIte]
      exact ⟨L.length - (i + 2), by omega, _, i + 1, rfl, rfl, hs, (by first | rfl | exact h0 | simp only [h0, eES, eEX, Nat.reduceBEq, ↓reduceIte, reduceCtorEq, Nat.reduceEqDiff]), (by first | rfl | exact h1 | simp only [h1, eES, eEX, Nat.reduceBEq, ↓reduceIte, reduceCtorEq, Nat.reduceEqDiff]), (by first | rfl | simp only [eES, eEX, Nat.reduceBEq, ↓reduceIte, reduceCtorEq, Nat.reduceEqDiff])⟩
  · have hf : adj L lt = true := allU_iff.2 fun k hk => allU_iff.1 hx k (by omega)
    simp only [lt_f hlt, hf, eES, Nat.reduceBEq, ↓reduceIte]

end

section
variable (L : List PE) (hl : L.length ≤ maxLen) (lt : PE → PE → Bool) (c : Nat) (cs : List AV) (m : Mem)

def AxE (k : Nat) (st : St) : Prop :=
  ∃ f i, st = ⟨f, noObs :: m, []⟩ ∧ k = L.length - (i + 1) ∧ allU (two L lt) (i + 1) = true ∧ f 0 = .list (L.map eav) ∧ f 1 = .fn (.func c) [] (AV.shL cs) ∧ f 5 = .int .i64 ((i + 1 : Nat) : Int)

include hl in
theorem z79 (hc : ∀ x ∈ L, ∀ y ∈ L, ACalls Tryz.prog c (eav x :: eav y :: AV.shL cs) (noObs :: m) fun r m1 => r = .bool (lt x y) ∧ m1 = noObs :: m) :
    ACalls Tryz.prog 79 [.list (L.map eav), .fn (.func c) [] cs] m fun y m1 => y = .bool (adj L lt) ∧ m1 = m := by
  refine acalls_of_awp (rc := r79) (rs := o79) Tryz.func79 rfl rfl Tryz.ntmps79 k79 q79 (by simp) ?_
  simp only [g79_0, g79_1, g79_6, r79, o79, eES]
  refine awp_loop (AxE L lt c cs m) _ ⟨_, 0, rfl, rfl, rfl, (by first | rfl | simp only [eES, eEX, Nat.reduceBEq, ↓reduceIte, reduceCtorEq, Nat.reduceEqDiff]), (by first | rfl | simp only [eES, eEX, Nat.reduceBEq, ↓reduceIte, reduceCtorEq, Nat.reduceEqDiff]), (by first | rfl | simp only [eES, eEX, Nat.reduceBEq, ↓reduceIte, reduceCtorEq, Nat.reduceEqDiff])⟩ ?_
  rintro _ st ⟨f, i, rfl, rfl, hx, h0, h1, h5⟩
  simp only [l79_0, g79_2, g79_4, g79_5, g79_3, List.length_map, h0, h5, eES, Nat.reduceBEq, ↓reduceIte]
  by_cases hlt : i + 1 < L.length
  · obtain ⟨x, hi⟩ : ∃ x, L[i]? = some x := ⟨L[i]'(by omega), List.getElem?_eq_getElem (by omega)⟩
    obtain ⟨y, hj⟩ : ∃ y, L[i + 1]? = some y := ⟨L[i + 1], List.getElem?_eq_getElem hlt⟩
    have hcl := hc x (List.mem_of_getElem? hi) y (List.mem_of_getElem? hj)
    have hg : (L.map eav)[i]? = some (eav x) := by simp [hi]
    have hh : (L.map eav)[i + 1]? = some (eav y) := by simp [hj]
    have e1 := wi64_s (i + 1) _ hlt hl
    have e2 := wp64 i _ hlt hl
    simp only [eav, PE.cells] at hcl
    simp only [lt_t hlt, e2, nneg, Int.toNat_natCast, aiaddr, hg, hh, eav, PE.cells, h0, h1, h5, eES, eEX, Nat.reduceBEq, ↓reduceIte, Nat.reduceAdd, Nat.reduceLeDiff]
    refine aops_callV (fa := []) (fb := AV.shL cs) (by first | rfl | exact h1 | simp only [h1, eES, eEX, Nat.reduceBEq, ↓reduceIte, reduceCtorEq, Nat.reduceEqDiff]) hcl (by simp only [List.map_cons, List.map_nil, List.nil_append, List.cons_append, eES, Nat.reduceBEq]) ?_
    have hs : allU (two L lt) (i + 2) = lt x y := by
      show (allU (two L lt) (i + 1) && two L lt (i + 1)) = _
      rw [hx, two_at hi hj, Bool.true_and]
    cases hp : lt x y
    · rw [hp] at hs
      have hf : adj L lt = false := by
        rw [Bool.eq_false_iff]
        intro h'
        rw [allU_iff.2 fun k hk => allU_iff.1 h' k (by omega)] at hs
        cases hs
      simp only [hf, eES, Nat.reduceBEq]
    · rw [hp] at hs
      simp only [h5, e1, eES, Nat.reduceBEq, ↓reduceIte]
      exact ⟨L.length - (i + 2), by omega, _, i + 1, rfl, rfl, hs, (by first | rfl | exact h0 | simp only [h0, eES, eEX, Nat.reduceBEq, ↓reduceIte, reduceCtorEq, Nat.reduceEqDiff]), (by first | rfl | exact h1 | simp only [h1, eES, eEX, Nat.reduceBEq, ↓reduceIte, reduceCtorEq, Nat.reduceEqDiff]), (by first | rfl | simp only [eES, eEX, Nat.reduceBEq, ↓reduceIte, reduceCtorEq, Nat.reduceEqDiff])⟩
  · have hf : adj L lt = true := allU_iff.2 fun k hk => allU_iff.1 hx k (by omega)
    simp only [lt_f hlt, hf, eES, Nat.reduceBEq, ↓reduceIte]

end

section
variable (L : List PI) (hl : L.length ≤ maxLen) (lt : PI → PI → Bool) (c : Nat) (cs : List AV) (m : Mem)

def AxI (k : Nat) (st : St) : Prop :=
  ∃ f i, st = ⟨f, noObs :: m, []⟩ ∧ k = L.length - (i + 1) ∧ allU (two L lt) (i + 1) = true ∧ f 0 = .list (L.map iav) ∧ f 1 = .fn (.func c) [] (AV.shL cs) ∧ f 5 = .int .i64 ((i + 1 : Nat) : Int)

include hl in
theorem z85 (hc : ∀ x ∈ L, ∀ y ∈ L, ACalls Tryz.prog c (iav x :: iav y :: AV.shL cs) (noObs :: m) fun r m1 => r = .bool (lt x y) ∧ m1 = noObs :: m) :
    ACalls Tryz.prog 85 [.list (L.map iav), .fn (.func c) [] cs] m fun y m1 => y = .bool (adj L lt) ∧ m1 = m := by
  refine acalls_of_awp (rc := r85) (rs := o85) Tryz.func85 rfl rfl Tryz.ntmps85 k85 q85 (by simp) ?_
  simp only [g85_0, g85_1, g85_6, r85, o85, eES]
  refine awp_loop (AxI L lt c cs m) _ ⟨_, 0, rfl, rfl, rfl, (by first | rfl | simp only [eES, eEX, Nat.reduceBEq, ↓reduceIte, reduceCtorEq, Nat.reduceEqDiff]), (by first | rfl | simp only [eES, eEX, Nat.reduceBEq, ↓reduceIte, reduceCtorEq, Nat.reduceEqDiff]), (by first | rfl | simp only [eES, eEX, Nat.reduceBEq, ↓reduceIte, reduceCtorEq, Nat.reduceEqDiff])⟩ ?_
  rintro _ st ⟨f, i, rfl, rfl, hx, h0, h1, h5⟩
  simp only [l85_0, g85_2, g85_4, g85_5, g85_3, List.length_map, h0, h5, eES, Nat.reduceBEq, ↓reduceIte]
  by_cases hlt : i + 1 < L.length
  · obtain ⟨x, hi⟩ : ∃ x, L[i]? = some x := ⟨L[i]'(by omega), List.getElem?_eq_getElem (by omega)⟩
    obtain ⟨y, hj⟩ : ∃ y, L[i + 1]? = some y := ⟨L[i + 1], List.getElem?_eq_getElem hlt⟩
    have hcl := hc x (List.mem_of_getElem? hi) y (List.mem_of_getElem? hj)
    have hg : (L.map iav)[i]? = some (iav x) := by simp [hi]
    have hh : (L.map iav)[i + 1]? = some (iav y) := by simp [hj]
    have e1 := wi64_s (i + 1) _ hlt hl
    have e2 := wp64 i _ hlt hl
    simp only [iav, PI.cells] at hcl
    simp only [lt_t hlt, e2, nneg, Int.toNat_natCast, aiaddr, hg, hh, iav, PI.cells, h0, h1, h5, eES, eEX, Nat.reduceBEq, ↓reduceIte, Nat.reduceAdd, Nat.reduceLeDiff]
    refine aops_callV (fa := []) (fb := AV.shL cs) (by first | rfl | exact h1 | simp only [h1, eES, eEX, Nat.reduceBEq, ↓reduceIte, reduceCtorEq, Nat.reduceEqDiff]) hcl (by simp only [List.map_cons, List.map_nil, List.nil_append, List.cons_append, eES, Nat.reduceBEq]) ?_
    have hs : allU (two L lt) (i + 2) = lt x y := by
      show (allU (two L lt) (i + 1) && two L lt (i + 1)) = _
      rw [hx, two_at hi hj, Bool.true_and]
    cases hp : lt x y
    · rw [hp] at hs
      have hf : adj L lt = false := by
        rw [Bool.eq_false_iff]
        intro h'
        rw [allU_iff.2 fun k hk => allU_iff.1 h' k (by omega)] at hs
        cases hs
      simp only [hf, eES, Nat.reduceBEq]
    · rw [hp] at hs
      simp only [h5, e1, eES, Nat.reduceBEq, ↓reduceIte]
      exact ⟨L.length - (i + 2), by omega, _, i + 1, rfl, rfl, hs, (by first | rfl | exact h0 | simp only [h0, eES, eEX, Nat.reduceBEq, ↓reduceIte, reduceCtorEq, Nat.reduceEqDiff]), (by first | rfl | exact h1 | simp only [h1, eES, eEX, Nat.reduceBEq, ↓reduceIte, reduceCtorEq, Nat.reduceEqDiff]), (by first | rfl | simp only [eES, eEX, Nat.reduceBEq, ↓reduceIte, reduceCtorEq, Nat.reduceEqDiff])⟩
  · have hf : adj L lt = true := allU_iff.2 fun k hk => allU_iff.1 hx k (by omega)
    simp only [lt_f hlt, hf, eES, Nat.reduceBEq, ↓reduceIte]

end

end Go.Proofs.YtelhohgmmhbahaaGreatDoor.Va

set_option linter.unusedSimpArgs false
namespace Go.Proofs.YtelhohgmmhbahaaGreatDoor.Va
open Go Am Rc Bt Br

def cl (c : Nat) : Int := if 97 ≤ c ∧ c ≤ 122 then 1 else if 65 ≤ c ∧ c ≤ 90 then 2 else if 48 ≤ c ∧ c ≤ 57 then 3 else if c = 95 then 4 else 0

theorem z211 (c : Nat) : Fn1 Tryz.prog 211 [.int .i32 (c : Nat)] (.int .i64 (cl c)) := by
  refine fn1_of_awp (rc := r211) (rs := o211) Tryz.func211 rfl rfl Tryz.ntmps211 k211 q211 (by simp) ?_
  simp only [g211_0, g211_1, g211_2, g211_3, g211_4, g211_5, g211_6, g211_7, g211_8, g211_9, r211, o211, eES, Nat.reduceBEq, ↓reduceIte]
  repeat' (first | (refine csel_of (fun h => ?_) (fun h => ?_) <;> simp only [h, eES, Nat.reduceBEq, ↓reduceIte]) | (refine gsel_t (fun h => ?_) (fun h => ?_) <;> simp only [h, updO, eES, Nat.reduceBEq, ↓reduceIte]) | (refine gsel_f (fun h => ?_) (fun h => ?_) <;> simp only [h, updO, eES, eEX, Nat.reduceBEq, Int.reduceLE, Int.reduceLT, Int.reduceToNat, Int.reduceEq, ↓reduceIte, reduceCtorEq, Nat.reducePow, Nat.reduceAdd, Nat.reduceLeDiff, Nat.reduceLT, Nat.reduceSub, Nat.reduceEqDiff]))
  all_goals ((try simp only [decide_eq_true_eq, decide_eq_false_iff_not, beq_iff_eq, beq_eq_false_iff_ne, ne_eq] at *) <;> unfold cl <;> (repeat' split) <;> first | rfl | (exfalso; omega))

theorem udec_ascii {s : List UInt8} {i : Nat} {c : UInt8} (h : s[i]? = some c) : (c.toNat < 128 → udec s i = (c.toNat, 1)) ∧ (128 ≤ c.toNat → 128 ≤ (udec s i).1) := by
  have g0 : (⟨⟨s⟩⟩ : ByteArray).get! (i + 0) = c := by
    show (⟨s⟩ : Array UInt8)[i + 0]! = c
    simp [h]
  constructor
  · intro hc
    simp only [udec, Utf8.decode, g0]
    rw [if_pos hc]
  · intro hc
    simp only [udec, Utf8.decode, g0]
    rw [if_neg (by omega)]
    (repeat' split) <;> simp only [ge_iff_le, Bool.and_eq_true, decide_eq_true_eq, Utf8.runeError] at * <;> omega

def pq (s : List UInt8) (j : Nat) : Bool := match s[j]? with
  | some c => if j = 0 then letter c else pchar c
  | none => true
theorem pq_at {s : List UInt8} {j : Nat} {c : UInt8} (h : s[j]? = some c) : pq s j = if j = 0 then letter c else pchar c := by
  unfold pq; rw [h]

theorem letter_pchar {c : UInt8} (h : letter c = true) : pchar c = true := by unfold pchar; rw [h]; rfl

theorem isPart_pq (s : List UInt8) : isPart s = (decide (1 ≤ s.length) && decide (s.length ≤ 40) && allU (pq s) s.length) := by
  cases s with
  | nil => rfl
  | cons c t =>
    have h1 : decide (1 ≤ (c :: t).length) = true := by simp
    rw [h1, Bool.true_and]
    show (decide ((c :: t).length ≤ 40) && letter c && t.all pchar) = _
    rw [Bool.and_assoc]
    congr 1
    rw [Bool.eq_iff_iff, Bool.and_eq_true, allU_iff, List.all_eq_true]
    constructor
    · rintro ⟨h2, h3⟩ i hi
      cases i with
      | zero => rw [pq_at (c := c) rfl, if_pos rfl]; exact h2
      | succ i =>
        have hlt : i < t.length := by simpa using hi
        rw [pq_at (c := t[i]) (by simp [List.getElem?_eq_getElem hlt]), if_neg (by omega)]
        exact h3 _ (List.getElem_mem _)
    · intro h
      refine ⟨?_, fun x hx => ?_⟩
      · have := h 0 (by simp)
        rwa [pq_at (c := c) rfl, if_pos rfl] at this
      · obtain ⟨i, hi⟩ := List.mem_iff_getElem?.1 hx
        have hlt := (List.getElem?_eq_some_iff.1 hi).1
        have := h (i + 1) (by simpa using hlt)
        rwa [pq_at (c := x) (by simpa using hi), if_neg (by omega)] at this

theorem cl_pq {s : List UInt8} {i : Nat} {c : UInt8} (h : s[i]? = some c) (r : Nat) (hr : (c.toNat < 128 → r = c.toNat) ∧ (128 ≤ c.toNat → 128 ≤ r)) :
    (cl r == 0 || ((i : Int) == 0 && (cl r != 1 && cl r != 2))) = !pq s i := by
  rw [pq_at h]
  obtain ⟨h1, h2⟩ := hr
  have hc := c.toNat_lt
  unfold cl letter pchar letter
  generalize c.toNat = x at *
  by_cases hx : x < 128
  · have e := h1 hx
    subst e
    by_cases hi : i = 0
    · subst hi
      rw [if_pos rfl]
      (repeat' split) <;> simp <;> omega
    · rw [if_neg hi]
      have hz : ((i : Int) == 0) = false := by simp; omega
      rw [hz]
      (repeat' split) <;> simp <;> omega
  · have := h2 (by omega)
    have e : (if 97 ≤ r ∧ r ≤ 122 then (1 : Int) else if 65 ≤ r ∧ r ≤ 90 then 2 else if 48 ≤ r ∧ r ≤ 57 then 3 else if r = 95 then 4 else 0) = 0 := by
      rw [if_neg (by omega), if_neg (by omega), if_neg (by omega), if_neg (by omega)]
    rw [e]
    split <;> simp <;> omega

def PaI (s : List UInt8) (k : Nat) (st : St) : Prop :=
  ∃ f fr i, st = ⟨f, [fr], []⟩ ∧ k = s.length - i ∧ i ≤ s.length ∧ allU (pq s) i = true ∧ f 0 = .str s ∧ f 7 = .ptr 0 7 0 ∧ fr 7 = .iter (.str s) i

theorem z152 (s : List UInt8) : Fn1 Tryz.prog 152 [.str s] (.bool (isPart s)) := by
  refine fn1_of_awp (rc := r152) (rs := o152) Tryz.func152 rfl rfl Tryz.ntmps152 k152 q152 (by simp) ?_
  simp only [g152_0, g152_1, g152_7, r152, o152, eES, Nat.reduceBEq]
  refine aops_rngs rfl rfl ?_
  simp only [eES]
  refine awp_loop (PaI s) s.length ⟨_, _, 0, rfl, rfl, Nat.zero_le _, rfl, (by first | rfl | simp only [eES, eEX, Nat.reduceBEq, ↓reduceIte, reduceCtorEq, Nat.reduceEqDiff]), (by first | rfl | simp only [eES, eEX, Nat.reduceBEq, ↓reduceIte, reduceCtorEq, Nat.reduceEqDiff]), (by first | rfl | simp only [eES, eEX, Nat.reduceBEq, ↓reduceIte, reduceCtorEq, Nat.reduceEqDiff])⟩ ?_
  rintro _ st ⟨f, fr, i, rfl, rfl, hi, hx, h0, h7, m7⟩
  simp only [l152_0, g152_2, g152_3, g152_4, g152_5, g152_6, eES]
  refine aops_nxts (by first | rfl | exact h7 | simp only [h7, eES, eEX, Nat.reduceBEq, ↓reduceIte, reduceCtorEq, Nat.reduceEqDiff]) m7 (fun hlt => ?_) (fun hge => ?_)
  · obtain ⟨c, hc⟩ : ∃ c, s[i]? = some c := ⟨s[i], List.getElem?_eq_getElem hlt⟩
    obtain ⟨u1, u2⟩ := udec_ascii hc
    have hcl := z211 (udec s i).1
    have hq := cl_pq hc (udec s i).1 ⟨fun h => by rw [u1 h], u2⟩
    have hw : pq s i = true → (udec s i).2 = 1 := by
      intro h
      rw [u1]
      rw [pq_at hc] at h
      have hp : pchar c = true := by
        split at h
        · exact letter_pchar h
        · exact h
      unfold pchar letter at hp
      simp at hp
      omega
    generalize udec s i = cw at hcl hq hw
    obtain ⟨r, w⟩ := cw
    simp only [eES, Nat.reduceBEq]
    refine aops_call hcl rfl rfl rfl (.inl rfl) ?_
    have hstep : allU (pq s) (i + 1) = pq s i := by rw [allU, hx, Bool.true_and]
    have hend : pq s i = false → isPart s = false := by
      intro h
      rw [isPart_pq, allU_false hlt h, Bool.and_false]
    simp only at hq hw
    generalize cl r = k at hq
    cases hp : pq s i
    · rw [hp] at hq
      have he := hend hp
      simp only [he, eES, Nat.reduceBEq, ↓reduceIte]
      cases a1 : (k == 0)
      · cases a2 : ((i : Int) == 0)
        · simp [a1, a2] at hq
        · cases a3 : (k != 1)
          · simp [a1, a2, a3] at hq
          · cases a4 : (k != 2)
            · simp [a1, a2, a3, a4] at hq
            · simp only [a2, a3, a4, eES, Nat.reduceBEq, ↓reduceIte]
      · simp only [eES, Nat.reduceBEq]
    · rw [hp] at hq
      have hw := hw hp
      subst hw
      simp only [eES, Nat.reduceBEq, ↓reduceIte]
      cases a1 : (k == 0)
      · cases a2 : ((i : Int) == 0)
        · simp only [a2, eES, Nat.reduceBEq, ↓reduceIte]
          exact ⟨s.length - (i + 1), by omega, _, _, i + 1, rfl, rfl, by omega, by rw [hstep, hp], (by first | rfl | exact h0 | simp only [h0, eES, eEX, Nat.reduceBEq, ↓reduceIte, reduceCtorEq, Nat.reduceEqDiff]), (by first | rfl | exact h7 | simp only [h7, eES, eEX, Nat.reduceBEq, ↓reduceIte, reduceCtorEq, Nat.reduceEqDiff]), (by first | rfl | simp only [eES, eEX, Nat.reduceBEq, ↓reduceIte, reduceCtorEq, Nat.reduceEqDiff])⟩
        · cases a3 : (k != 1)
          · simp only [a2, a3, eES, Nat.reduceBEq, ↓reduceIte]
            exact ⟨s.length - (i + 1), by omega, _, _, i + 1, rfl, rfl, by omega, by rw [hstep, hp], (by first | rfl | exact h0 | simp only [h0, eES, eEX, Nat.reduceBEq, ↓reduceIte, reduceCtorEq, Nat.reduceEqDiff]), (by first | rfl | exact h7 | simp only [h7, eES, eEX, Nat.reduceBEq, ↓reduceIte, reduceCtorEq, Nat.reduceEqDiff]), (by first | rfl | simp only [eES, eEX, Nat.reduceBEq, ↓reduceIte, reduceCtorEq, Nat.reduceEqDiff])⟩
          · cases a4 : (k != 2)
            · simp only [a2, a3, a4, eES, Nat.reduceBEq, ↓reduceIte]
              exact ⟨s.length - (i + 1), by omega, _, _, i + 1, rfl, rfl, by omega, by rw [hstep, hp], (by first | rfl | exact h0 | simp only [h0, eES, eEX, Nat.reduceBEq, ↓reduceIte, reduceCtorEq, Nat.reduceEqDiff]), (by first | rfl | exact h7 | simp only [h7, eES, eEX, Nat.reduceBEq, ↓reduceIte, reduceCtorEq, Nat.reduceEqDiff]), (by first | rfl | simp only [eES, eEX, Nat.reduceBEq, ↓reduceIte, reduceCtorEq, Nat.reduceEqDiff])⟩
            · simp [a1, a2, a3, a4] at hq
      · simp [a1] at hq
  · have hii : i = s.length := by omega
    subst hii
    have e1 : decide (((s.length : Nat) : Int) ≥ 1) = decide (1 ≤ s.length) := by rw [decide_eq_decide]; omega
    have e2 : decide (((s.length : Nat) : Int) ≤ 40) = decide (s.length ≤ 40) := by rw [decide_eq_decide]; omega
    have e3 : isPart s = (decide (1 ≤ s.length) && decide (s.length ≤ 40)) := by rw [isPart_pq, hx, Bool.and_true]
    simp only [h0, e1, e3, eES, Nat.reduceBEq, ↓reduceIte]
    cases a1 : decide (1 ≤ s.length) <;> simp only [Bool.true_and, Bool.false_and, h0, e2, eES, Nat.reduceBEq, ↓reduceIte]

theorem z150 (s : List UInt8) : Fn1 Tryz.prog 150 [.str s] (.bool (isWord s)) := by
  refine fn1_of_awp (rc := r150) (rs := o150) Tryz.func150 rfl rfl Tryz.ntmps150 k150 q150 (by simp) ?_
  simp only [g150_0, g150_1, g150_2, g150_3, g150_4, g150_5, g150_6, g150_7, g150_8, g150_9, g150_10, g150_11, g150_12, g150_13, g150_14, g150_15, g150_16, g150_17, g150_18, g150_19, g150_20, g150_21, g150_22, g150_23, g150_24, g150_25, r150, o150, astr, eES, Nat.reduceBEq]
  have e : isWord s = words.any fun w => s == w := rfl
  simp only [words, List.any_cons, List.any_nil, Bool.or_false] at e
  repeat' (first | (refine csel_of (fun h => ?_) (fun h => ?_) <;> simp only [h, astr, eES, Nat.reduceBEq]) | (refine gsel_t (fun h => ?_) (fun h => ?_) <;> simp only [h, updO, astr, eES, eEX, Nat.reduceBEq, Int.reduceLE, Int.reduceLT, Int.reduceToNat, Int.reduceEq, ↓reduceIte, reduceCtorEq, Nat.reducePow, Nat.reduceAdd, Nat.reduceLeDiff, Nat.reduceLT, Nat.reduceSub, Nat.reduceEqDiff]) | (refine gsel_f (fun h => ?_) (fun h => ?_) <;> simp only [h, updO, astr, eES, eEX, Nat.reduceBEq, Int.reduceLE, Int.reduceLT, Int.reduceToNat, Int.reduceEq, ↓reduceIte, reduceCtorEq, Nat.reducePow, Nat.reduceAdd, Nat.reduceLeDiff, Nat.reduceLT, Nat.reduceSub, Nat.reduceEqDiff]))
  all_goals (simp only [*, Bool.true_or, Bool.or_true, Bool.or_false] at e; simp only [e])

theorem z258 (s : List UInt8) : Fn1 Tryz.prog 258 [.str s, .str [46]] (.int .i64 (s.count 46 : Nat)) := by
  refine fn1_of_awp (rc := r258) (rs := o258) Tryz.func258 rfl rfl Tryz.ntmps258 k258 q258 (by simp) ?_
  have b0 : (((1 : Nat) : Int) == 0) = false := rfl
  have b1 : (((1 : Nat) : Int) == 1) = true := rfl
  have b2 : ([(46 : UInt8)])[Int.toNat 0]? = some 46 := rfl
  simp only [g258_0, g258_1, g258_2, g258_3, g258_4, g258_5, r258, o258, List.length_cons, List.length_nil, Nat.zero_add, b0, b1, eES, Nat.reduceBEq, Int.reduceLE, Int.reduceToNat, ↓reduceIte]
  refine aops_xb rfl rfl ?_
  simp only [xbv, Lib.countByte, eES, Nat.reduceBEq, ↓reduceIte]
  rfl

theorem z303 (s : List UInt8) : Fn1 Tryz.prog 303 [.str s, .int .u8 46] (.int .i64 (Lib.indexByte s 46)) := by
  refine fn1_of_awp (rc := r303) (rs := o303) Tryz.func303 rfl rfl Tryz.ntmps303 k303 q303 (by simp) ?_
  simp only [g303_0, g303_1, r303, o303, eES, Nat.reduceBEq]
  refine aops_xb rfl rfl ?_
  simp only [xbv, Bool.false_eq_true, eES, Nat.reduceBEq, Int.reduceToNat, ↓reduceIte]
  rfl

theorem z286 (s : List UInt8) : Fn1 Tryz.prog 286 [.str s, .str [46]] (.int .i64 (Lib.indexByte s 46)) := by
  refine fn1_of_awp (rc := r286) (rs := o286) Tryz.func286 rfl rfl Tryz.ntmps286 k286 q286 (by simp) ?_
  have b0 : (((1 : Nat) : Int) == 0) = false := rfl
  have b1 : (((1 : Nat) : Int) == 1) = true := rfl
  have b2 : ([(46 : UInt8)])[Int.toNat 0]? = some 46 := rfl
  have hk := z303 s
  simp only [r286, g286_0, g286_1, g286_2, g286_3, g286_4, g286_5, g286_6, g286_7, g286_9, r286, o286, List.length_cons, List.length_nil, Nat.zero_add, astr, b0, eES, Nat.reduceBEq, ↓reduceIte]
  cases h : (([46] : List UInt8) == s)
  · simp only [b1, eES, Nat.reduceBEq, Int.reduceLE, Int.reduceToNat, ↓reduceIte]
    refine aops_call hk rfl rfl rfl (.inl rfl) ?_
    simp only [eES, Nat.reduceBEq]
  · have hs : s = [46] := by simpa using (beq_iff_eq.1 h).symm
    subst hs
    simp only [eES, Nat.reduceBEq]
    rfl

theorem z259 (s : List UInt8) : Fn1 Tryz.prog 259 [.str s, .str [46]] (.int .i64 (Lib.indexByte s 46)) := by
  refine fn1_of_awp (rc := r259) (rs := o259) Tryz.func259 rfl rfl Tryz.ntmps259 k259 q259 (by simp) ?_
  simp only [g259_0, g259_1, r259, o259, eES, Nat.reduceBEq]
  refine aops_call (z286 s) rfl rfl rfl (.inl rfl) ?_
  simp only [eES, Nat.reduceBEq]

end Go.Proofs.YtelhohgmmhbahaaGreatDoor.Va

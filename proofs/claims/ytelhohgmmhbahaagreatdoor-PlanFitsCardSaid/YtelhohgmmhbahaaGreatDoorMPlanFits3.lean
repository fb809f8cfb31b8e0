/- Parts of the proof, in order. -/
import Derived.WalkKit
import Derived.Lib.SmallJoins
import Derived.Deep.Slices
import Derived.DataShut
import Derived.Test.YtelhohgmmhbahaaGreatDoorRows
import Derived.Test.YtelhohgmmhbahaaGreatDoorProg
import Derived.Lib.IndexLaws
import Derived.Test.YtelhohgmmhbahaaGreatDoorMPlanFits2

namespace Go.Proofs.YtelhohgmmhbahaaGreatDoor.Rc
open Go Am
def g34_0 : IL:=[⟨some 1,.boxN 1 (.t 0),none⟩,⟨some 2,.val (.mov (.c (.bool false))),none⟩]
def g34_1 : IL:=[⟨some 3,.val (.mov (.c (.bool true))),none⟩]
def g34_2 : IL:=[⟨some 4,.val (.mov (.c (.int .i64 0))),none⟩]
def g34_3 : IL:=[⟨some 13,.val (.mov (.t 4)),none⟩,⟨some 14,.val (.faddr 0 (.t 1)),none⟩,⟨some 15,.val (.load none (.t 14)),none⟩,⟨some 16,.val (.len 1 (.t 15)),none⟩,⟨some 17,.val (.bin .num .lss (.t 13) (.t 16)),none⟩]
def g34_5 : IL:=[⟨some 5,.val (.mov (.c (.int .i64 0))),none⟩]
def g34_6 : IL:=[⟨some 20,.val (.mov (.t 5)),none⟩,⟨some 21,.val (.faddr 0 (.t 1)),none⟩,⟨some 22,.val (.load none (.t 21)),none⟩,⟨some 23,.val (.mov (.t 4)),none⟩,⟨some 24,.val (.iaddr 3 none (.t 22) (.t 23)),none⟩,⟨some 25,.val (.faddr 1 (.t 24)),none⟩,⟨some 26,.val (.load none (.t 25)),none⟩,⟨some 27,.val (.len 1 (.t 26)),none⟩,⟨some 28,.val (.bin .num .lss (.t 20) (.t 27)),none⟩]
def g34_8 : IL:=[⟨some 31,.val (.faddr 0 (.t 1)),none⟩,⟨some 32,.val (.load none (.t 31)),none⟩,⟨some 33,.val (.mov (.t 4)),none⟩,⟨some 34,.val (.iaddr 3 none (.t 32) (.t 33)),none⟩,⟨some 35,.val (.faddr 1 (.t 34)),none⟩,⟨some 36,.val (.load none (.t 35)),none⟩,⟨some 37,.val (.mov (.t 5)),none⟩,⟨some 38,.val (.iaddr 8 none (.t 36) (.t 37)),none⟩,⟨some 39,.val (.faddr 0 (.t 38)),none⟩,⟨some 40,.val (.load none (.t 39)),none⟩,⟨some 6,.val (.mov (.t 40)),none⟩]
def g34_9 : IL:=[⟨some 41,.val (.mov (.t 3)),none⟩,⟨some 42,.val (.mov (.t 41)),none⟩,⟨some 43,.val (.mov (.t 6)),(some (42,true))⟩,⟨some 44,.val (.bin .num .geq (.t 43) (.c (.int .i64 1))),(some (42,true))⟩,⟨some 45,.val (.pick (.t 42) (.t 44) (.c (.bool false))),none⟩,⟨some 46,.val (.mov (.t 45)),none⟩,⟨some 47,.val (.mov (.t 6)),(some (46,true))⟩,⟨some 48,.val (.bin .num .leq (.t 47) (.c (.int .i64 65535))),(some (46,true))⟩,⟨some 49,.val (.pick (.t 46) (.t 48) (.c (.bool false))),none⟩,⟨some 3,.val (.mov (.t 49)),none⟩]
def g34_7 : IL:=[⟨some 29,.val (.mov (.t 5)),none⟩,⟨some 30,.val (.bin .num .add (.t 29) (.c (.int .i64 1))),none⟩,⟨some 5,.val (.mov (.t 30)),none⟩]
def l34_0 : RC:=.seq (.seq (.reg g34_6) (.cond (.t 28) (.skip) (.exit 2))) (.seq (.block 3 (.seq (.reg g34_8) (.reg g34_9))) (.reg g34_7))
def g34_4 : IL:=[⟨some 18,.val (.mov (.t 4)),none⟩,⟨some 19,.val (.bin .num .add (.t 18) (.c (.int .i64 1))),none⟩,⟨some 4,.val (.mov (.t 19)),none⟩]
def l34_1 : RC:=.seq (.seq (.reg g34_3) (.cond (.t 17) (.skip) (.exit 0))) (.seq (.block 1 (.seq (.reg g34_5) (.block 2 (.loop l34_0)))) (.reg g34_4))
def g34_10 : IL:=[⟨some 7,.val (.mov (.c (.int .i64 0))),none⟩]
def g34_11 : IL:=[⟨some 50,.val (.mov (.t 7)),none⟩,⟨some 51,.val (.faddr 1 (.t 1)),none⟩,⟨some 52,.val (.load none (.t 51)),none⟩,⟨some 53,.val (.len 1 (.t 52)),none⟩,⟨some 54,.val (.bin .num .lss (.t 50) (.t 53)),none⟩]
def g34_13 : IL:=[⟨some 57,.val (.faddr 1 (.t 1)),none⟩,⟨some 58,.val (.load none (.t 57)),none⟩,⟨some 59,.val (.mov (.t 7)),none⟩,⟨some 60,.val (.iaddr 5 none (.t 58) (.t 59)),none⟩,⟨some 61,.val (.load (some 5) (.t 60)),none⟩,⟨some 8,.allocN 8 [.str [],.bool false,.nils,.nils,.nils],none⟩,⟨none,.store 5 (.t 8) (.t 61),none⟩]
def g34_14 : IL:=[⟨some 9,.val (.mov (.c (.int .i64 0))),none⟩]
def g34_15 : IL:=[⟨some 62,.val (.mov (.t 9)),none⟩,⟨some 63,.val (.faddr 2 (.t 8)),none⟩,⟨some 64,.val (.load none (.t 63)),none⟩,⟨some 65,.val (.len 1 (.t 64)),none⟩,⟨some 66,.val (.bin .num .lss (.t 62) (.t 65)),none⟩]
def g34_17 : IL:=[⟨some 69,.val (.faddr 2 (.t 8)),none⟩,⟨some 70,.val (.load none (.t 69)),none⟩,⟨some 71,.val (.mov (.t 9)),none⟩,⟨some 72,.val (.iaddr 3 none (.t 70) (.t 71)),none⟩,⟨some 73,.val (.faddr 1 (.t 72)),none⟩,⟨some 74,.val (.load none (.t 73)),none⟩,⟨some 10,.val (.mov (.t 74)),none⟩]
def g34_18 : IL:=[⟨some 75,.val (.mov (.t 3)),none⟩,⟨some 76,.val (.mov (.t 75)),none⟩,⟨some 77,.val (.mov (.t 10)),(some (76,true))⟩,⟨some 78,.val (.bin .num .leq (.t 77) (.c (.int .i64 2147483647))),(some (76,true))⟩,⟨some 79,.val (.pick (.t 76) (.t 78) (.c (.bool false))),none⟩,⟨some 80,.val (.mov (.t 79)),none⟩,⟨some 81,.val (.mov (.t 9)),(some (80,true))⟩,⟨some 82,.val (.bin .num .gtr (.t 81) (.c (.int .i64 0))),(some (80,true))⟩,⟨some 83,.val (.mov (.t 82)),(some (80,true))⟩,⟨some 84,.val (.mov (.t 10)),(some (83,false))⟩,⟨some 85,.val (.bin .num .eql (.t 84) (.c (.int .i64 0))),(some (83,false))⟩,⟨some 86,.val (.pick (.t 83) (.c (.bool true)) (.t 85)),(some (80,true))⟩,⟨some 87,.val (.pick (.t 80) (.t 86) (.c (.bool false))),none⟩,⟨some 88,.val (.mov (.t 87)),none⟩,⟨some 89,.val (.faddr 3 (.t 8)),(some (88,true))⟩,⟨some 90,.val (.load none (.t 89)),(some (88,true))⟩,⟨some 91,.val (.mov (.t 10)),(some (88,true))⟩,⟨some 92,.call (.f 110) [(.t 90),(.t 91)],(some (88,true))⟩,⟨some 93,.val (.un .not (.t 92)),(some (88,true))⟩,⟨some 94,.val (.pick (.t 88) (.t 93) (.c (.bool false))),none⟩,⟨some 3,.val (.mov (.t 94)),none⟩]
def g34_16 : IL:=[⟨some 67,.val (.mov (.t 9)),none⟩,⟨some 68,.val (.bin .num .add (.t 67) (.c (.int .i64 1))),none⟩,⟨some 9,.val (.mov (.t 68)),none⟩]
def l34_2 : RC:=.seq (.seq (.reg g34_15) (.cond (.t 66) (.skip) (.exit 6))) (.seq (.block 7 (.seq (.reg g34_17) (.reg g34_18))) (.reg g34_16))
def g34_19 : IL:=[⟨some 11,.val (.mov (.c (.int .i64 0))),none⟩]
def g34_20 : IL:=[⟨some 95,.val (.mov (.t 11)),none⟩,⟨some 96,.val (.faddr 3 (.t 8)),none⟩,⟨some 97,.val (.load none (.t 96)),none⟩,⟨some 98,.val (.len 1 (.t 97)),none⟩,⟨some 99,.val (.bin .num .lss (.t 95) (.t 98)),none⟩]
def g34_22 : IL:=[⟨some 102,.val (.faddr 3 (.t 8)),none⟩,⟨some 103,.val (.load none (.t 102)),none⟩,⟨some 104,.val (.mov (.t 11)),none⟩,⟨some 105,.val (.iaddr 2 none (.t 103) (.t 104)),none⟩,⟨some 106,.val (.load (some 2) (.t 105)),none⟩,⟨some 12,.allocN 12 [.int .i64 0,.int .i64 0],none⟩,⟨none,.store 2 (.t 12) (.t 106),none⟩]
def g34_23 : IL:=[⟨some 107,.val (.mov (.t 3)),none⟩,⟨some 108,.val (.mov (.t 107)),none⟩,⟨some 109,.val (.faddr 0 (.t 12)),(some (108,true))⟩,⟨some 110,.val (.loadv 0 12 none (.t 109)),(some (108,true))⟩,⟨some 111,.val (.bin .num .geq (.t 110) (.c (.int .i64 0))),(some (108,true))⟩,⟨some 112,.val (.pick (.t 108) (.t 111) (.c (.bool false))),none⟩,⟨some 113,.val (.mov (.t 112)),none⟩,⟨some 114,.val (.faddr 1 (.t 12)),(some (113,true))⟩,⟨some 115,.val (.loadv 0 12 none (.t 114)),(some (113,true))⟩,⟨some 116,.val (.bin .num .leq (.t 115) (.c (.int .i64 2147483647))),(some (113,true))⟩,⟨some 117,.val (.pick (.t 113) (.t 116) (.c (.bool false))),none⟩,⟨some 118,.val (.mov (.t 117)),none⟩,⟨some 119,.val (.faddr 0 (.t 12)),(some (118,true))⟩,⟨some 120,.val (.loadv 0 12 none (.t 119)),(some (118,true))⟩,⟨some 121,.val (.faddr 1 (.t 12)),(some (118,true))⟩,⟨some 122,.val (.loadv 0 12 none (.t 121)),(some (118,true))⟩,⟨some 123,.val (.bin .num .leq (.t 120) (.t 122)),(some (118,true))⟩,⟨some 124,.val (.pick (.t 118) (.t 123) (.c (.bool false))),none⟩,⟨some 125,.val (.mov (.t 124)),none⟩,⟨some 126,.val (.mov (.t 11)),(some (125,true))⟩,⟨some 127,.val (.bin .num .eql (.t 126) (.c (.int .i64 0))),(some (125,true))⟩,⟨some 128,.val (.mov (.t 127)),(some (125,true))⟩,⟨some 129,.val (.faddr 0 (.t 12)),(some (128,false))⟩,⟨some 130,.val (.loadv 0 12 none (.t 129)),(some (128,false))⟩,⟨some 131,.val (.faddr 3 (.t 8)),(some (128,false))⟩,⟨some 132,.val (.loadv 0 8 none (.t 131)),(some (128,false))⟩,⟨some 133,.val (.mov (.t 11)),(some (128,false))⟩,⟨some 134,.val (.bin .num .sub (.t 133) (.c (.int .i64 1))),(some (128,false))⟩,⟨some 135,.val (.iaddr 2 none (.t 132) (.t 134)),(some (128,false))⟩,⟨some 136,.val (.faddr 1 (.t 135)),(some (128,false))⟩,⟨some 137,.val (.loadr none (.t 136)),(some (128,false))⟩,⟨some 138,.val (.bin .num .gtr (.t 130) (.t 137)),(some (128,false))⟩,⟨some 139,.val (.pick (.t 128) (.c (.bool true)) (.t 138)),(some (125,true))⟩,⟨some 140,.val (.pick (.t 125) (.t 139) (.c (.bool false))),none⟩,⟨some 3,.val (.mov (.t 140)),none⟩]
def g34_21 : IL:=[⟨some 100,.val (.mov (.t 11)),none⟩,⟨some 101,.val (.bin .num .add (.t 100) (.c (.int .i64 1))),none⟩,⟨some 11,.val (.mov (.t 101)),none⟩]
def l34_3 : RC:=.gho (.drop 12) (.seq (.seq (.reg g34_20) (.cond (.t 99) (.skip) (.exit 8))) (.seq (.block 9 (.seq (.reg g34_22) (.draw g34_23))) (.reg g34_21)))
def g34_12 : IL:=[⟨some 55,.val (.mov (.t 7)),none⟩,⟨some 56,.val (.bin .num .add (.t 55) (.c (.int .i64 1))),none⟩,⟨some 7,.val (.mov (.t 56)),none⟩]
def l34_4 : RC:=.gho (.drop 12) (.gho (.drop 8) (.seq (.seq (.reg g34_11) (.cond (.t 54) (.skip) (.exit 4))) (.seq (.block 5 (.seq (.reg g34_13) (.seq (.seq (.reg g34_14) (.block 6 (.loop l34_2))) (.seq (.reg g34_19) (.block 8 (.loop l34_3)))))) (.reg g34_12))))
def g34_24 : IL:=[⟨some 141,.val (.mov (.t 3)),none⟩,⟨some 2,.val (.mov (.t 141)),none⟩]
def r34 : RC:=.seq (.reg g34_0) (.seq (.reg g34_1) (.seq (.seq (.reg g34_2) (.block 0 (.loop l34_1))) (.seq (.seq (.reg g34_10) (.block 4 (.loop l34_4))) (.seq (.reg g34_24) (.ret)))))
def o34 : List RR:=[.tmp 2]
theorem k34 : KK 142 r34 Tryz.f34:=by decide +kernel
theorem q34 : QQ Tryz.f34 o34:=by decide +kernel
def g109_0 : IL:=[⟨some 2,.val (.mov (.c (.bool false))),none⟩]
def g109_1 : IL:=[⟨some 3,.val (.mov (.t 0)),none⟩,⟨some 4,.call (.f 165) [(.t 3)],none⟩,⟨some 5,.val (.mov (.t 4)),none⟩,⟨some 6,.val (.mov (.t 0)),(some (5,true))⟩,⟨some 7,.call (.f 164) [(.t 6)],(some (5,true))⟩,⟨some 8,.val (.un .not (.t 7)),(some (5,true))⟩,⟨some 9,.val (.pick (.t 5) (.t 8) (.c (.bool false))),none⟩,⟨some 2,.val (.mov (.t 9)),none⟩]
def r109 : RC:=.seq (.reg g109_0) (.seq (.reg g109_1) (.ret))
def o109 : List RR:=[.tmp 2]
theorem k109 : KK 10 r109 Tryz.f109:=by decide +kernel
theorem q109 : QQ Tryz.f109 o109:=by decide +kernel
def g33_0 : IL:=[⟨some 1,.boxN 1 (.t 0),none⟩,⟨some 2,.val (.mov (.c (.bool false))),none⟩]
def g33_1 : IL:=[⟨some 3,.val (.mov (.c (.bool true))),none⟩]
def g33_2 : IL:=[⟨some 4,.val (.mov (.c (.int .i64 0))),none⟩]
def g33_3 : IL:=[⟨some 13,.val (.mov (.t 4)),none⟩,⟨some 14,.val (.faddr 0 (.t 1)),none⟩,⟨some 15,.val (.load none (.t 14)),none⟩,⟨some 16,.val (.len 1 (.t 15)),none⟩,⟨some 17,.val (.bin .num .lss (.t 13) (.t 16)),none⟩]
def g33_5 : IL:=[⟨some 5,.val (.mov (.c (.int .i64 0))),none⟩]
def g33_6 : IL:=[⟨some 20,.val (.mov (.t 5)),none⟩,⟨some 21,.val (.faddr 1 (.t 1)),none⟩,⟨some 22,.val (.load none (.t 21)),none⟩,⟨some 23,.val (.len 1 (.t 22)),none⟩,⟨some 24,.val (.bin .num .lss (.t 20) (.t 23)),none⟩]
def g33_8 : IL:=[⟨some 27,.val (.mov (.t 3)),none⟩,⟨some 28,.val (.mov (.t 27)),none⟩,⟨some 29,.val (.faddr 0 (.t 1)),(some (28,true))⟩,⟨some 30,.val (.loadv 0 1 none (.t 29)),(some (28,true))⟩,⟨some 31,.val (.mov (.t 4)),(some (28,true))⟩,⟨some 32,.val (.iaddr 3 none (.t 30) (.t 31)),(some (28,true))⟩,⟨some 33,.val (.faddr 0 (.t 32)),(some (28,true))⟩,⟨some 34,.val (.loadr none (.t 33)),(some (28,true))⟩,⟨some 35,.val (.faddr 1 (.t 1)),(some (28,true))⟩,⟨some 36,.val (.loadv 0 1 none (.t 35)),(some (28,true))⟩,⟨some 37,.val (.mov (.t 5)),(some (28,true))⟩,⟨some 38,.val (.iaddr 5 none (.t 36) (.t 37)),(some (28,true))⟩,⟨some 39,.val (.faddr 0 (.t 38)),(some (28,true))⟩,⟨some 40,.val (.loadr none (.t 39)),(some (28,true))⟩,⟨some 41,.val (.bin .str .neq (.t 34) (.t 40)),(some (28,true))⟩,⟨some 42,.val (.pick (.t 28) (.t 41) (.c (.bool false))),none⟩,⟨some 3,.val (.mov (.t 42)),none⟩]
def g33_7 : IL:=[⟨some 25,.val (.mov (.t 5)),none⟩,⟨some 26,.val (.bin .num .add (.t 25) (.c (.int .i64 1))),none⟩,⟨some 5,.val (.mov (.t 26)),none⟩]
def l33_0 : RC:=.seq (.seq (.reg g33_6) (.cond (.t 24) (.skip) (.exit 2))) (.seq (.block 3 (.draw g33_8)) (.reg g33_7))
def g33_9 : IL:=[⟨some 43,.val (.faddr 0 (.t 1)),none⟩,⟨some 44,.val (.load none (.t 43)),none⟩,⟨some 45,.val (.mov (.t 4)),none⟩,⟨some 46,.val (.iaddr 3 none (.t 44) (.t 45)),none⟩,⟨some 47,.val (.faddr 1 (.t 46)),none⟩,⟨some 48,.val (.load none (.t 47)),none⟩,⟨some 6,.val (.mov (.t 48)),none⟩]
def g33_10 : IL:=[⟨some 7,.val (.mov (.c (.int .i64 0))),none⟩]
def g33_11 : IL:=[⟨some 49,.val (.mov (.t 7)),none⟩,⟨some 50,.val (.mov (.t 6)),none⟩,⟨some 51,.val (.len 1 (.t 50)),none⟩,⟨some 52,.val (.bin .num .lss (.t 49) (.t 51)),none⟩]
def g33_13 : IL:=[⟨some 8,.val (.mov (.c (.int .i64 0))),none⟩]
def g33_14 : IL:=[⟨some 55,.val (.mov (.t 8)),none⟩,⟨some 56,.val (.mov (.t 7)),none⟩,⟨some 57,.val (.bin .num .lss (.t 55) (.t 56)),none⟩]
def g33_16 : IL:=[⟨some 60,.val (.mov (.t 3)),none⟩,⟨some 61,.val (.mov (.t 60)),none⟩,⟨some 62,.val (.mov (.t 6)),(some (61,true))⟩,⟨some 63,.val (.mov (.t 8)),(some (61,true))⟩,⟨some 64,.val (.iaddr 8 none (.t 62) (.t 63)),(some (61,true))⟩,⟨some 65,.val (.faddr 1 (.t 64)),(some (61,true))⟩,⟨some 66,.val (.loadr none (.t 65)),(some (61,true))⟩,⟨some 67,.val (.mov (.t 6)),(some (61,true))⟩,⟨some 68,.val (.mov (.t 7)),(some (61,true))⟩,⟨some 69,.val (.iaddr 8 none (.t 67) (.t 68)),(some (61,true))⟩,⟨some 70,.val (.faddr 1 (.t 69)),(some (61,true))⟩,⟨some 71,.val (.loadr none (.t 70)),(some (61,true))⟩,⟨some 72,.val (.bin .str .neq (.t 66) (.t 71)),(some (61,true))⟩,⟨some 73,.val (.pick (.t 61) (.t 72) (.c (.bool false))),none⟩,⟨some 3,.val (.mov (.t 73)),none⟩]
def g33_15 : IL:=[⟨some 58,.val (.mov (.t 8)),none⟩,⟨some 59,.val (.bin .num .add (.t 58) (.c (.int .i64 1))),none⟩,⟨some 8,.val (.mov (.t 59)),none⟩]
def l33_1 : RC:=.seq (.seq (.reg g33_14) (.cond (.t 57) (.skip) (.exit 6))) (.seq (.block 7 (.draw g33_16)) (.reg g33_15))
def g33_12 : IL:=[⟨some 53,.val (.mov (.t 7)),none⟩,⟨some 54,.val (.bin .num .add (.t 53) (.c (.int .i64 1))),none⟩,⟨some 7,.val (.mov (.t 54)),none⟩]
def l33_2 : RC:=.seq (.seq (.reg g33_11) (.cond (.t 52) (.skip) (.exit 4))) (.seq (.block 5 (.seq (.reg g33_13) (.block 6 (.loop l33_1)))) (.reg g33_12))
def g33_4 : IL:=[⟨some 18,.val (.mov (.t 4)),none⟩,⟨some 19,.val (.bin .num .add (.t 18) (.c (.int .i64 1))),none⟩,⟨some 4,.val (.mov (.t 19)),none⟩]
def l33_3 : RC:=.seq (.seq (.reg g33_3) (.cond (.t 17) (.skip) (.exit 0))) (.seq (.block 1 (.seq (.seq (.reg g33_5) (.block 2 (.loop l33_0))) (.seq (.reg g33_9) (.seq (.reg g33_10) (.block 4 (.loop l33_2)))))) (.reg g33_4))
def g33_17 : IL:=[⟨some 9,.val (.mov (.c (.int .i64 0))),none⟩]
def g33_18 : IL:=[⟨some 74,.val (.mov (.t 9)),none⟩,⟨some 75,.val (.faddr 1 (.t 1)),none⟩,⟨some 76,.val (.load none (.t 75)),none⟩,⟨some 77,.val (.len 1 (.t 76)),none⟩,⟨some 78,.val (.bin .num .lss (.t 74) (.t 77)),none⟩]
def g33_20 : IL:=[⟨some 81,.val (.faddr 1 (.t 1)),none⟩,⟨some 82,.val (.load none (.t 81)),none⟩,⟨some 83,.val (.mov (.t 9)),none⟩,⟨some 84,.val (.iaddr 5 none (.t 82) (.t 83)),none⟩,⟨some 85,.val (.faddr 2 (.t 84)),none⟩,⟨some 86,.val (.load none (.t 85)),none⟩,⟨some 10,.val (.mov (.t 86)),none⟩]
def g33_21 : IL:=[⟨some 11,.val (.mov (.c (.int .i64 0))),none⟩]
def g33_22 : IL:=[⟨some 87,.val (.mov (.t 11)),none⟩,⟨some 88,.val (.mov (.t 10)),none⟩,⟨some 89,.val (.len 1 (.t 88)),none⟩,⟨some 90,.val (.bin .num .lss (.t 87) (.t 89)),none⟩]
def g33_24 : IL:=[⟨some 12,.val (.mov (.c (.int .i64 0))),none⟩]
def g33_25 : IL:=[⟨some 93,.val (.mov (.t 12)),none⟩,⟨some 94,.val (.mov (.t 11)),none⟩,⟨some 95,.val (.bin .num .lss (.t 93) (.t 94)),none⟩]
def g33_27 : IL:=[⟨some 98,.val (.mov (.t 3)),none⟩,⟨some 99,.val (.mov (.t 98)),none⟩,⟨some 100,.val (.mov (.t 10)),(some (99,true))⟩,⟨some 101,.val (.mov (.t 12)),(some (99,true))⟩,⟨some 102,.val (.iaddr 3 none (.t 100) (.t 101)),(some (99,true))⟩,⟨some 103,.val (.faddr 0 (.t 102)),(some (99,true))⟩,⟨some 104,.val (.loadr none (.t 103)),(some (99,true))⟩,⟨some 105,.val (.mov (.t 10)),(some (99,true))⟩,⟨some 106,.val (.mov (.t 11)),(some (99,true))⟩,⟨some 107,.val (.iaddr 3 none (.t 105) (.t 106)),(some (99,true))⟩,⟨some 108,.val (.faddr 0 (.t 107)),(some (99,true))⟩,⟨some 109,.val (.loadr none (.t 108)),(some (99,true))⟩,⟨some 110,.val (.bin .str .neq (.t 104) (.t 109)),(some (99,true))⟩,⟨some 111,.val (.pick (.t 99) (.t 110) (.c (.bool false))),none⟩,⟨some 3,.val (.mov (.t 111)),none⟩]
def g33_26 : IL:=[⟨some 96,.val (.mov (.t 12)),none⟩,⟨some 97,.val (.bin .num .add (.t 96) (.c (.int .i64 1))),none⟩,⟨some 12,.val (.mov (.t 97)),none⟩]
def l33_4 : RC:=.seq (.seq (.reg g33_25) (.cond (.t 95) (.skip) (.exit 12))) (.seq (.block 13 (.draw g33_27)) (.reg g33_26))
def g33_23 : IL:=[⟨some 91,.val (.mov (.t 11)),none⟩,⟨some 92,.val (.bin .num .add (.t 91) (.c (.int .i64 1))),none⟩,⟨some 11,.val (.mov (.t 92)),none⟩]
def l33_5 : RC:=.seq (.seq (.reg g33_22) (.cond (.t 90) (.skip) (.exit 10))) (.seq (.block 11 (.seq (.reg g33_24) (.block 12 (.loop l33_4)))) (.reg g33_23))
def g33_19 : IL:=[⟨some 79,.val (.mov (.t 9)),none⟩,⟨some 80,.val (.bin .num .add (.t 79) (.c (.int .i64 1))),none⟩,⟨some 9,.val (.mov (.t 80)),none⟩]
def l33_6 : RC:=.seq (.seq (.reg g33_18) (.cond (.t 78) (.skip) (.exit 8))) (.seq (.block 9 (.seq (.reg g33_20) (.seq (.reg g33_21) (.block 10 (.loop l33_5))))) (.reg g33_19))
def g33_28 : IL:=[⟨some 112,.val (.mov (.t 3)),none⟩,⟨some 2,.val (.mov (.t 112)),none⟩]
def r33 : RC:=.seq (.reg g33_0) (.seq (.reg g33_1) (.seq (.seq (.reg g33_2) (.block 0 (.loop l33_3))) (.seq (.seq (.reg g33_17) (.block 8 (.loop l33_6))) (.seq (.reg g33_28) (.ret)))))
def o33 : List RR:=[.tmp 2]
theorem k33 : KK 113 r33 Tryz.f33:=by decide +kernel
theorem q33 : QQ Tryz.f33 o33:=by decide +kernel
def g170_0 : IL:=[⟨some 2,.boxN 2 (.t 0),none⟩,⟨some 3,.boxN 3 (.t 1),none⟩,⟨some 4,.val (.mov (.c (.bool false))),none⟩]
def g170_1 : IL:=[⟨some 5,.val (.faddr 5 (.t 3)),none⟩,⟨some 6,.val (.load none (.t 5)),none⟩]
def g170_2 : IL:=[⟨some 8,.val (.bin .num .eql (.t 6) (.c (.int .i64 10))),none⟩,⟨some 7,.val (.mov (.t 8)),none⟩]
def g170_3 : IL:=[⟨some 9,.val (.faddr 6 (.t 3)),none⟩,⟨some 10,.val (.load none (.t 9)),none⟩,⟨some 11,.val (.bin .num .geq (.t 10) (.c (.int .i64 0))),none⟩,⟨some 12,.val (.mov (.t 11)),none⟩,⟨some 13,.val (.faddr 6 (.t 3)),(some (12,true))⟩,⟨some 14,.val (.load none (.t 13)),(some (12,true))⟩,⟨some 15,.val (.faddr 0 (.t 2)),(some (12,true))⟩,⟨some 16,.val (.load none (.t 15)),(some (12,true))⟩,⟨some 17,.val (.len 1 (.t 16)),(some (12,true))⟩,⟨some 18,.val (.bin .num .lss (.t 14) (.t 17)),(some (12,true))⟩,⟨some 19,.val (.pick (.t 12) (.t 18) (.c (.bool false))),none⟩,⟨some 20,.val (.mov (.t 19)),none⟩,⟨some 21,.val (.faddr 3 (.t 3)),(some (20,true))⟩,⟨some 22,.val (.load none (.t 21)),(some (20,true))⟩,⟨some 23,.val (.bin .num .neq (.t 22) (.c (.int .i64 3))),(some (20,true))⟩,⟨some 24,.val (.pick (.t 20) (.t 23) (.c (.bool false))),none⟩,⟨some 4,.val (.mov (.t 24)),none⟩]
def g170_4 : IL:=[⟨some 26,.val (.bin .num .eql (.t 6) (.c (.int .i64 9))),none⟩,⟨some 25,.val (.mov (.t 26)),none⟩]
def g170_5 : IL:=[⟨some 27,.val (.faddr 6 (.t 3)),none⟩,⟨some 28,.val (.load none (.t 27)),none⟩,⟨some 29,.val (.bin .num .geq (.t 28) (.c (.int .i64 0))),none⟩,⟨some 30,.val (.mov (.t 29)),none⟩,⟨some 31,.val (.faddr 6 (.t 3)),(some (30,true))⟩,⟨some 32,.val (.load none (.t 31)),(some (30,true))⟩,⟨some 33,.val (.faddr 1 (.t 2)),(some (30,true))⟩,⟨some 34,.val (.load none (.t 33)),(some (30,true))⟩,⟨some 35,.val (.len 1 (.t 34)),(some (30,true))⟩,⟨some 36,.val (.bin .num .lss (.t 32) (.t 35)),(some (30,true))⟩,⟨some 37,.val (.pick (.t 30) (.t 36) (.c (.bool false))),none⟩,⟨some 4,.val (.mov (.t 37)),none⟩]
def g170_6 : IL:=[⟨some 38,.val (.faddr 6 (.t 3)),none⟩,⟨some 39,.val (.load none (.t 38)),none⟩,⟨some 40,.val (.bin .num .eql (.t 39) (.c (.int .i64 (-1)))),none⟩,⟨some 4,.val (.mov (.t 40)),none⟩]
def r170 : RC:=.seq (.reg g170_0) (.seq (.seq (.reg g170_1) (.block 0 (.seq (.reg g170_2) (.cond (.t 7) (.seq (.reg g170_3) (.ret)) (.seq (.reg g170_4) (.cond (.t 25) (.seq (.reg g170_5) (.ret)) (.skip))))))) (.seq (.reg g170_6) (.ret)))
def o170 : List RR:=[.tmp 4]
theorem k170 : KK 41 r170 Tryz.f170:=by decide +kernel
theorem q170 : QQ Tryz.f170 o170:=by decide +kernel
def g172_0 : IL:=[⟨some 4,.val (.mov (.c (.int .i64 0))),none⟩]
def g172_1 : IL:=[⟨some 6,.val (.mov (.t 0)),none⟩,⟨some 7,.val (.len 1 (.t 6)),none⟩,⟨some 8,.val (.mov (.c (.int .i64 0))),none⟩]
def g172_2 : IL:=[⟨some 9,.val (.bin .num .lss (.t 8) (.t 7)),none⟩]
def g172_3 : IL:=[⟨some 10,.val (.mov (.t 8)),none⟩,⟨some 5,.val (.mov (.t 10)),none⟩]
def g172_4 : IL:=[⟨some 11,.val (.mov (.t 1)),none⟩,⟨some 12,.val (.mov (.t 0)),none⟩,⟨some 13,.val (.mov (.t 5)),none⟩,⟨some 14,.val (.iaddr 8 none (.t 12) (.t 13)),none⟩,⟨some 15,.val (.load (some 8) (.t 14)),none⟩,⟨some 16,.callF (.t 11) [(.t 15)],none⟩]
def g172_5 : IL:=[⟨some 17,.val (.mov (.t 5)),none⟩,⟨some 4,.val (.mov (.t 17)),none⟩]
def g172_6 : IL:=[⟨some 18,.val (.bin .num .add (.t 8) (.c (.int .i64 1))),none⟩,⟨some 8,.val (.mov (.t 18)),none⟩]
def l172_0 : RC:=.seq (.reg g172_2) (.seq (.cond (.t 9) (.skip) (.exit 0)) (.seq (.block 1 (.seq (.reg g172_3) (.seq (.reg g172_4) (.cond (.t 16) (.seq (.reg g172_5) (.ret)) (.skip))))) (.reg g172_6)))
def g172_7 : IL:=[⟨some 4,.val (.mov (.c (.int .i64 (-1)))),none⟩]
def r172 : RC:=.seq (.reg g172_0) (.seq (.seq (.reg g172_1) (.block 0 (.loop l172_0))) (.seq (.reg g172_7) (.ret)))
def o172 : List RR:=[.tmp 4]
theorem k172 : KK 19 r172 Tryz.f172:=by decide +kernel
theorem q172 : QQ Tryz.f172 o172:=by decide +kernel
def g212_0 : IL:=[⟨some 4,.val (.mov (.c (.int .i64 0))),none⟩]
def g212_1 : IL:=[⟨some 6,.val (.mov (.t 0)),none⟩,⟨some 7,.val (.len 1 (.t 6)),none⟩,⟨some 8,.val (.mov (.c (.int .i64 0))),none⟩]
def g212_2 : IL:=[⟨some 9,.val (.bin .num .lss (.t 8) (.t 7)),none⟩]
def g212_3 : IL:=[⟨some 10,.val (.mov (.t 8)),none⟩,⟨some 5,.val (.mov (.t 10)),none⟩]
def g212_4 : IL:=[⟨some 11,.val (.mov (.t 1)),none⟩,⟨some 12,.val (.mov (.t 0)),none⟩,⟨some 13,.val (.mov (.t 5)),none⟩,⟨some 14,.val (.iaddr 3 none (.t 12) (.t 13)),none⟩,⟨some 15,.val (.load (some 3) (.t 14)),none⟩,⟨some 16,.callF (.t 11) [(.t 15)],none⟩]
def g212_5 : IL:=[⟨some 17,.val (.mov (.t 5)),none⟩,⟨some 4,.val (.mov (.t 17)),none⟩]
def g212_6 : IL:=[⟨some 18,.val (.bin .num .add (.t 8) (.c (.int .i64 1))),none⟩,⟨some 8,.val (.mov (.t 18)),none⟩]
def l212_0 : RC:=.seq (.reg g212_2) (.seq (.cond (.t 9) (.skip) (.exit 0)) (.seq (.block 1 (.seq (.reg g212_3) (.seq (.reg g212_4) (.cond (.t 16) (.seq (.reg g212_5) (.ret)) (.skip))))) (.reg g212_6)))
def g212_7 : IL:=[⟨some 4,.val (.mov (.c (.int .i64 (-1)))),none⟩]
def r212 : RC:=.seq (.reg g212_0) (.seq (.seq (.reg g212_1) (.block 0 (.loop l212_0))) (.seq (.reg g212_7) (.ret)))
def o212 : List RR:=[.tmp 4]
theorem k212 : KK 19 r212 Tryz.f212:=by decide +kernel
theorem q212 : QQ Tryz.f212 o212:=by decide +kernel
def g153_0 : IL:=[⟨some 4,.val (.mov (.c (.bool false))),none⟩]
def g153_1 : IL:=[⟨some 5,.val (.mov (.t 0)),none⟩,⟨some 6,.val (.mov (.t 1)),none⟩,⟨some 7,.callF (.f 212) [(.t 5),(.t 6)],none⟩,⟨some 8,.val (.bin .num .geq (.t 7) (.c (.int .i64 0))),none⟩,⟨some 4,.val (.mov (.t 8)),none⟩]
def r153 : RC:=.seq (.reg g153_0) (.seq (.reg g153_1) (.ret))
def o153 : List RR:=[.tmp 4]
theorem k153 : KK 9 r153 Tryz.f153:=by decide +kernel
theorem q153 : QQ Tryz.f153 o153:=by decide +kernel
def g100_0 : IL:=[⟨some 2,.val (.mov (.c (.bool false))),none⟩]
def g100_1 : IL:=[⟨some 3,.val (.mov (.t 0)),none⟩,⟨some 4,.call (.f 158) [(.t 3)],none⟩,⟨some 5,.val (.bin .num .lss (.t 4) (.c (.int .i64 0))),none⟩,⟨some 2,.val (.mov (.t 5)),none⟩]
def r100 : RC:=.seq (.reg g100_0) (.seq (.reg g100_1) (.ret))
def o100 : List RR:=[.tmp 2]
theorem k100 : KK 6 r100 Tryz.f100:=by decide +kernel
theorem q100 : QQ Tryz.f100 o100:=by decide +kernel
def g158_0 : IL:=[⟨some 2,.val (.mov (.c (.int .i64 0))),none⟩]
def g158_1 : IL:=[⟨some 5,.val (.mov (.t 0)),none⟩,⟨some 6,.rngs 6 (.t 5),none⟩]
def g158_2 : IL:=[⟨some 7,.nxts (.t 6),none⟩,⟨some 8,.val (.ext (.t 7) 0),none⟩]
def g158_3 : IL:=[⟨some 9,.val (.ext (.t 7) 1),none⟩,⟨some 10,.val (.ext (.t 7) 2),none⟩,⟨some 3,.val (.mov (.t 9)),none⟩,⟨some 4,.val (.mov (.t 10)),none⟩]
def g158_4 : IL:=[⟨some 11,.val (.mov (.t 0)),none⟩,⟨some 12,.val (.mov (.t 3)),none⟩,⟨some 13,.val (.mov (.t 4)),none⟩,⟨some 14,.call (.f 215) [(.t 11),(.t 12),(.t 13)],none⟩]
def g158_5 : IL:=[⟨some 15,.val (.mov (.t 3)),none⟩,⟨some 2,.val (.mov (.t 15)),none⟩]
def l158_0 : RC:=.seq (.reg g158_2) (.seq (.cond (.t 8) (.skip) (.exit 0)) (.block 1 (.seq (.reg g158_3) (.seq (.reg g158_4) (.cond (.t 14) (.seq (.reg g158_5) (.ret)) (.skip))))))
def g158_6 : IL:=[⟨some 2,.val (.mov (.c (.int .i64 (-1)))),none⟩]
def r158 : RC:=.seq (.reg g158_0) (.seq (.seq (.reg g158_1) (.block 0 (.loop l158_0))) (.seq (.reg g158_6) (.ret)))
def o158 : List RR:=[.tmp 2]
theorem k158 : KK 16 r158 Tryz.f158:=by decide +kernel
theorem q158 : QQ Tryz.f158 o158:=by decide +kernel
def g215_0 : IL:=[⟨some 6,.val (.mov (.c (.bool false))),none⟩]
def g215_1 : IL:=[⟨some 7,.val (.mov (.t 2)),none⟩,⟨some 8,.val (.bin .num .eql (.t 7) (.c (.int .i32 65533))),none⟩,⟨some 9,.val (.mov (.t 8)),none⟩,⟨some 10,.val (.mov (.t 0)),(some (9,true))⟩,⟨some 11,.val (.mov (.t 1)),(some (9,true))⟩,⟨some 12,.val (.slc none (.t 10) (some (.t 11)) none none),(some (9,true))⟩,⟨some 13,.call (.f 261) [(.t 12),(.c (.str [239,191,189]))],(some (9,true))⟩,⟨some 14,.val (.un .not (.t 13)),(some (9,true))⟩,⟨some 15,.val (.pick (.t 9) (.t 14) (.c (.bool false))),none⟩,⟨some 6,.val (.mov (.t 15)),none⟩]
def r215 : RC:=.seq (.reg g215_0) (.seq (.reg g215_1) (.ret))
def o215 : List RR:=[.tmp 6]
theorem k215 : KK 16 r215 Tryz.f215:=by decide +kernel
theorem q215 : QQ Tryz.f215 o215:=by decide +kernel
def g261_0 : IL:=[⟨some 4,.val (.mov (.c (.bool false))),none⟩]
def g261_1 : IL:=[⟨some 5,.val (.mov (.t 0)),none⟩,⟨some 6,.val (.mov (.t 1)),none⟩,⟨some 7,.call (.f 287) [(.t 5),(.t 6)],none⟩,⟨some 4,.val (.mov (.t 7)),none⟩]
def r261 : RC:=.seq (.reg g261_0) (.seq (.reg g261_1) (.ret))
def o261 : List RR:=[.tmp 4]
theorem k261 : KK 8 r261 Tryz.f261:=by decide +kernel
theorem q261 : QQ Tryz.f261 o261:=by decide +kernel
def g287_0 : IL:=[⟨some 4,.val (.mov (.c (.bool false))),none⟩]
def g287_1 : IL:=[⟨some 5,.val (.mov (.t 0)),none⟩,⟨some 6,.val (.len 0 (.t 5)),none⟩,⟨some 7,.val (.mov (.t 1)),none⟩,⟨some 8,.val (.len 0 (.t 7)),none⟩,⟨some 9,.val (.bin .num .geq (.t 6) (.t 8)),none⟩,⟨some 10,.val (.mov (.t 9)),none⟩,⟨some 11,.val (.mov (.t 0)),(some (10,true))⟩,⟨some 12,.val (.mov (.t 1)),(some (10,true))⟩,⟨some 13,.val (.len 0 (.t 12)),(some (10,true))⟩,⟨some 14,.val (.slc none (.t 11) none (some (.t 13)) none),(some (10,true))⟩,⟨some 15,.val (.mov (.t 1)),(some (10,true))⟩,⟨some 16,.val (.bin .str .eql (.t 14) (.t 15)),(some (10,true))⟩,⟨some 17,.val (.pick (.t 10) (.t 16) (.c (.bool false))),none⟩,⟨some 4,.val (.mov (.t 17)),none⟩]
def r287 : RC:=.seq (.reg g287_0) (.seq (.reg g287_1) (.ret))
def o287 : List RR:=[.tmp 4]
theorem k287 : KK 18 r287 Tryz.f287:=by decide +kernel
theorem q287 : QQ Tryz.f287 o287:=by decide +kernel
def g263_0 : IL:=[⟨some 3,.boxN 3 (.t 1),none⟩,⟨some 4,.val (.mov (.c (.bool false))),none⟩]
def g263_1 : IL:=[⟨some 5,.val (.mov (.t 0)),none⟩,⟨some 6,.call (.f 159) [(.t 5)],none⟩,⟨some 7,.val (.un .not (.t 6)),none⟩,⟨some 8,.val (.mov (.t 7)),none⟩,⟨some 9,.val (.faddr 0 (.t 3)),(some (8,false))⟩,⟨some 10,.val (.load none (.t 9)),(some (8,false))⟩,⟨some 11,.val (.mov (.t 0)),(some (8,false))⟩,⟨some 12,.val (.bin .num .neq (.t 10) (.t 11)),(some (8,false))⟩,⟨some 13,.val (.pick (.t 8) (.c (.bool true)) (.t 12)),none⟩,⟨some 14,.val (.mov (.t 13)),none⟩,⟨some 15,.val (.load (some 7) (.t 3)),(some (14,false))⟩,⟨some 16,.call (.f 179) [(.t 15)],(some (14,false))⟩,⟨some 17,.val (.un .not (.t 16)),(some (14,false))⟩,⟨some 18,.val (.pick (.t 14) (.c (.bool true)) (.t 17)),none⟩,⟨some 19,.val (.mov (.t 18)),none⟩,⟨some 20,.val (.mov (.t 0)),(some (19,false))⟩,⟨some 21,.val (.faddr 1 (.t 3)),(some (19,false))⟩,⟨some 22,.val (.load none (.t 21)),(some (19,false))⟩,⟨some 23,.call (.f 288) [(.t 20),(.t 22)],(some (19,false))⟩,⟨some 24,.val (.un .not (.t 23)),(some (19,false))⟩,⟨some 25,.val (.pick (.t 19) (.c (.bool true)) (.t 24)),none⟩,⟨some 26,.val (.mov (.t 25)),none⟩,⟨some 27,.val (.faddr 2 (.t 3)),(some (26,false))⟩,⟨some 28,.val (.load none (.t 27)),(some (26,false))⟩,⟨some 29,.val (.len 0 (.t 28)),(some (26,false))⟩,⟨some 30,.val (.bin .num .gtr (.t 29) (.c (.int .i64 4096))),(some (26,false))⟩,⟨some 31,.val (.pick (.t 26) (.c (.bool true)) (.t 30)),none⟩]
def g263_2 : IL:=[⟨some 4,.val (.mov (.c (.bool false))),none⟩]
def g263_3 : IL:=[⟨some 32,.val (.mov (.t 0)),none⟩,⟨some 33,.val (.bin .num .neq (.t 32) (.c (.int .i64 7))),none⟩,⟨some 34,.val (.mov (.t 33)),none⟩,⟨some 35,.val (.faddr 2 (.t 3)),(some (34,false))⟩,⟨some 36,.val (.load none (.t 35)),(some (34,false))⟩,⟨some 37,.call (.f 100) [(.t 36)],(some (34,false))⟩,⟨some 38,.val (.pick (.t 34) (.c (.bool true)) (.t 37)),none⟩,⟨some 4,.val (.mov (.t 38)),none⟩]
def r263 : RC:=.seq (.reg g263_0) (.seq (.seq (.reg g263_1) (.cond (.t 31) (.seq (.reg g263_2) (.ret)) (.skip))) (.seq (.reg g263_3) (.ret)))
def o263 : List RR:=[.tmp 4]
theorem k263 : KK 39 r263 Tryz.f263:=by decide +kernel
theorem q263 : QQ Tryz.f263 o263:=by decide +kernel
def g288_0 : IL:=[⟨some 4,.val (.mov (.c (.bool false))),none⟩]
def g288_1 : IL:=[⟨some 5,.val (.mov (.c (.int .u64 4294967295))),none⟩]
def g288_2 : IL:=[⟨some 6,.val (.mov (.t 0)),none⟩]
def g288_3 : IL:=[⟨some 8,.val (.bin .num .eql (.t 6) (.c (.int .i64 1))),none⟩,⟨some 7,.val (.mov (.t 8)),none⟩]
def g288_4 : IL:=[⟨some 10,.val (.bin .num .eql (.t 6) (.c (.int .i64 2))),none⟩,⟨some 9,.val (.mov (.t 10)),none⟩]
def g288_5 : IL:=[⟨some 12,.val (.bin .num .eql (.t 6) (.c (.int .i64 9))),none⟩,⟨some 11,.val (.mov (.t 12)),none⟩]
def g288_6 : IL:=[⟨some 14,.val (.bin .num .eql (.t 6) (.c (.int .i64 4))),none⟩,⟨some 13,.val (.mov (.t 14)),none⟩]
def g288_7 : IL:=[⟨some 15,.val (.mov (.t 1)),none⟩,⟨some 16,.val (.bin .num .leq (.t 15) (.c (.int .u64 1))),none⟩,⟨some 4,.val (.mov (.t 16)),none⟩]
def g288_8 : IL:=[⟨some 17,.val (.mov (.t 1)),none⟩,⟨some 18,.val (.cvi .i64 (.t 17)),none⟩,⟨some 19,.val (.bin .num .geq (.t 18) (.c (.int .i64 (-2147483648)))),none⟩,⟨some 20,.val (.mov (.t 19)),none⟩,⟨some 21,.val (.mov (.t 1)),(some (20,true))⟩,⟨some 22,.val (.cvi .i64 (.t 21)),(some (20,true))⟩,⟨some 23,.val (.bin .num .leq (.t 22) (.c (.int .i64 2147483647))),(some (20,true))⟩,⟨some 24,.val (.pick (.t 20) (.t 23) (.c (.bool false))),none⟩,⟨some 4,.val (.mov (.t 24)),none⟩]
def g288_9 : IL:=[⟨some 5,.val (.mov (.c (.int .u64 2147483647))),none⟩]
def g288_10 : IL:=[⟨some 25,.val (.mov (.t 1)),none⟩,⟨some 26,.val (.mov (.t 5)),none⟩,⟨some 27,.val (.bin .num .leq (.t 25) (.t 26)),none⟩,⟨some 4,.val (.mov (.t 27)),none⟩]
def g288_11 : IL:=[⟨some 4,.val (.mov (.c (.bool true))),none⟩]
def r288 : RC:=.seq (.reg g288_0) (.seq (.reg g288_1) (.seq (.seq (.reg g288_2) (.block 0 (.seq (.block 4 (.seq (.block 3 (.seq (.block 2 (.seq (.block 1 (.seq (.seq (.seq (.reg g288_3) (.cond (.t 7) (.exit 1) (.skip))) (.seq (.seq (.reg g288_4) (.cond (.t 9) (.exit 2) (.skip))) (.seq (.seq (.reg g288_5) (.cond (.t 11) (.exit 3) (.skip))) (.seq (.reg g288_6) (.cond (.t 13) (.exit 4) (.skip)))))) (.exit 0))) (.seq (.seq (.reg g288_7) (.ret)) (.exit 0)))) (.seq (.seq (.reg g288_8) (.ret)) (.exit 0)))) (.reg g288_9))) (.seq (.seq (.reg g288_10) (.ret)) (.exit 0))))) (.seq (.reg g288_11) (.ret))))
def o288 : List RR:=[.tmp 4]
theorem k288 : KK 28 r288 Tryz.f288:=by decide +kernel
theorem q288 : QQ Tryz.f288 o288:=by decide +kernel
def g179_0 : IL:=[⟨some 1,.boxN 1 (.t 0),none⟩,⟨some 2,.val (.mov (.c (.bool false))),none⟩]
def g179_1 : IL:=[⟨some 3,.val (.faddr 3 (.t 1)),none⟩,⟨some 4,.val (.load none (.t 3)),none⟩,⟨some 5,.val (.len 1 (.t 4)),none⟩,⟨some 6,.val (.faddr 4 (.t 1)),none⟩,⟨some 7,.val (.load none (.t 6)),none⟩,⟨some 8,.val (.len 1 (.t 7)),none⟩,⟨some 9,.val (.bin .num .add (.t 5) (.t 8)),none⟩,⟨some 10,.val (.faddr 5 (.t 1)),none⟩,⟨some 11,.val (.load none (.t 10)),none⟩,⟨some 12,.val (.len 1 (.t 11)),none⟩,⟨some 13,.val (.bin .num .add (.t 9) (.t 12)),none⟩,⟨some 14,.val (.faddr 6 (.t 1)),none⟩,⟨some 15,.val (.load none (.t 14)),none⟩,⟨some 16,.val (.len 1 (.t 15)),none⟩,⟨some 17,.val (.bin .num .add (.t 13) (.t 16)),none⟩,⟨some 18,.val (.bin .num .gtr (.t 17) (.c (.int .i64 0))),none⟩]
def g179_2 : IL:=[⟨some 2,.val (.mov (.c (.bool false))),none⟩]
def g179_3 : IL:=[⟨some 19,.val (.faddr 0 (.t 1)),none⟩,⟨some 20,.val (.load none (.t 19)),none⟩,⟨some 21,.call (.f 235) [(.t 20)],none⟩]
def g179_4 : IL:=[⟨some 22,.val (.faddr 1 (.t 1)),none⟩,⟨some 23,.val (.load none (.t 22)),none⟩,⟨some 24,.val (.bin .num .eql (.t 23) (.c (.int .u64 0))),none⟩,⟨some 2,.val (.mov (.t 24)),none⟩]
def g179_5 : IL:=[⟨some 25,.val (.faddr 2 (.t 1)),none⟩,⟨some 26,.val (.load none (.t 25)),none⟩,⟨some 27,.val (.bin .str .eql (.t 26) (.c (.str []))),none⟩,⟨some 2,.val (.mov (.t 27)),none⟩]
def r179 : RC:=.seq (.reg g179_0) (.seq (.seq (.reg g179_1) (.cond (.t 18) (.seq (.reg g179_2) (.ret)) (.skip))) (.seq (.seq (.reg g179_3) (.cond (.t 21) (.seq (.reg g179_4) (.ret)) (.skip))) (.seq (.reg g179_5) (.ret))))
def o179 : List RR:=[.tmp 2]
theorem k179 : KK 28 r179 Tryz.f179:=by decide +kernel
theorem q179 : QQ Tryz.f179 o179:=by decide +kernel
def g235_0 : IL:=[⟨some 2,.val (.mov (.c (.bool false))),none⟩]
def g235_1 : IL:=[⟨some 3,.val (.mov (.t 0)),none⟩,⟨some 4,.val (.bin .num .eql (.t 3) (.c (.int .i64 7))),none⟩,⟨some 5,.val (.mov (.t 4)),none⟩,⟨some 6,.val (.mov (.t 0)),(some (5,false))⟩,⟨some 7,.val (.bin .num .eql (.t 6) (.c (.int .i64 8))),(some (5,false))⟩,⟨some 8,.val (.pick (.t 5) (.c (.bool true)) (.t 7)),none⟩,⟨some 2,.val (.mov (.t 8)),none⟩]
def r235 : RC:=.seq (.reg g235_0) (.seq (.reg g235_1) (.ret))
def o235 : List RR:=[.tmp 2]
theorem k235 : KK 9 r235 Tryz.f235:=by decide +kernel
theorem q235 : QQ Tryz.f235 o235:=by decide +kernel
def g159_0 : IL:=[⟨some 2,.val (.mov (.c (.bool false))),none⟩]
def g159_1 : IL:=[⟨some 3,.val (.mov (.t 0)),none⟩,⟨some 4,.val (.bin .num .geq (.t 3) (.c (.int .i64 1))),none⟩,⟨some 5,.val (.mov (.t 4)),none⟩,⟨some 6,.val (.mov (.t 0)),(some (5,true))⟩,⟨some 7,.val (.bin .num .leq (.t 6) (.c (.int .i64 9))),(some (5,true))⟩,⟨some 8,.val (.pick (.t 5) (.t 7) (.c (.bool false))),none⟩,⟨some 2,.val (.mov (.t 8)),none⟩]
def r159 : RC:=.seq (.reg g159_0) (.seq (.reg g159_1) (.ret))
def o159 : List RR:=[.tmp 2]
theorem k159 : KK 9 r159 Tryz.f159:=by decide +kernel
theorem q159 : QQ Tryz.f159 o159:=by decide +kernel
def g3_0 : IL:=[⟨some 3,.boxN 3 (.t 0),none⟩,⟨some 5,.boxN 5 (.t 2),none⟩,⟨some 6,.val (.mov (.c (.bool false))),none⟩]
def g3_1 : IL:=[⟨some 7,.val (.load (some 2) (.t 3)),none⟩,⟨some 8,.call (.f 6) [(.t 7)],none⟩,⟨some 9,.val (.un .not (.t 8)),none⟩,⟨some 10,.val (.mov (.t 9)),none⟩,⟨some 11,.val (.load (some 7) (.t 5)),(some (10,false))⟩,⟨some 12,.call (.f 7) [(.t 11)],(some (10,false))⟩,⟨some 13,.val (.un .not (.t 12)),(some (10,false))⟩,⟨some 14,.val (.pick (.t 10) (.c (.bool true)) (.t 13)),none⟩]
def g3_2 : IL:=[⟨some 6,.val (.mov (.c (.bool true))),none⟩]
def g3_3 : IL:=[⟨some 15,.val (.loadv 0 3 (some 2) (.t 3)),none⟩,⟨some 16,.val (.mov (.t 1)),none⟩,⟨some 17,.val (.loadv 0 5 (some 7) (.t 5)),none⟩,⟨some 18,.call (.f 8) [(.t 15),(.t 16),(.t 17)],none⟩,⟨some 19,.val (.loadv 0 3 (some 2) (.t 3)),none⟩,⟨some 20,.val (.mov (.t 1)),none⟩,⟨some 21,.val (.loadv 0 5 (some 7) (.t 5)),none⟩,⟨some 22,.call (.f 9) [(.t 19),(.t 20),(.t 21)],none⟩,⟨some 23,.val (.bin .num .eql (.t 18) (.t 22)),none⟩,⟨some 24,.val (.mov (.t 23)),none⟩,⟨some 25,.call (.f 10) [],(some (24,true))⟩,⟨some 26,.val (.pick (.t 24) (.t 25) (.c (.bool false))),none⟩,⟨some 6,.val (.mov (.t 26)),none⟩]
def r3 : RC:=.seq (.reg g3_0) (.seq (.seq (.reg g3_1) (.cond (.t 14) (.seq (.reg g3_2) (.ret)) (.skip))) (.seq (.draw g3_3) (.ret)))
def o3 : List RR:=[.tmp 6]
theorem k3 : KK 27 r3 Tryz.f3:=by decide +kernel
theorem q3 : QQ Tryz.f3 o3:=by decide +kernel
def g6_0 : IL:=[⟨some 1,.boxN 1 (.t 0),none⟩,⟨some 2,.val (.mov (.c (.bool false))),none⟩]
def g6_1 : IL:=[⟨some 3,.val (.faddr 0 (.t 1)),none⟩,⟨some 4,.val (.load none (.t 3)),none⟩,⟨some 5,.val (.len 1 (.t 4)),none⟩,⟨some 6,.val (.bin .num .leq (.t 5) (.c (.int .i64 8))),none⟩,⟨some 7,.val (.mov (.t 6)),none⟩,⟨some 8,.val (.faddr 1 (.t 1)),(some (7,true))⟩,⟨some 9,.val (.load none (.t 8)),(some (7,true))⟩,⟨some 10,.val (.len 1 (.t 9)),(some (7,true))⟩,⟨some 11,.val (.bin .num .leq (.t 10) (.c (.int .i64 8))),(some (7,true))⟩,⟨some 12,.val (.pick (.t 7) (.t 11) (.c (.bool false))),none⟩,⟨some 13,.val (.mov (.t 12)),none⟩,⟨some 14,.val (.load (some 2) (.t 1)),(some (13,true))⟩,⟨some 15,.call (.f 13) [(.t 14)],(some (13,true))⟩,⟨some 16,.val (.bin .num .eql (.t 15) (.c (.int .i64 0))),(some (13,true))⟩,⟨some 17,.val (.pick (.t 13) (.t 16) (.c (.bool false))),none⟩,⟨some 2,.val (.mov (.t 17)),none⟩]
def r6 : RC:=.seq (.reg g6_0) (.seq (.reg g6_1) (.ret))
def o6 : List RR:=[.tmp 2]
theorem k6 : KK 18 r6 Tryz.f6:=by decide +kernel
theorem q6 : QQ Tryz.f6 o6:=by decide +kernel
def g7_0 : IL:=[⟨some 1,.boxN 1 (.t 0),none⟩,⟨some 2,.val (.mov (.c (.bool false))),none⟩]
def g7_1 : IL:=[⟨some 3,.val (.load (some 7) (.t 1)),none⟩,⟨some 4,.call (.f 17) [(.t 3)],none⟩,⟨some 5,.val (.bin .num .leq (.t 4) (.c (.int .i64 5000))),none⟩,⟨some 2,.val (.mov (.t 5)),none⟩]
def r7 : RC:=.seq (.reg g7_0) (.seq (.reg g7_1) (.ret))
def o7 : List RR:=[.tmp 2]
theorem k7 : KK 6 r7 Tryz.f7:=by decide +kernel
theorem q7 : QQ Tryz.f7 o7:=by decide +kernel
def g9_0 : IL:=[⟨some 3,.boxN 3 (.t 0),none⟩,⟨some 5,.boxN 5 (.t 2),none⟩,⟨some 6,.val (.mov (.c (.int .i64 0))),none⟩]
def g9_1 : IL:=[⟨some 8,.val (.mov (.t 1)),none⟩,⟨some 9,.val (.bin .num .lss (.t 8) (.c (.int .i64 0))),none⟩,⟨some 10,.val (.mov (.t 9)),none⟩,⟨some 11,.val (.mov (.t 1)),(some (10,false))⟩,⟨some 12,.val (.faddr 0 (.t 3)),(some (10,false))⟩,⟨some 13,.val (.load none (.t 12)),(some (10,false))⟩,⟨some 14,.val (.len 1 (.t 13)),(some (10,false))⟩,⟨some 15,.val (.bin .num .geq (.t 11) (.t 14)),(some (10,false))⟩,⟨some 16,.val (.pick (.t 10) (.c (.bool true)) (.t 15)),none⟩]
def g9_2 : IL:=[⟨some 6,.val (.mov (.c (.int .i64 10))),none⟩]
def g9_3 : IL:=[⟨some 17,.val (.load (some 2) (.t 3)),none⟩,⟨some 18,.val (.mov (.t 1)),none⟩,⟨some 19,.val (.load (some 7) (.t 5)),none⟩,⟨some 20,.call (.f 20) [(.t 17),(.t 18),(.t 19),(.c (.int .i64 1))],none⟩,⟨some 7,.val (.mov (.t 20)),none⟩]
def g9_4 : IL:=[⟨some 21,.val (.mov (.t 7)),none⟩,⟨some 22,.val (.bin .num .neq (.t 21) (.c (.int .i64 0))),none⟩]
def g9_5 : IL:=[⟨some 23,.val (.mov (.t 7)),none⟩,⟨some 6,.val (.mov (.t 23)),none⟩]
def g9_6 : IL:=[⟨some 24,.val (.load (some 7) (.t 5)),none⟩,⟨some 25,.call (.f 17) [(.t 24)],none⟩,⟨some 26,.val (.bin .num .gtr (.t 25) (.c (.int .i64 4096))),none⟩]
def g9_7 : IL:=[⟨some 6,.val (.mov (.c (.int .i64 3))),none⟩]
def g9_8 : IL:=[⟨some 6,.val (.mov (.c (.int .i64 0))),none⟩]
def r9 : RC:=.seq (.reg g9_0) (.seq (.seq (.reg g9_1) (.cond (.t 16) (.seq (.reg g9_2) (.ret)) (.skip))) (.seq (.seq (.reg g9_3) (.seq (.reg g9_4) (.cond (.t 22) (.seq (.reg g9_5) (.ret)) (.skip)))) (.seq (.seq (.reg g9_6) (.cond (.t 26) (.seq (.reg g9_7) (.ret)) (.skip))) (.seq (.reg g9_8) (.ret)))))
def o9 : List RR:=[.tmp 6]
theorem k9 : KK 27 r9 Tryz.f9:=by decide +kernel
theorem q9 : QQ Tryz.f9 o9:=by decide +kernel
def g20_0 : IL:=[⟨some 4,.boxN 4 (.t 0),none⟩,⟨some 6,.boxN 6 (.t 2),none⟩,⟨some 8,.val (.mov (.c (.int .i64 0))),none⟩]
def g20_1 : IL:=[⟨some 18,.val (.faddr 0 (.t 6)),none⟩,⟨some 19,.val (.load none (.t 18)),none⟩,⟨some 20,.val (.bin .num .neq (.t 19) (.c (.int .i64 10))),none⟩,⟨some 21,.val (.mov (.t 20)),none⟩,⟨some 22,.val (.load (some 7) (.t 6)),(some (21,false))⟩,⟨some 23,.call (.f 55) [(.t 22)],(some (21,false))⟩,⟨some 24,.val (.pick (.t 21) (.c (.bool true)) (.t 23)),none⟩]
def g20_2 : IL:=[⟨some 8,.val (.mov (.c (.int .i64 12))),none⟩]
def g20_3 : IL:=[⟨some 25,.val (.mov (.t 3)),none⟩,⟨some 26,.val (.bin .num .gtr (.t 25) (.c (.int .i64 16))),none⟩]
def g20_4 : IL:=[⟨some 8,.val (.mov (.c (.int .i64 17))),none⟩]
def g20_5 : IL:=[⟨some 27,.val (.faddr 0 (.t 4)),none⟩,⟨some 28,.val (.load none (.t 27)),none⟩,⟨some 29,.val (.mov (.t 1)),none⟩,⟨some 30,.val (.iaddr 3 none (.t 28) (.t 29)),none⟩,⟨some 31,.val (.load (some 3) (.t 30)),none⟩,⟨some 9,.allocN 9 [.str [],.nils,.int .i64 0],none⟩,⟨none,.store 3 (.t 9) (.t 31),none⟩]
def g20_6 : IL:=[⟨some 10,.val (.mov (.c (.int .i64 0))),none⟩]
def g20_7 : IL:=[⟨some 32,.val (.mov (.t 10)),none⟩,⟨some 33,.val (.faddr 5 (.t 6)),none⟩,⟨some 34,.val (.load none (.t 33)),none⟩,⟨some 35,.val (.len 1 (.t 34)),none⟩,⟨some 36,.val (.bin .num .lss (.t 32) (.t 35)),none⟩]
def g20_9 : IL:=[⟨some 39,.val (.load (some 3) (.t 9)),none⟩,⟨some 40,.val (.faddr 5 (.t 6)),none⟩,⟨some 41,.val (.load none (.t 40)),none⟩,⟨some 42,.val (.mov (.t 10)),none⟩,⟨some 43,.call (.f 56) [(.t 39),(.t 41),(.t 42)],none⟩,⟨some 11,.val (.mov (.t 43)),none⟩]
def g20_10 : IL:=[⟨some 44,.val (.mov (.t 11)),none⟩,⟨some 45,.val (.bin .num .neq (.t 44) (.c (.int .i64 0))),none⟩]
def g20_11 : IL:=[⟨some 46,.val (.mov (.t 11)),none⟩,⟨some 8,.val (.mov (.t 46)),none⟩]
def g20_12 : IL:=[⟨some 48,.val (.loadv 0 9 (some 3) (.t 9)),none⟩,⟨some 49,.val (.faddr 5 (.t 6)),none⟩,⟨some 50,.val (.loadv 0 6 none (.t 49)),none⟩,⟨some 51,.val (.mov (.t 10)),none⟩,⟨some 52,.val (.iaddr 8 none (.t 50) (.t 51)),none⟩,⟨some 53,.val (.faddr 0 (.t 52)),none⟩,⟨some 54,.val (.loadr none (.t 53)),none⟩,⟨some 55,.call (.f 57) [(.t 48),(.t 54)],none⟩,⟨some 47,.val (.mov (.t 55)),none⟩,⟨some 56,.val (.ext (.t 47) 0),none⟩,⟨some 57,.val (.ext (.t 47) 1),none⟩,⟨some 12,.allocN 12 [.int .i64 0,.str [],.str [],.int .i64 0,.int .i64 0,.int .i64 0,.int .i64 0,.int .i64 0],none⟩,⟨none,.storev 0 12 8 (.t 12) (.t 56),none⟩,⟨some 13,.val (.mov (.t 57)),none⟩]
def g20_13 : IL:=[⟨some 58,.val (.loadv 0 4 (some 2) (.t 4)),none⟩,⟨some 59,.val (.loadv 0 12 (some 8) (.t 12)),none⟩,⟨some 60,.val (.faddr 5 (.t 6)),none⟩,⟨some 61,.val (.loadv 0 6 none (.t 60)),none⟩,⟨some 62,.val (.mov (.t 10)),none⟩,⟨some 63,.val (.iaddr 8 none (.t 61) (.t 62)),none⟩,⟨some 64,.val (.faddr 1 (.t 63)),none⟩,⟨some 65,.val (.loadr (some 7) (.t 64)),none⟩,⟨some 66,.val (.mov (.t 3)),none⟩,⟨some 67,.call (.f 58) [(.t 58),(.t 59),(.t 65),(.t 66)],none⟩,⟨some 14,.val (.mov (.t 67)),none⟩]
def g20_14 : IL:=[⟨some 68,.val (.mov (.t 14)),none⟩,⟨some 69,.val (.bin .num .neq (.t 68) (.c (.int .i64 0))),none⟩]
def g20_15 : IL:=[⟨some 70,.val (.mov (.t 14)),none⟩,⟨some 8,.val (.mov (.t 70)),none⟩]
def g20_8 : IL:=[⟨some 37,.val (.mov (.t 10)),none⟩,⟨some 38,.val (.bin .num .add (.t 37) (.c (.int .i64 1))),none⟩,⟨some 10,.val (.mov (.t 38)),none⟩]
def l20_0 : RC:=.gho (.drop 12) (.seq (.seq (.reg g20_7) (.cond (.t 36) (.skip) (.exit 0))) (.seq (.block 1 (.seq (.seq (.reg g20_9) (.seq (.reg g20_10) (.cond (.t 45) (.seq (.reg g20_11) (.ret)) (.skip)))) (.seq (.draw g20_12) (.seq (.draw g20_13) (.seq (.reg g20_14) (.cond (.t 69) (.seq (.reg g20_15) (.ret)) (.skip))))))) (.reg g20_8)))
def g20_16 : IL:=[⟨some 15,.val (.mov (.c (.int .i64 0))),none⟩]
def g20_17 : IL:=[⟨some 71,.val (.mov (.t 15)),none⟩,⟨some 72,.val (.faddr 1 (.t 9)),none⟩,⟨some 73,.val (.load none (.t 72)),none⟩,⟨some 74,.val (.len 1 (.t 73)),none⟩,⟨some 75,.val (.bin .num .lss (.t 71) (.t 74)),none⟩]
def g20_19 : IL:=[⟨some 78,.val (.faddr 1 (.t 9)),none⟩,⟨some 79,.val (.loadv 0 9 none (.t 78)),none⟩,⟨some 80,.val (.mov (.t 15)),none⟩,⟨some 81,.val (.iaddr 8 none (.t 79) (.t 80)),none⟩,⟨some 82,.val (.faddr 3 (.t 81)),none⟩,⟨some 83,.val (.loadr none (.t 82)),none⟩,⟨some 84,.val (.bin .num .eql (.t 83) (.c (.int .i64 1))),none⟩,⟨some 85,.val (.mov (.t 84)),none⟩,⟨some 86,.val (.loadv 0 6 (some 7) (.t 6)),(some (85,true))⟩,⟨some 87,.val (.faddr 1 (.t 9)),(some (85,true))⟩,⟨some 88,.val (.loadv 0 9 none (.t 87)),(some (85,true))⟩,⟨some 89,.val (.mov (.t 15)),(some (85,true))⟩,⟨some 90,.val (.iaddr 8 none (.t 88) (.t 89)),(some (85,true))⟩,⟨some 91,.val (.faddr 0 (.t 90)),(some (85,true))⟩,⟨some 92,.val (.loadr none (.t 91)),(some (85,true))⟩,⟨some 93,.call (.f 59) [(.t 86),(.t 92)],(some (85,true))⟩,⟨some 94,.val (.un .not (.t 93)),(some (85,true))⟩,⟨some 95,.val (.pick (.t 85) (.t 94) (.c (.bool false))),none⟩]
def g20_20 : IL:=[⟨some 8,.val (.mov (.c (.int .i64 14))),none⟩]
def g20_18 : IL:=[⟨some 76,.val (.mov (.t 15)),none⟩,⟨some 77,.val (.bin .num .add (.t 76) (.c (.int .i64 1))),none⟩,⟨some 15,.val (.mov (.t 77)),none⟩]
def l20_1 : RC:=.seq (.seq (.reg g20_17) (.cond (.t 75) (.skip) (.exit 2))) (.seq (.block 3 (.seq (.draw g20_19) (.cond (.t 95) (.seq (.reg g20_20) (.ret)) (.skip)))) (.reg g20_18))
def g20_21 : IL:=[⟨some 16,.val (.mov (.c (.int .i64 0))),none⟩]
def g20_22 : IL:=[⟨some 96,.val (.mov (.t 16)),none⟩,⟨some 97,.val (.faddr 6 (.t 6)),none⟩,⟨some 98,.val (.load none (.t 97)),none⟩,⟨some 99,.val (.len 1 (.t 98)),none⟩,⟨some 100,.val (.bin .num .lss (.t 96) (.t 99)),none⟩]
def g20_24 : IL:=[⟨some 103,.val (.faddr 6 (.t 6)),none⟩,⟨some 104,.val (.load none (.t 103)),none⟩,⟨some 105,.val (.mov (.t 16)),none⟩,⟨some 106,.val (.iaddr 4 none (.t 104) (.t 105)),none⟩,⟨some 107,.val (.load (some 4) (.t 106)),none⟩,⟨some 17,.allocN 17 [.int .i64 0,.int .i64 0,.int .u64 0,.str []],none⟩,⟨none,.store 4 (.t 17) (.t 107),none⟩]
def g20_25 : IL:=[⟨some 108,.val (.load (some 2) (.t 4)),none⟩,⟨some 109,.val (.load (some 3) (.t 9)),none⟩,⟨some 110,.val (.load (some 4) (.t 17)),none⟩,⟨some 111,.call (.f 60) [(.t 108),(.t 109),(.t 110)],none⟩,⟨some 112,.val (.un .not (.t 111)),none⟩]
def g20_26 : IL:=[⟨some 8,.val (.mov (.c (.int .i64 1))),none⟩]
def g20_27 : IL:=[⟨some 113,.val (.faddr 1 (.t 17)),none⟩,⟨some 114,.val (.load none (.t 113)),none⟩,⟨some 115,.val (.bin .num .eql (.t 114) (.c (.int .i64 3))),none⟩,⟨some 116,.val (.mov (.t 115)),none⟩,⟨some 117,.val (.faddr 3 (.t 17)),(some (116,true))⟩,⟨some 118,.val (.load none (.t 117)),(some (116,true))⟩,⟨some 119,.val (.len 0 (.t 118)),(some (116,true))⟩,⟨some 120,.val (.bin .num .gtr (.t 119) (.c (.int .i64 4096))),(some (116,true))⟩,⟨some 121,.val (.pick (.t 116) (.t 120) (.c (.bool false))),none⟩,⟨some 122,.val (.mov (.t 121)),none⟩,⟨some 123,.val (.faddr 3 (.t 17)),(some (122,false))⟩,⟨some 124,.val (.load none (.t 123)),(some (122,false))⟩,⟨some 125,.val (.len 0 (.t 124)),(some (122,false))⟩,⟨some 126,.val (.bin .num .gtr (.t 125) (.c (.int .i64 65536))),(some (122,false))⟩,⟨some 127,.val (.pick (.t 122) (.c (.bool true)) (.t 126)),none⟩]
def g20_28 : IL:=[⟨some 8,.val (.mov (.c (.int .i64 3))),none⟩]
def g20_23 : IL:=[⟨some 101,.val (.mov (.t 16)),none⟩,⟨some 102,.val (.bin .num .add (.t 101) (.c (.int .i64 1))),none⟩,⟨some 16,.val (.mov (.t 102)),none⟩]
def l20_2 : RC:=.gho (.drop 17) (.seq (.seq (.reg g20_22) (.cond (.t 100) (.skip) (.exit 4))) (.seq (.block 5 (.seq (.reg g20_24) (.seq (.seq (.reg g20_25) (.cond (.t 112) (.seq (.reg g20_26) (.ret)) (.skip))) (.seq (.reg g20_27) (.cond (.t 127) (.seq (.reg g20_28) (.ret)) (.skip)))))) (.reg g20_23)))
def g20_29 : IL:=[⟨some 8,.val (.mov (.c (.int .i64 0))),none⟩]
def r20 : RC:=.seq (.reg g20_0) (.seq (.seq (.reg g20_1) (.cond (.t 24) (.seq (.reg g20_2) (.ret)) (.skip))) (.seq (.seq (.reg g20_3) (.cond (.t 26) (.seq (.reg g20_4) (.ret)) (.skip))) (.seq (.reg g20_5) (.seq (.seq (.reg g20_6) (.block 0 (.loop l20_0))) (.seq (.seq (.reg g20_16) (.block 2 (.loop l20_1))) (.seq (.seq (.reg g20_21) (.block 4 (.loop l20_2))) (.seq (.reg g20_29) (.ret))))))))
def o20 : List RR:=[.tmp 8]
theorem k20 : KK 128 r20 Tryz.f20:=by decide +kernel
theorem q20 : QQ Tryz.f20 o20:=by decide +kernel
def g55_0 : IL:=[⟨some 1,.boxN 1 (.t 0),none⟩,⟨some 2,.val (.mov (.c (.bool false))),none⟩]
def g55_1 : IL:=[⟨some 5,.val (.faddr 0 (.t 1)),none⟩,⟨some 6,.val (.load none (.t 5)),none⟩,⟨some 7,.val (.bin .num .eql (.t 6) (.c (.int .i64 7))),none⟩,⟨some 8,.val (.mov (.t 7)),none⟩,⟨some 9,.val (.faddr 0 (.t 1)),(some (8,false))⟩,⟨some 10,.val (.load none (.t 9)),(some (8,false))⟩,⟨some 11,.val (.bin .num .eql (.t 10) (.c (.int .i64 8))),(some (8,false))⟩,⟨some 12,.val (.pick (.t 8) (.c (.bool true)) (.t 11)),none⟩,⟨some 3,.val (.mov (.t 12)),none⟩]
def g55_2 : IL:=[⟨some 13,.val (.faddr 0 (.t 1)),none⟩,⟨some 14,.val (.load none (.t 13)),none⟩,⟨some 15,.val (.bin .num .eql (.t 14) (.c (.int .i64 10))),none⟩,⟨some 4,.val (.mov (.t 15)),none⟩]
def g55_3 : IL:=[⟨some 16,.val (.faddr 3 (.t 1)),none⟩,⟨some 17,.val (.load none (.t 16)),none⟩,⟨some 18,.val (.len 1 (.t 17)),none⟩,⟨some 19,.val (.bin .num .gtr (.t 18) (.c (.int .i64 0))),none⟩,⟨some 20,.val (.mov (.t 19)),none⟩,⟨some 21,.val (.faddr 0 (.t 1)),(some (20,true))⟩,⟨some 22,.val (.load none (.t 21)),(some (20,true))⟩,⟨some 23,.val (.bin .num .neq (.t 22) (.c (.int .i64 11))),(some (20,true))⟩,⟨some 24,.val (.pick (.t 20) (.t 23) (.c (.bool false))),none⟩,⟨some 25,.val (.mov (.t 24)),none⟩,⟨some 26,.val (.faddr 4 (.t 1)),(some (25,false))⟩,⟨some 27,.val (.load none (.t 26)),(some (25,false))⟩,⟨some 28,.val (.len 1 (.t 27)),(some (25,false))⟩,⟨some 29,.val (.bin .num .gtr (.t 28) (.c (.int .i64 0))),(some (25,false))⟩,⟨some 30,.val (.mov (.t 29)),(some (25,false))⟩,⟨some 31,.val (.faddr 0 (.t 1)),(some (30,true))⟩,⟨some 32,.val (.load none (.t 31)),(some (30,true))⟩,⟨some 33,.val (.bin .num .neq (.t 32) (.c (.int .i64 12))),(some (30,true))⟩,⟨some 34,.val (.pick (.t 30) (.t 33) (.c (.bool false))),(some (25,false))⟩,⟨some 35,.val (.pick (.t 25) (.c (.bool true)) (.t 34)),none⟩,⟨some 36,.val (.mov (.t 35)),none⟩,⟨some 37,.val (.faddr 5 (.t 1)),(some (36,false))⟩,⟨some 38,.val (.load none (.t 37)),(some (36,false))⟩,⟨some 39,.val (.len 1 (.t 38)),(some (36,false))⟩,⟨some 40,.val (.faddr 6 (.t 1)),(some (36,false))⟩,⟨some 41,.val (.load none (.t 40)),(some (36,false))⟩,⟨some 42,.val (.len 1 (.t 41)),(some (36,false))⟩,⟨some 43,.val (.bin .num .add (.t 39) (.t 42)),(some (36,false))⟩,⟨some 44,.val (.bin .num .gtr (.t 43) (.c (.int .i64 0))),(some (36,false))⟩,⟨some 45,.val (.mov (.t 44)),(some (36,false))⟩,⟨some 46,.val (.mov (.t 4)),(some (45,true))⟩,⟨some 47,.val (.un .not (.t 46)),(some (45,true))⟩,⟨some 48,.val (.pick (.t 45) (.t 47) (.c (.bool false))),(some (36,false))⟩,⟨some 49,.val (.pick (.t 36) (.c (.bool true)) (.t 48)),none⟩]
def g55_4 : IL:=[⟨some 2,.val (.mov (.c (.bool true))),none⟩]
def g55_5 : IL:=[⟨some 50,.val (.faddr 1 (.t 1)),none⟩,⟨some 51,.val (.load none (.t 50)),none⟩,⟨some 52,.val (.bin .num .neq (.t 51) (.c (.int .u64 0))),none⟩,⟨some 53,.val (.mov (.t 52)),none⟩,⟨some 54,.val (.mov (.t 3)),(some (53,true))⟩,⟨some 55,.val (.mov (.t 54)),(some (53,true))⟩,⟨some 56,.val (.faddr 0 (.t 1)),(some (55,false))⟩,⟨some 57,.val (.load none (.t 56)),(some (55,false))⟩,⟨some 58,.val (.bin .num .eql (.t 57) (.c (.int .i64 11))),(some (55,false))⟩,⟨some 59,.val (.pick (.t 55) (.c (.bool true)) (.t 58)),(some (53,true))⟩,⟨some 60,.val (.mov (.t 59)),(some (53,true))⟩,⟨some 61,.val (.faddr 0 (.t 1)),(some (60,false))⟩,⟨some 62,.val (.load none (.t 61)),(some (60,false))⟩,⟨some 63,.val (.bin .num .eql (.t 62) (.c (.int .i64 12))),(some (60,false))⟩,⟨some 64,.val (.pick (.t 60) (.c (.bool true)) (.t 63)),(some (53,true))⟩,⟨some 65,.val (.mov (.t 64)),(some (53,true))⟩,⟨some 66,.val (.mov (.t 4)),(some (65,false))⟩,⟨some 67,.val (.pick (.t 65) (.c (.bool true)) (.t 66)),(some (53,true))⟩,⟨some 68,.val (.pick (.t 53) (.t 67) (.c (.bool false))),none⟩,⟨some 69,.val (.mov (.t 68)),none⟩,⟨some 70,.val (.faddr 2 (.t 1)),(some (69,false))⟩,⟨some 71,.val (.load none (.t 70)),(some (69,false))⟩,⟨some 72,.val (.bin .str .neq (.t 71) (.c (.str []))),(some (69,false))⟩,⟨some 73,.val (.mov (.t 72)),(some (69,false))⟩,⟨some 74,.val (.mov (.t 3)),(some (73,true))⟩,⟨some 75,.val (.un .not (.t 74)),(some (73,true))⟩,⟨some 76,.val (.pick (.t 73) (.t 75) (.c (.bool false))),(some (69,false))⟩,⟨some 77,.val (.pick (.t 69) (.c (.bool true)) (.t 76)),none⟩,⟨some 2,.val (.mov (.t 77)),none⟩]
def r55 : RC:=.seq (.reg g55_0) (.seq (.reg g55_1) (.seq (.reg g55_2) (.seq (.seq (.reg g55_3) (.cond (.t 49) (.seq (.reg g55_4) (.ret)) (.skip))) (.seq (.reg g55_5) (.ret)))))
def o55 : List RR:=[.tmp 2]
theorem k55 : KK 78 r55 Tryz.f55:=by decide +kernel
theorem q55 : QQ Tryz.f55 o55:=by decide +kernel
def g56_0 : IL:=[⟨some 3,.boxN 3 (.t 0),none⟩,⟨some 6,.val (.mov (.c (.int .i64 0))),none⟩]
def g56_1 : IL:=[⟨some 14,.val (.loadv 0 3 (some 3) (.t 3)),none⟩,⟨some 15,.val (.mov (.t 1)),none⟩,⟨some 16,.val (.mov (.t 2)),none⟩,⟨some 17,.val (.iaddr 8 none (.t 15) (.t 16)),none⟩,⟨some 18,.val (.faddr 0 (.t 17)),none⟩,⟨some 19,.val (.loadr none (.t 18)),none⟩,⟨some 20,.call (.f 57) [(.t 14),(.t 19)],none⟩,⟨some 13,.val (.mov (.t 20)),none⟩,⟨some 21,.val (.ext (.t 13) 0),none⟩,⟨some 22,.val (.ext (.t 13) 1),none⟩,⟨some 7,.allocN 7 [.int .i64 0,.str [],.str [],.int .i64 0,.int .i64 0,.int .i64 0,.int .i64 0,.int .i64 0],none⟩,⟨none,.storev 0 7 8 (.t 7) (.t 21),none⟩,⟨some 8,.val (.mov (.t 22)),none⟩]
def g56_2 : IL:=[⟨some 23,.val (.mov (.t 8)),none⟩,⟨some 24,.val (.un .not (.t 23)),none⟩]
def g56_3 : IL:=[⟨some 6,.val (.mov (.c (.int .i64 8))),none⟩]
def g56_4 : IL:=[⟨some 9,.val (.mov (.c (.bool false))),none⟩]
def g56_5 : IL:=[⟨some 10,.val (.mov (.c (.int .i64 0))),none⟩]
def g56_6 : IL:=[⟨some 25,.val (.mov (.t 10)),none⟩,⟨some 26,.val (.mov (.t 2)),none⟩,⟨some 27,.val (.bin .num .lss (.t 25) (.t 26)),none⟩]
def g56_8 : IL:=[⟨some 30,.val (.mov (.t 1)),none⟩,⟨some 31,.val (.mov (.t 10)),none⟩,⟨some 32,.val (.iaddr 8 none (.t 30) (.t 31)),none⟩,⟨some 33,.val (.faddr 0 (.t 32)),none⟩,⟨some 34,.val (.loadr none (.t 33)),none⟩,⟨some 35,.val (.mov (.t 1)),none⟩,⟨some 36,.val (.mov (.t 2)),none⟩,⟨some 37,.val (.iaddr 8 none (.t 35) (.t 36)),none⟩,⟨some 38,.val (.faddr 0 (.t 37)),none⟩,⟨some 39,.val (.loadr none (.t 38)),none⟩,⟨some 40,.val (.bin .num .eql (.t 34) (.t 39)),none⟩]
def g56_9 : IL:=[⟨some 6,.val (.mov (.c (.int .i64 9))),none⟩]
def g56_10 : IL:=[⟨some 42,.val (.loadv 0 3 (some 3) (.t 3)),none⟩,⟨some 43,.val (.mov (.t 1)),none⟩,⟨some 44,.val (.mov (.t 10)),none⟩,⟨some 45,.val (.iaddr 8 none (.t 43) (.t 44)),none⟩,⟨some 46,.val (.faddr 0 (.t 45)),none⟩,⟨some 47,.val (.loadr none (.t 46)),none⟩,⟨some 48,.call (.f 57) [(.t 42),(.t 47)],none⟩,⟨some 41,.val (.mov (.t 48)),none⟩,⟨some 49,.val (.ext (.t 41) 0),none⟩,⟨some 50,.val (.ext (.t 41) 1),none⟩,⟨some 11,.allocN 11 [.int .i64 0,.str [],.str [],.int .i64 0,.int .i64 0,.int .i64 0,.int .i64 0,.int .i64 0],none⟩,⟨none,.storev 0 11 8 (.t 11) (.t 49),none⟩,⟨some 12,.val (.mov (.t 50)),none⟩]
def g56_11 : IL:=[⟨some 51,.val (.mov (.t 9)),none⟩,⟨some 52,.val (.mov (.t 51)),none⟩,⟨some 53,.val (.faddr 7 (.t 7)),(some (52,false))⟩,⟨some 54,.val (.load none (.t 53)),(some (52,false))⟩,⟨some 55,.val (.bin .num .neq (.t 54) (.c (.int .i64 (-1)))),(some (52,false))⟩,⟨some 56,.val (.mov (.t 55)),(some (52,false))⟩,⟨some 57,.val (.faddr 7 (.t 11)),(some (56,true))⟩,⟨some 58,.val (.load none (.t 57)),(some (56,true))⟩,⟨some 59,.val (.faddr 7 (.t 7)),(some (56,true))⟩,⟨some 60,.val (.load none (.t 59)),(some (56,true))⟩,⟨some 61,.val (.bin .num .eql (.t 58) (.t 60)),(some (56,true))⟩,⟨some 62,.val (.pick (.t 56) (.t 61) (.c (.bool false))),(some (52,false))⟩,⟨some 63,.val (.pick (.t 52) (.c (.bool true)) (.t 62)),none⟩,⟨some 9,.val (.mov (.t 63)),none⟩]
def g56_7 : IL:=[⟨some 28,.val (.mov (.t 10)),none⟩,⟨some 29,.val (.bin .num .add (.t 28) (.c (.int .i64 1))),none⟩,⟨some 10,.val (.mov (.t 29)),none⟩]
def l56_0 : RC:=.gho (.drop 11) (.seq (.seq (.reg g56_6) (.cond (.t 27) (.skip) (.exit 0))) (.seq (.block 1 (.seq (.seq (.draw g56_8) (.cond (.t 40) (.seq (.reg g56_9) (.ret)) (.skip))) (.seq (.draw g56_10) (.reg g56_11)))) (.reg g56_7)))
def g56_12 : IL:=[⟨some 64,.val (.mov (.t 9)),none⟩]
def g56_13 : IL:=[⟨some 6,.val (.mov (.c (.int .i64 15))),none⟩]
def g56_14 : IL:=[⟨some 6,.val (.mov (.c (.int .i64 0))),none⟩]
def r56 : RC:=.seq (.reg g56_0) (.seq (.draw g56_1) (.seq (.seq (.reg g56_2) (.cond (.t 24) (.seq (.reg g56_3) (.ret)) (.skip))) (.seq (.reg g56_4) (.seq (.seq (.reg g56_5) (.block 0 (.loop l56_0))) (.seq (.seq (.reg g56_12) (.cond (.t 64) (.seq (.reg g56_13) (.ret)) (.skip))) (.seq (.reg g56_14) (.ret)))))))
def o56 : List RR:=[.tmp 6]
theorem k56 : KK 65 r56 Tryz.f56:=by decide +kernel
theorem q56 : QQ Tryz.f56 o56:=by decide +kernel
def g57_0 : IL:=[⟨some 2,.boxN 2 (.t 0),none⟩,⟨some 4,.allocN 4 [.int .i64 0,.str [],.str [],.int .i64 0,.int .i64 0,.int .i64 0,.int .i64 0,.int .i64 0],none⟩,⟨some 5,.val (.mov (.c (.bool false))),none⟩]
def g57_1 : IL:=[⟨some 6,.val (.mov (.c (.int .i64 0))),none⟩]
def g57_2 : IL:=[⟨some 7,.val (.mov (.t 6)),none⟩,⟨some 8,.val (.faddr 1 (.t 2)),none⟩,⟨some 9,.val (.load none (.t 8)),none⟩,⟨some 10,.val (.len 1 (.t 9)),none⟩,⟨some 11,.val (.bin .num .lss (.t 7) (.t 10)),none⟩]
def g57_4 : IL:=[⟨some 14,.val (.faddr 1 (.t 2)),none⟩,⟨some 15,.val (.load none (.t 14)),none⟩,⟨some 16,.val (.mov (.t 6)),none⟩,⟨some 17,.val (.iaddr 8 none (.t 15) (.t 16)),none⟩,⟨some 18,.val (.faddr 0 (.t 17)),none⟩,⟨some 19,.val (.load none (.t 18)),none⟩,⟨some 20,.val (.mov (.t 1)),none⟩,⟨some 21,.val (.bin .num .eql (.t 19) (.t 20)),none⟩]
def g57_5 : IL:=[⟨some 22,.val (.faddr 1 (.t 2)),none⟩,⟨some 23,.val (.load none (.t 22)),none⟩,⟨some 24,.val (.mov (.t 6)),none⟩,⟨some 25,.val (.iaddr 8 none (.t 23) (.t 24)),none⟩,⟨some 26,.val (.load (some 8) (.t 25)),none⟩,⟨none,.store 8 (.t 4) (.t 26),none⟩,⟨some 5,.val (.mov (.c (.bool true))),none⟩]
def g57_3 : IL:=[⟨some 12,.val (.mov (.t 6)),none⟩,⟨some 13,.val (.bin .num .add (.t 12) (.c (.int .i64 1))),none⟩,⟨some 6,.val (.mov (.t 13)),none⟩]
def l57_0 : RC:=.seq (.seq (.reg g57_2) (.cond (.t 11) (.skip) (.exit 0))) (.seq (.block 1 (.seq (.reg g57_4) (.cond (.t 21) (.seq (.reg g57_5) (.ret)) (.skip)))) (.reg g57_3))
def g57_6 : IL:=[⟨some 27,.val (.build [.int .i64 0,.str [],.str [],.int .i64 0,.int .i64 0,.int .i64 0,.int .i64 0,.int .i64 0] []),none⟩,⟨none,.store 8 (.t 4) (.t 27),none⟩,⟨some 5,.val (.mov (.c (.bool false))),none⟩]
def r57 : RC:=.seq (.reg g57_0) (.seq (.seq (.reg g57_1) (.block 0 (.loop l57_0))) (.seq (.reg g57_6) (.ret)))
def o57 : List RR:=[.cell 4 (some 8),.tmp 5]
theorem k57 : KK 28 r57 Tryz.f57:=by decide +kernel
theorem q57 : QQ Tryz.f57 o57:=by decide +kernel
def g58_0 : IL:=[⟨some 4,.boxN 4 (.t 0),none⟩,⟨some 5,.boxN 5 (.t 1),none⟩,⟨some 6,.boxN 6 (.t 2),none⟩,⟨some 8,.val (.mov (.c (.int .i64 0))),none⟩]
def g58_1 : IL:=[⟨some 11,.val (.faddr 3 (.t 5)),none⟩,⟨some 12,.val (.load none (.t 11)),none⟩]
def g58_2 : IL:=[⟨some 14,.val (.bin .num .eql (.t 12) (.c (.int .i64 5))),none⟩,⟨some 13,.val (.mov (.t 14)),none⟩]
def g58_3 : IL:=[⟨some 15,.val (.faddr 0 (.t 6)),none⟩,⟨some 16,.val (.load none (.t 15)),none⟩,⟨some 17,.val (.bin .num .neq (.t 16) (.c (.int .i64 12))),none⟩,⟨some 18,.val (.mov (.t 17)),none⟩,⟨some 19,.val (.load (some 7) (.t 6)),(some (18,false))⟩,⟨some 20,.call (.f 55) [(.t 19)],(some (18,false))⟩,⟨some 21,.val (.pick (.t 18) (.c (.bool true)) (.t 20)),none⟩]
def g58_4 : IL:=[⟨some 8,.val (.mov (.c (.int .i64 12))),none⟩]
def g58_5 : IL:=[⟨some 22,.val (.load (some 2) (.t 4)),none⟩,⟨some 23,.val (.load (some 8) (.t 5)),none⟩,⟨some 24,.val (.faddr 4 (.t 6)),none⟩,⟨some 25,.val (.load none (.t 24)),none⟩,⟨some 26,.val (.mov (.t 3)),none⟩,⟨some 27,.call (.f 135) [(.t 22),(.t 23),(.t 25),(.t 26)],none⟩,⟨some 8,.val (.mov (.t 27)),none⟩]
def g58_6 : IL:=[⟨some 29,.val (.bin .num .eql (.t 12) (.c (.int .i64 4))),none⟩,⟨some 28,.val (.mov (.t 29)),none⟩]
def g58_7 : IL:=[⟨some 30,.val (.faddr 0 (.t 6)),none⟩,⟨some 31,.val (.load none (.t 30)),none⟩,⟨some 32,.val (.bin .num .neq (.t 31) (.c (.int .i64 11))),none⟩,⟨some 33,.val (.mov (.t 32)),none⟩,⟨some 34,.val (.load (some 7) (.t 6)),(some (33,false))⟩,⟨some 35,.call (.f 55) [(.t 34)],(some (33,false))⟩,⟨some 36,.val (.pick (.t 33) (.c (.bool true)) (.t 35)),none⟩]
def g58_8 : IL:=[⟨some 8,.val (.mov (.c (.int .i64 12))),none⟩]
def g58_9 : IL:=[⟨some 9,.val (.mov (.c (.int .i64 0))),none⟩]
def g58_10 : IL:=[⟨some 37,.val (.mov (.t 9)),none⟩,⟨some 38,.val (.faddr 3 (.t 6)),none⟩,⟨some 39,.val (.load none (.t 38)),none⟩,⟨some 40,.val (.len 1 (.t 39)),none⟩,⟨some 41,.val (.bin .num .lss (.t 37) (.t 40)),none⟩]
def g58_12 : IL:=[⟨some 44,.val (.loadv 0 4 (some 2) (.t 4)),none⟩,⟨some 45,.val (.loadv 0 5 (some 8) (.t 5)),none⟩,⟨some 46,.val (.faddr 3 (.t 6)),none⟩,⟨some 47,.val (.loadv 0 6 none (.t 46)),none⟩,⟨some 48,.val (.mov (.t 9)),none⟩,⟨some 49,.val (.iaddr 7 none (.t 47) (.t 48)),none⟩,⟨some 50,.val (.loadr (some 7) (.t 49)),none⟩,⟨some 51,.val (.mov (.t 3)),none⟩,⟨some 52,.call (.f 136) [(.t 44),(.t 45),(.t 50),(.t 51)],none⟩,⟨some 10,.val (.mov (.t 52)),none⟩]
def g58_13 : IL:=[⟨some 53,.val (.mov (.t 10)),none⟩,⟨some 54,.val (.bin .num .neq (.t 53) (.c (.int .i64 0))),none⟩]
def g58_14 : IL:=[⟨some 55,.val (.mov (.t 10)),none⟩,⟨some 8,.val (.mov (.t 55)),none⟩]
def g58_11 : IL:=[⟨some 42,.val (.mov (.t 9)),none⟩,⟨some 43,.val (.bin .num .add (.t 42) (.c (.int .i64 1))),none⟩,⟨some 9,.val (.mov (.t 43)),none⟩]
def l58_0 : RC:=.seq (.seq (.reg g58_10) (.cond (.t 41) (.skip) (.exit 1))) (.seq (.block 2 (.seq (.draw g58_12) (.seq (.reg g58_13) (.cond (.t 54) (.seq (.reg g58_14) (.ret)) (.skip))))) (.reg g58_11))
def g58_15 : IL:=[⟨some 8,.val (.mov (.c (.int .i64 0))),none⟩]
def g58_16 : IL:=[⟨some 56,.val (.load (some 2) (.t 4)),none⟩,⟨some 57,.val (.load (some 8) (.t 5)),none⟩,⟨some 58,.val (.load (some 7) (.t 6)),none⟩,⟨some 59,.val (.mov (.t 3)),none⟩,⟨some 60,.call (.f 136) [(.t 56),(.t 57),(.t 58),(.t 59)],none⟩,⟨some 8,.val (.mov (.t 60)),none⟩]
def r58 : RC:=.seq (.reg g58_0) (.seq (.seq (.reg g58_1) (.block 0 (.seq (.reg g58_2) (.cond (.t 13) (.seq (.seq (.reg g58_3) (.cond (.t 21) (.seq (.reg g58_4) (.ret)) (.skip))) (.seq (.reg g58_5) (.ret))) (.seq (.reg g58_6) (.cond (.t 28) (.seq (.seq (.reg g58_7) (.cond (.t 36) (.seq (.reg g58_8) (.ret)) (.skip))) (.seq (.seq (.reg g58_9) (.block 1 (.loop l58_0))) (.seq (.reg g58_15) (.ret)))) (.skip))))))) (.seq (.reg g58_16) (.ret)))
def o58 : List RR:=[.tmp 8]
theorem k58 : KK 61 r58 Tryz.f58:=by decide +kernel
theorem q58 : QQ Tryz.f58 o58:=by decide +kernel
def g59_0 : IL:=[⟨some 2,.boxN 2 (.t 0),none⟩,⟨some 4,.val (.mov (.c (.bool false))),none⟩]
def g59_1 : IL:=[⟨some 5,.val (.mov (.c (.int .i64 0))),none⟩]
def g59_2 : IL:=[⟨some 6,.val (.mov (.t 5)),none⟩,⟨some 7,.val (.faddr 5 (.t 2)),none⟩,⟨some 8,.val (.load none (.t 7)),none⟩,⟨some 9,.val (.len 1 (.t 8)),none⟩,⟨some 10,.val (.bin .num .lss (.t 6) (.t 9)),none⟩]
def g59_4 : IL:=[⟨some 13,.val (.faddr 5 (.t 2)),none⟩,⟨some 14,.val (.load none (.t 13)),none⟩,⟨some 15,.val (.mov (.t 5)),none⟩,⟨some 16,.val (.iaddr 8 none (.t 14) (.t 15)),none⟩,⟨some 17,.val (.faddr 0 (.t 16)),none⟩,⟨some 18,.val (.load none (.t 17)),none⟩,⟨some 19,.val (.mov (.t 1)),none⟩,⟨some 20,.val (.bin .num .eql (.t 18) (.t 19)),none⟩]
def g59_5 : IL:=[⟨some 4,.val (.mov (.c (.bool true))),none⟩]
def g59_3 : IL:=[⟨some 11,.val (.mov (.t 5)),none⟩,⟨some 12,.val (.bin .num .add (.t 11) (.c (.int .i64 1))),none⟩,⟨some 5,.val (.mov (.t 12)),none⟩]
def l59_0 : RC:=.seq (.seq (.reg g59_2) (.cond (.t 10) (.skip) (.exit 0))) (.seq (.block 1 (.seq (.reg g59_4) (.cond (.t 20) (.seq (.reg g59_5) (.ret)) (.skip)))) (.reg g59_3))
def g59_6 : IL:=[⟨some 4,.val (.mov (.c (.bool false))),none⟩]
def r59 : RC:=.seq (.reg g59_0) (.seq (.seq (.reg g59_1) (.block 0 (.loop l59_0))) (.seq (.reg g59_6) (.ret)))
def o59 : List RR:=[.tmp 4]
theorem k59 : KK 21 r59 Tryz.f59:=by decide +kernel
theorem q59 : QQ Tryz.f59 o59:=by decide +kernel
def g60_0 : IL:=[⟨some 3,.boxN 3 (.t 0),none⟩,⟨some 4,.boxN 4 (.t 1),none⟩,⟨some 5,.boxN 5 (.t 2),none⟩,⟨some 6,.val (.mov (.c (.bool false))),none⟩]
def g60_1 : IL:=[⟨some 9,.val (.faddr 0 (.t 5)),none⟩,⟨some 10,.val (.load none (.t 9)),none⟩,⟨some 11,.val (.bin .num .lss (.t 10) (.c (.int .i64 1))),none⟩,⟨some 12,.val (.mov (.t 11)),none⟩,⟨some 13,.val (.faddr 0 (.t 5)),(some (12,false))⟩,⟨some 14,.val (.load none (.t 13)),(some (12,false))⟩,⟨some 15,.val (.bin .num .gtr (.t 14) (.c (.int .i64 65535))),(some (12,false))⟩,⟨some 16,.val (.pick (.t 12) (.c (.bool true)) (.t 15)),none⟩,⟨some 17,.val (.mov (.t 16)),none⟩,⟨some 18,.val (.faddr 1 (.t 5)),(some (17,false))⟩,⟨some 19,.val (.load none (.t 18)),(some (17,false))⟩,⟨some 20,.val (.bin .num .lss (.t 19) (.c (.int .i64 0))),(some (17,false))⟩,⟨some 21,.val (.pick (.t 17) (.c (.bool true)) (.t 20)),none⟩,⟨some 22,.val (.mov (.t 21)),none⟩,⟨some 23,.val (.faddr 1 (.t 5)),(some (22,false))⟩,⟨some 24,.val (.load none (.t 23)),(some (22,false))⟩,⟨some 25,.val (.bin .num .gtr (.t 24) (.c (.int .i64 6))),(some (22,false))⟩,⟨some 26,.val (.pick (.t 22) (.c (.bool true)) (.t 25)),none⟩]
def g60_2 : IL:=[⟨some 6,.val (.mov (.c (.bool false))),none⟩]
def g60_3 : IL:=[⟨some 27,.val (.faddr 1 (.t 5)),none⟩,⟨some 28,.val (.load none (.t 27)),none⟩,⟨some 29,.val (.bin .num .leq (.t 28) (.c (.int .i64 2))),none⟩,⟨some 30,.val (.mov (.t 29)),none⟩,⟨some 31,.val (.faddr 3 (.t 5)),(some (30,true))⟩,⟨some 32,.val (.load none (.t 31)),(some (30,true))⟩,⟨some 33,.val (.bin .str .neq (.t 32) (.c (.str []))),(some (30,true))⟩,⟨some 34,.val (.pick (.t 30) (.t 33) (.c (.bool false))),none⟩,⟨some 35,.val (.mov (.t 34)),none⟩,⟨some 36,.val (.faddr 1 (.t 5)),(some (35,false))⟩,⟨some 37,.val (.load none (.t 36)),(some (35,false))⟩,⟨some 38,.val (.bin .num .gtr (.t 37) (.c (.int .i64 2))),(some (35,false))⟩,⟨some 39,.val (.mov (.t 38)),(some (35,false))⟩,⟨some 40,.val (.faddr 2 (.t 5)),(some (39,true))⟩,⟨some 41,.val (.load none (.t 40)),(some (39,true))⟩,⟨some 42,.val (.bin .num .neq (.t 41) (.c (.int .u64 0))),(some (39,true))⟩,⟨some 43,.val (.pick (.t 39) (.t 42) (.c (.bool false))),(some (35,false))⟩,⟨some 44,.val (.pick (.t 35) (.c (.bool true)) (.t 43)),none⟩]
def g60_4 : IL:=[⟨some 6,.val (.mov (.c (.bool false))),none⟩]
def g60_5 : IL:=[⟨some 46,.val (.load (some 3) (.t 4)),none⟩,⟨some 47,.val (.faddr 0 (.t 5)),none⟩,⟨some 48,.val (.load none (.t 47)),none⟩,⟨some 49,.call (.f 57) [(.t 46),(.t 48)],none⟩,⟨some 45,.val (.mov (.t 49)),none⟩,⟨some 50,.val (.ext (.t 45) 0),none⟩,⟨some 51,.val (.ext (.t 45) 1),none⟩,⟨some 7,.allocN 7 [.int .i64 0,.str [],.str [],.int .i64 0,.int .i64 0,.int .i64 0,.int .i64 0,.int .i64 0],none⟩,⟨none,.store 8 (.t 7) (.t 50),none⟩,⟨some 8,.val (.mov (.t 51)),none⟩]
def g60_6 : IL:=[⟨some 52,.val (.mov (.t 8)),none⟩,⟨some 53,.val (.un .not (.t 52)),none⟩]
def g60_7 : IL:=[⟨some 6,.val (.mov (.c (.bool true))),none⟩]
def g60_8 : IL:=[⟨some 54,.val (.faddr 5 (.t 7)),none⟩,⟨some 55,.val (.load none (.t 54)),none⟩,⟨some 56,.val (.bin .num .eql (.t 55) (.c (.int .i64 9))),none⟩,⟨some 57,.val (.mov (.t 56)),none⟩,⟨some 58,.val (.faddr 1 (.t 3)),(some (57,true))⟩,⟨some 59,.val (.load none (.t 58)),(some (57,true))⟩,⟨some 60,.val (.faddr 6 (.t 7)),(some (57,true))⟩,⟨some 61,.val (.load none (.t 60)),(some (57,true))⟩,⟨some 62,.val (.iaddr 5 none (.t 59) (.t 61)),(some (57,true))⟩,⟨some 63,.val (.faddr 1 (.t 62)),(some (57,true))⟩,⟨some 64,.val (.load none (.t 63)),(some (57,true))⟩,⟨some 65,.val (.un .not (.t 64)),(some (57,true))⟩,⟨some 66,.val (.pick (.t 57) (.t 65) (.c (.bool false))),none⟩,⟨some 67,.val (.mov (.t 66)),none⟩,⟨some 68,.val (.faddr 3 (.t 7)),(some (67,true))⟩,⟨some 69,.val (.load none (.t 68)),(some (67,true))⟩,⟨some 70,.val (.bin .num .neq (.t 69) (.c (.int .i64 5))),(some (67,true))⟩,⟨some 71,.val (.pick (.t 67) (.t 70) (.c (.bool false))),none⟩,⟨some 72,.val (.mov (.t 71)),none⟩,⟨some 73,.val (.faddr 1 (.t 5)),(some (72,true))⟩,⟨some 74,.val (.load none (.t 73)),(some (72,true))⟩,⟨some 75,.val (.bin .num .eql (.t 74) (.c (.int .i64 0))),(some (72,true))⟩,⟨some 76,.val (.pick (.t 72) (.t 75) (.c (.bool false))),none⟩,⟨some 77,.val (.mov (.t 76)),none⟩,⟨some 78,.val (.faddr 2 (.t 5)),(some (77,true))⟩,⟨some 79,.val (.load none (.t 78)),(some (77,true))⟩,⟨some 80,.val (.bin .num .leq (.t 79) (.c (.int .u64 2147483647))),(some (77,true))⟩,⟨some 81,.val (.pick (.t 77) (.t 80) (.c (.bool false))),none⟩,⟨some 82,.val (.mov (.t 81)),none⟩,⟨some 83,.val (.load (some 2) (.t 3)),(some (82,true))⟩,⟨some 84,.val (.faddr 6 (.t 7)),(some (82,true))⟩,⟨some 85,.val (.load none (.t 84)),(some (82,true))⟩,⟨some 86,.val (.faddr 2 (.t 5)),(some (82,true))⟩,⟨some 87,.val (.load none (.t 86)),(some (82,true))⟩,⟨some 88,.call (.f 137) [(.t 83),(.t 85),(.t 87)],(some (82,true))⟩,⟨some 89,.val (.un .not (.t 88)),(some (82,true))⟩,⟨some 90,.val (.pick (.t 82) (.t 89) (.c (.bool false))),none⟩,⟨some 6,.val (.mov (.t 90)),none⟩]
def r60 : RC:=.seq (.reg g60_0) (.seq (.seq (.reg g60_1) (.cond (.t 26) (.seq (.reg g60_2) (.ret)) (.skip))) (.seq (.seq (.reg g60_3) (.cond (.t 44) (.seq (.reg g60_4) (.ret)) (.skip))) (.seq (.reg g60_5) (.seq (.seq (.reg g60_6) (.cond (.t 53) (.seq (.reg g60_7) (.ret)) (.skip))) (.seq (.reg g60_8) (.ret))))))
def o60 : List RR:=[.tmp 6]
theorem k60 : KK 91 r60 Tryz.f60:=by decide +kernel
theorem q60 : QQ Tryz.f60 o60:=by decide +kernel
def g135_0 : IL:=[⟨some 4,.boxN 4 (.t 0),none⟩,⟨some 5,.boxN 5 (.t 1),none⟩,⟨some 8,.val (.mov (.c (.int .i64 0))),none⟩]
def g135_1 : IL:=[⟨some 9,.val (.mov (.c (.int .i64 0))),none⟩]
def g135_2 : IL:=[⟨some 13,.val (.mov (.t 9)),none⟩,⟨some 14,.val (.mov (.t 2)),none⟩,⟨some 15,.val (.len 1 (.t 14)),none⟩,⟨some 16,.val (.bin .num .lss (.t 13) (.t 15)),none⟩]
def g135_4 : IL:=[⟨some 19,.val (.loadv 0 4 (some 2) (.t 4)),none⟩,⟨some 20,.val (.faddr 4 (.t 5)),none⟩,⟨some 21,.val (.loadv 0 5 none (.t 20)),none⟩,⟨some 22,.val (.mov (.t 2)),none⟩,⟨some 23,.val (.mov (.t 9)),none⟩,⟨some 24,.val (.iaddr 14 none (.t 22) (.t 23)),none⟩,⟨some 25,.val (.faddr 0 (.t 24)),none⟩,⟨some 26,.val (.loadr (some 7) (.t 25)),none⟩,⟨some 27,.call (.f 194) [(.t 19),(.t 21),(.c (.int .i64 (-1))),(.t 26)],none⟩,⟨some 10,.val (.mov (.t 27)),none⟩]
def g135_5 : IL:=[⟨some 28,.val (.mov (.t 10)),none⟩,⟨some 29,.val (.bin .num .neq (.t 28) (.c (.int .i64 0))),none⟩]
def g135_6 : IL:=[⟨some 30,.val (.mov (.t 10)),none⟩,⟨some 8,.val (.mov (.t 30)),none⟩]
def g135_7 : IL:=[⟨some 11,.val (.mov (.c (.int .i64 0))),none⟩]
def g135_8 : IL:=[⟨some 31,.val (.mov (.t 11)),none⟩,⟨some 32,.val (.mov (.t 9)),none⟩,⟨some 33,.val (.bin .num .lss (.t 31) (.t 32)),none⟩]
def g135_10 : IL:=[⟨some 36,.val (.mov (.t 2)),none⟩,⟨some 37,.val (.mov (.t 11)),none⟩,⟨some 38,.val (.iaddr 14 none (.t 36) (.t 37)),none⟩,⟨some 39,.val (.faddr 0 (.t 38)),none⟩,⟨some 40,.val (.loadr (some 7) (.t 39)),none⟩,⟨some 41,.val (.mov (.t 2)),none⟩,⟨some 42,.val (.mov (.t 9)),none⟩,⟨some 43,.val (.iaddr 14 none (.t 41) (.t 42)),none⟩,⟨some 44,.val (.faddr 0 (.t 43)),none⟩,⟨some 45,.val (.loadr (some 7) (.t 44)),none⟩,⟨some 46,.call (.f 45) [(.t 40),(.t 45)],none⟩]
def g135_11 : IL:=[⟨some 8,.val (.mov (.c (.int .i64 9))),none⟩]
def g135_9 : IL:=[⟨some 34,.val (.mov (.t 11)),none⟩,⟨some 35,.val (.bin .num .add (.t 34) (.c (.int .i64 1))),none⟩,⟨some 11,.val (.mov (.t 35)),none⟩]
def l135_0 : RC:=.seq (.seq (.reg g135_8) (.cond (.t 33) (.skip) (.exit 2))) (.seq (.block 3 (.seq (.draw g135_10) (.cond (.t 46) (.seq (.reg g135_11) (.ret)) (.skip)))) (.reg g135_9))
def g135_12 : IL:=[⟨some 47,.val (.loadv 0 4 (some 2) (.t 4)),none⟩,⟨some 48,.val (.loadv 0 5 (some 8) (.t 5)),none⟩,⟨some 49,.val (.mov (.t 2)),none⟩,⟨some 50,.val (.mov (.t 9)),none⟩,⟨some 51,.val (.iaddr 14 none (.t 49) (.t 50)),none⟩,⟨some 52,.val (.faddr 7 (.t 51)),none⟩,⟨some 53,.val (.loadr (some 7) (.t 52)),none⟩,⟨some 54,.val (.mov (.t 3)),none⟩,⟨some 55,.call (.f 136) [(.t 47),(.t 48),(.t 53),(.t 54)],none⟩,⟨some 12,.val (.mov (.t 55)),none⟩]
def g135_13 : IL:=[⟨some 56,.val (.mov (.t 12)),none⟩,⟨some 57,.val (.bin .num .neq (.t 56) (.c (.int .i64 0))),none⟩]
def g135_14 : IL:=[⟨some 58,.val (.mov (.t 12)),none⟩,⟨some 8,.val (.mov (.t 58)),none⟩]
def g135_3 : IL:=[⟨some 17,.val (.mov (.t 9)),none⟩,⟨some 18,.val (.bin .num .add (.t 17) (.c (.int .i64 1))),none⟩,⟨some 9,.val (.mov (.t 18)),none⟩]
def l135_1 : RC:=.seq (.seq (.reg g135_2) (.cond (.t 16) (.skip) (.exit 0))) (.seq (.block 1 (.seq (.seq (.draw g135_4) (.seq (.reg g135_5) (.cond (.t 29) (.seq (.reg g135_6) (.ret)) (.skip)))) (.seq (.seq (.reg g135_7) (.block 2 (.loop l135_0))) (.seq (.draw g135_12) (.seq (.reg g135_13) (.cond (.t 57) (.seq (.reg g135_14) (.ret)) (.skip))))))) (.reg g135_3))
def g135_15 : IL:=[⟨some 8,.val (.mov (.c (.int .i64 0))),none⟩]
def r135 : RC:=.seq (.reg g135_0) (.seq (.seq (.reg g135_1) (.block 0 (.loop l135_1))) (.seq (.reg g135_15) (.ret)))
def o135 : List RR:=[.tmp 8]
theorem k135 : KK 59 r135 Tryz.f135:=by decide +kernel
theorem q135 : QQ Tryz.f135 o135:=by decide +kernel
def g136_0 : IL:=[⟨some 4,.boxN 4 (.t 0),none⟩,⟨some 5,.boxN 5 (.t 1),none⟩,⟨some 6,.boxN 6 (.t 2),none⟩,⟨some 8,.val (.mov (.c (.int .i64 0))),none⟩]
def g136_1 : IL:=[⟨some 9,.val (.faddr 5 (.t 5)),none⟩,⟨some 10,.val (.load none (.t 9)),none⟩,⟨some 11,.val (.bin .num .eql (.t 10) (.c (.int .i64 10))),none⟩]
def g136_2 : IL:=[⟨some 12,.val (.load (some 2) (.t 4)),none⟩,⟨some 13,.val (.faddr 6 (.t 5)),none⟩,⟨some 14,.val (.load none (.t 13)),none⟩,⟨some 15,.val (.load (some 7) (.t 6)),none⟩,⟨some 16,.val (.mov (.t 3)),none⟩,⟨some 17,.val (.bin .num .add (.t 16) (.c (.int .i64 1))),none⟩,⟨some 18,.call (.f 20) [(.t 12),(.t 14),(.t 15),(.t 17)],none⟩,⟨some 8,.val (.mov (.t 18)),none⟩]
def g136_3 : IL:=[⟨some 19,.val (.load (some 2) (.t 4)),none⟩,⟨some 20,.val (.faddr 5 (.t 5)),none⟩,⟨some 21,.val (.load none (.t 20)),none⟩,⟨some 22,.val (.faddr 6 (.t 5)),none⟩,⟨some 23,.val (.load none (.t 22)),none⟩,⟨some 24,.val (.load (some 7) (.t 6)),none⟩,⟨some 25,.call (.f 194) [(.t 19),(.t 21),(.t 23),(.t 24)],none⟩,⟨some 8,.val (.mov (.t 25)),none⟩]
def r136 : RC:=.seq (.reg g136_0) (.seq (.seq (.reg g136_1) (.cond (.t 11) (.seq (.reg g136_2) (.ret)) (.skip))) (.seq (.reg g136_3) (.ret)))
def o136 : List RR:=[.tmp 8]
theorem k136 : KK 26 r136 Tryz.f136:=by decide +kernel
theorem q136 : QQ Tryz.f136 o136:=by decide +kernel
def g194_0 : IL:=[⟨some 4,.boxN 4 (.t 0),none⟩,⟨some 7,.boxN 7 (.t 3),none⟩,⟨some 8,.val (.mov (.c (.int .i64 0))),none⟩]
def g194_1 : IL:=[⟨some 10,.val (.faddr 0 (.t 7)),none⟩,⟨some 11,.val (.load none (.t 10)),none⟩,⟨some 12,.val (.mov (.t 1)),none⟩,⟨some 13,.val (.bin .num .neq (.t 11) (.t 12)),none⟩,⟨some 14,.val (.mov (.t 13)),none⟩,⟨some 15,.val (.load (some 7) (.t 7)),(some (14,false))⟩,⟨some 16,.call (.f 55) [(.t 15)],(some (14,false))⟩,⟨some 17,.val (.pick (.t 14) (.c (.bool true)) (.t 16)),none⟩,⟨some 9,.val (.mov (.t 17)),none⟩]
def g194_2 : IL:=[⟨some 8,.val (.mov (.c (.int .i64 12))),none⟩]
def g194_3 : IL:=[⟨some 19,.val (.faddr 2 (.t 7)),none⟩,⟨some 20,.val (.load none (.t 19)),none⟩,⟨some 21,.val (.len 0 (.t 20)),none⟩,⟨some 22,.val (.bin .num .gtr (.t 21) (.c (.int .i64 4096))),none⟩,⟨some 18,.val (.mov (.t 22)),none⟩]
def g194_4 : IL:=[⟨some 8,.val (.mov (.c (.int .i64 3))),none⟩]
def g194_5 : IL:=[⟨some 24,.val (.mov (.t 1)),none⟩,⟨some 25,.val (.bin .num .eql (.t 24) (.c (.int .i64 7))),none⟩,⟨some 26,.val (.mov (.t 25)),none⟩,⟨some 27,.val (.faddr 2 (.t 7)),(some (26,true))⟩,⟨some 28,.val (.load none (.t 27)),(some (26,true))⟩,⟨some 29,.call (.f 169) [(.t 28)],(some (26,true))⟩,⟨some 30,.val (.un .not (.t 29)),(some (26,true))⟩,⟨some 31,.val (.pick (.t 26) (.t 30) (.c (.bool false))),none⟩,⟨some 23,.val (.mov (.t 31)),none⟩]
def g194_6 : IL:=[⟨some 8,.val (.mov (.c (.int .i64 7))),none⟩]
def g194_7 : IL:=[⟨some 33,.val (.mov (.t 1)),none⟩,⟨some 34,.val (.load (some 7) (.t 7)),none⟩,⟨some 35,.call (.f 220) [(.t 33),(.t 34)],none⟩,⟨some 36,.val (.un .not (.t 35)),none⟩,⟨some 32,.val (.mov (.t 36)),none⟩]
def g194_8 : IL:=[⟨some 8,.val (.mov (.c (.int .i64 12))),none⟩]
def g194_9 : IL:=[⟨some 38,.val (.mov (.t 1)),none⟩,⟨some 39,.val (.bin .num .eql (.t 38) (.c (.int .i64 9))),none⟩,⟨some 40,.val (.mov (.t 39)),none⟩,⟨some 41,.val (.load (some 2) (.t 4)),(some (40,true))⟩,⟨some 42,.val (.mov (.t 2)),(some (40,true))⟩,⟨some 43,.val (.faddr 1 (.t 7)),(some (40,true))⟩,⟨some 44,.val (.load none (.t 43)),(some (40,true))⟩,⟨some 45,.call (.f 137) [(.t 41),(.t 42),(.t 44)],(some (40,true))⟩,⟨some 46,.val (.un .not (.t 45)),(some (40,true))⟩,⟨some 47,.val (.pick (.t 40) (.t 46) (.c (.bool false))),none⟩,⟨some 37,.val (.mov (.t 47)),none⟩]
def g194_10 : IL:=[⟨some 8,.val (.mov (.c (.int .i64 16))),none⟩]
def g194_11 : IL:=[⟨some 8,.val (.mov (.c (.int .i64 0))),none⟩]
def r194 : RC:=.seq (.reg g194_0) (.seq (.block 0 (.seq (.reg g194_1) (.cond (.t 9) (.seq (.reg g194_2) (.ret)) (.seq (.reg g194_3) (.cond (.t 18) (.seq (.reg g194_4) (.ret)) (.seq (.reg g194_5) (.cond (.t 23) (.seq (.reg g194_6) (.ret)) (.seq (.reg g194_7) (.cond (.t 32) (.seq (.reg g194_8) (.ret)) (.seq (.reg g194_9) (.cond (.t 37) (.seq (.reg g194_10) (.ret)) (.skip)))))))))))) (.seq (.reg g194_11) (.ret)))
def o194 : List RR:=[.tmp 8]
theorem k194 : KK 48 r194 Tryz.f194:=by decide +kernel
theorem q194 : QQ Tryz.f194 o194:=by decide +kernel
def g137_0 : IL:=[⟨some 3,.boxN 3 (.t 0),none⟩,⟨some 6,.val (.mov (.c (.bool false))),none⟩]
def g137_1 : IL:=[⟨some 9,.val (.mov (.t 1)),none⟩,⟨some 10,.val (.bin .num .lss (.t 9) (.c (.int .i64 0))),none⟩,⟨some 11,.val (.mov (.t 10)),none⟩,⟨some 12,.val (.mov (.t 1)),(some (11,false))⟩,⟨some 13,.val (.faddr 1 (.t 3)),(some (11,false))⟩,⟨some 14,.val (.load none (.t 13)),(some (11,false))⟩,⟨some 15,.val (.len 1 (.t 14)),(some (11,false))⟩,⟨some 16,.val (.bin .num .geq (.t 12) (.t 15)),(some (11,false))⟩,⟨some 17,.val (.pick (.t 11) (.c (.bool true)) (.t 16)),none⟩,⟨some 18,.val (.mov (.t 17)),none⟩,⟨some 19,.val (.mov (.t 2)),(some (18,false))⟩,⟨some 20,.val (.bin .num .gtr (.t 19) (.c (.int .u64 2147483647))),(some (18,false))⟩,⟨some 21,.val (.pick (.t 18) (.c (.bool true)) (.t 20)),none⟩]
def g137_2 : IL:=[⟨some 6,.val (.mov (.c (.bool false))),none⟩]
def g137_3 : IL:=[⟨some 22,.val (.faddr 1 (.t 3)),none⟩,⟨some 23,.val (.load none (.t 22)),none⟩,⟨some 24,.val (.mov (.t 1)),none⟩,⟨some 25,.val (.iaddr 5 none (.t 23) (.t 24)),none⟩,⟨some 26,.val (.faddr 1 (.t 25)),none⟩,⟨some 27,.val (.load none (.t 26)),none⟩,⟨some 7,.val (.mov (.t 27)),none⟩]
def g137_4 : IL:=[⟨some 8,.val (.mov (.c (.int .i64 0))),none⟩]
def g137_5 : IL:=[⟨some 28,.val (.mov (.t 8)),none⟩,⟨some 29,.val (.faddr 1 (.t 3)),none⟩,⟨some 30,.val (.load none (.t 29)),none⟩,⟨some 31,.val (.mov (.t 1)),none⟩,⟨some 32,.val (.iaddr 5 none (.t 30) (.t 31)),none⟩,⟨some 33,.val (.faddr 2 (.t 32)),none⟩,⟨some 34,.val (.load none (.t 33)),none⟩,⟨some 35,.val (.len 1 (.t 34)),none⟩,⟨some 36,.val (.bin .num .lss (.t 28) (.t 35)),none⟩]
def g137_7 : IL:=[⟨some 39,.val (.mov (.t 7)),none⟩,⟨some 40,.val (.mov (.t 39)),none⟩,⟨some 41,.val (.faddr 1 (.t 3)),(some (40,false))⟩,⟨some 42,.val (.load none (.t 41)),(some (40,false))⟩,⟨some 43,.val (.mov (.t 1)),(some (40,false))⟩,⟨some 44,.val (.iaddr 5 none (.t 42) (.t 43)),(some (40,false))⟩,⟨some 45,.val (.faddr 2 (.t 44)),(some (40,false))⟩,⟨some 46,.val (.load none (.t 45)),(some (40,false))⟩,⟨some 47,.val (.mov (.t 8)),(some (40,false))⟩,⟨some 48,.val (.iaddr 3 none (.t 46) (.t 47)),(some (40,false))⟩,⟨some 49,.val (.faddr 1 (.t 48)),(some (40,false))⟩,⟨some 50,.val (.load none (.t 49)),(some (40,false))⟩,⟨some 51,.val (.mov (.t 2)),(some (40,false))⟩,⟨some 52,.val (.cvi .i64 (.t 51)),(some (40,false))⟩,⟨some 53,.val (.bin .num .eql (.t 50) (.t 52)),(some (40,false))⟩,⟨some 54,.val (.pick (.t 40) (.c (.bool true)) (.t 53)),none⟩,⟨some 7,.val (.mov (.t 54)),none⟩]
def g137_6 : IL:=[⟨some 37,.val (.mov (.t 8)),none⟩,⟨some 38,.val (.bin .num .add (.t 37) (.c (.int .i64 1))),none⟩,⟨some 8,.val (.mov (.t 38)),none⟩]
def l137_0 : RC:=.seq (.seq (.reg g137_5) (.cond (.t 36) (.skip) (.exit 0))) (.seq (.block 1 (.reg g137_7)) (.reg g137_6))
def g137_8 : IL:=[⟨some 55,.val (.mov (.t 7)),none⟩,⟨some 6,.val (.mov (.t 55)),none⟩]
def r137 : RC:=.seq (.reg g137_0) (.seq (.seq (.reg g137_1) (.cond (.t 21) (.seq (.reg g137_2) (.ret)) (.skip))) (.seq (.reg g137_3) (.seq (.seq (.reg g137_4) (.block 0 (.loop l137_0))) (.seq (.reg g137_8) (.ret)))))
def o137 : List RR:=[.tmp 6]
theorem k137 : KK 56 r137 Tryz.f137:=by decide +kernel
theorem q137 : QQ Tryz.f137 o137:=by decide +kernel
def g17_0 : IL:=[⟨some 1,.boxN 1 (.t 0),none⟩,⟨some 2,.val (.mov (.c (.int .i64 0))),none⟩]
def g17_1 : IL:=[⟨some 7,.val (.faddr 6 (.t 1)),none⟩,⟨some 8,.val (.load none (.t 7)),none⟩,⟨some 9,.val (.len 1 (.t 8)),none⟩,⟨some 10,.val (.bin .num .add (.c (.int .i64 1)) (.t 9)),none⟩,⟨some 3,.val (.mov (.t 10)),none⟩]
def g17_2 : IL:=[⟨some 4,.val (.mov (.c (.int .i64 0))),none⟩]
def g17_3 : IL:=[⟨some 11,.val (.mov (.t 4)),none⟩,⟨some 12,.val (.faddr 3 (.t 1)),none⟩,⟨some 13,.val (.load none (.t 12)),none⟩,⟨some 14,.val (.len 1 (.t 13)),none⟩,⟨some 15,.val (.bin .num .lss (.t 11) (.t 14)),none⟩]
def g17_5 : IL:=[⟨some 18,.val (.mov (.t 3)),none⟩,⟨some 19,.val (.faddr 3 (.t 1)),none⟩,⟨some 20,.val (.load none (.t 19)),none⟩,⟨some 21,.val (.mov (.t 4)),none⟩,⟨some 22,.val (.iaddr 7 none (.t 20) (.t 21)),none⟩,⟨some 23,.val (.load (some 7) (.t 22)),none⟩,⟨some 24,.call (.f 17) [(.t 23)],none⟩,⟨some 25,.val (.bin .num .add (.t 18) (.t 24)),none⟩,⟨some 3,.val (.mov (.t 25)),none⟩]
def g17_4 : IL:=[⟨some 16,.val (.mov (.t 4)),none⟩,⟨some 17,.val (.bin .num .add (.t 16) (.c (.int .i64 1))),none⟩,⟨some 4,.val (.mov (.t 17)),none⟩]
def l17_0 : RC:=.seq (.seq (.reg g17_3) (.cond (.t 15) (.skip) (.exit 0))) (.seq (.block 1 (.reg g17_5)) (.reg g17_4))
def g17_6 : IL:=[⟨some 5,.val (.mov (.c (.int .i64 0))),none⟩]
def g17_7 : IL:=[⟨some 26,.val (.mov (.t 5)),none⟩,⟨some 27,.val (.faddr 4 (.t 1)),none⟩,⟨some 28,.val (.load none (.t 27)),none⟩,⟨some 29,.val (.len 1 (.t 28)),none⟩,⟨some 30,.val (.bin .num .lss (.t 26) (.t 29)),none⟩]
def g17_9 : IL:=[⟨some 33,.val (.mov (.t 3)),none⟩,⟨some 34,.val (.faddr 4 (.t 1)),none⟩,⟨some 35,.val (.loadv 0 1 none (.t 34)),none⟩,⟨some 36,.val (.mov (.t 5)),none⟩,⟨some 37,.val (.iaddr 14 none (.t 35) (.t 36)),none⟩,⟨some 38,.val (.faddr 0 (.t 37)),none⟩,⟨some 39,.val (.loadr (some 7) (.t 38)),none⟩,⟨some 40,.call (.f 17) [(.t 39)],none⟩,⟨some 41,.val (.faddr 4 (.t 1)),none⟩,⟨some 42,.val (.loadv 0 1 none (.t 41)),none⟩,⟨some 43,.val (.mov (.t 5)),none⟩,⟨some 44,.val (.iaddr 14 none (.t 42) (.t 43)),none⟩,⟨some 45,.val (.faddr 7 (.t 44)),none⟩,⟨some 46,.val (.loadr (some 7) (.t 45)),none⟩,⟨some 47,.call (.f 17) [(.t 46)],none⟩,⟨some 48,.val (.bin .num .add (.t 40) (.t 47)),none⟩,⟨some 49,.val (.bin .num .add (.t 33) (.t 48)),none⟩,⟨some 3,.val (.mov (.t 49)),none⟩]
def g17_8 : IL:=[⟨some 31,.val (.mov (.t 5)),none⟩,⟨some 32,.val (.bin .num .add (.t 31) (.c (.int .i64 1))),none⟩,⟨some 5,.val (.mov (.t 32)),none⟩]
def l17_1 : RC:=.seq (.seq (.reg g17_7) (.cond (.t 30) (.skip) (.exit 2))) (.seq (.block 3 (.draw g17_9)) (.reg g17_8))
def g17_10 : IL:=[⟨some 6,.val (.mov (.c (.int .i64 0))),none⟩]
def g17_11 : IL:=[⟨some 50,.val (.mov (.t 6)),none⟩,⟨some 51,.val (.faddr 5 (.t 1)),none⟩,⟨some 52,.val (.load none (.t 51)),none⟩,⟨some 53,.val (.len 1 (.t 52)),none⟩,⟨some 54,.val (.bin .num .lss (.t 50) (.t 53)),none⟩]
def g17_13 : IL:=[⟨some 57,.val (.mov (.t 3)),none⟩,⟨some 58,.val (.faddr 5 (.t 1)),none⟩,⟨some 59,.val (.load none (.t 58)),none⟩,⟨some 60,.val (.mov (.t 6)),none⟩,⟨some 61,.val (.iaddr 8 none (.t 59) (.t 60)),none⟩,⟨some 62,.val (.faddr 1 (.t 61)),none⟩,⟨some 63,.val (.load (some 7) (.t 62)),none⟩,⟨some 64,.call (.f 17) [(.t 63)],none⟩,⟨some 65,.val (.bin .num .add (.t 57) (.t 64)),none⟩,⟨some 3,.val (.mov (.t 65)),none⟩]
def g17_12 : IL:=[⟨some 55,.val (.mov (.t 6)),none⟩,⟨some 56,.val (.bin .num .add (.t 55) (.c (.int .i64 1))),none⟩,⟨some 6,.val (.mov (.t 56)),none⟩]
def l17_2 : RC:=.seq (.seq (.reg g17_11) (.cond (.t 54) (.skip) (.exit 4))) (.seq (.block 5 (.reg g17_13)) (.reg g17_12))
def g17_14 : IL:=[⟨some 66,.val (.mov (.t 3)),none⟩,⟨some 2,.val (.mov (.t 66)),none⟩]
def r17 : RC:=.seq (.reg g17_0) (.seq (.reg g17_1) (.seq (.seq (.reg g17_2) (.block 0 (.loop l17_0))) (.seq (.seq (.reg g17_6) (.block 2 (.loop l17_1))) (.seq (.seq (.reg g17_10) (.block 4 (.loop l17_2))) (.seq (.reg g17_14) (.ret))))))
def o17 : List RR:=[.tmp 2]
theorem k17 : KK 67 r17 Tryz.f17:=by decide +kernel
theorem q17 : QQ Tryz.f17 o17:=by decide +kernel
def g19_0 : IL:=[⟨some 1,.boxN 1 (.t 0),none⟩,⟨some 2,.val (.mov (.c (.int .i64 0))),none⟩]
def g19_1 : IL:=[⟨some 6,.val (.faddr 6 (.t 1)),none⟩,⟨some 7,.val (.load none (.t 6)),none⟩,⟨some 8,.val (.len 1 (.t 7)),none⟩,⟨some 9,.val (.bin .num .add (.c (.int .i64 1)) (.t 8)),none⟩,⟨some 3,.val (.mov (.t 9)),none⟩]
def g19_2 : IL:=[⟨some 10,.val (.load (some 7) (.t 1)),none⟩,⟨some 11,.call (.f 54) [(.t 10)],none⟩,⟨some 12,.val (.len 1 (.t 11)),none⟩,⟨some 13,.val (.mov (.c (.int .i64 0))),none⟩]
def g19_3 : IL:=[⟨some 14,.val (.bin .num .lss (.t 13) (.t 12)),none⟩]
def g19_4 : IL:=[⟨some 15,.val (.iaddr 7 none (.t 11) (.t 13)),none⟩,⟨some 16,.val (.load (some 7) (.t 15)),none⟩,⟨some 5,.allocN 5 [.int .i64 0,.int .u64 0,.str [],.nils,.nils,.nils,.nils],none⟩,⟨none,.store 7 (.t 5) (.t 16),none⟩]
def g19_5 : IL:=[⟨some 17,.val (.mov (.t 3)),none⟩,⟨some 18,.val (.load (some 7) (.t 5)),none⟩,⟨some 19,.call (.f 19) [(.t 18)],none⟩,⟨some 20,.val (.bin .num .add (.t 17) (.t 19)),none⟩,⟨some 3,.val (.mov (.t 20)),none⟩]
def g19_6 : IL:=[⟨some 21,.val (.bin .num .add (.t 13) (.c (.int .i64 1))),none⟩,⟨some 13,.val (.mov (.t 21)),none⟩]
def l19_0 : RC:=.gho (.drop 5) (.seq (.reg g19_3) (.seq (.cond (.t 14) (.skip) (.exit 0)) (.seq (.block 1 (.seq (.reg g19_4) (.reg g19_5))) (.reg g19_6))))
def g19_7 : IL:=[⟨some 22,.val (.mov (.t 3)),none⟩,⟨some 2,.val (.mov (.t 22)),none⟩]
def r19 : RC:=.seq (.reg g19_0) (.seq (.reg g19_1) (.seq (.seq (.reg g19_2) (.block 0 (.loop l19_0))) (.seq (.reg g19_7) (.ret))))
def o19 : List RR:=[.tmp 2]
theorem k19 : KK 23 r19 Tryz.f19:=by decide +kernel
theorem q19 : QQ Tryz.f19 o19:=by decide +kernel
def g54_0 : IL:=[⟨some 1,.boxN 1 (.t 0),none⟩,⟨some 2,.val (.mov (.c (.nils))),none⟩]
def g54_1 : IL:=[⟨some 8,.val (.faddr 3 (.t 1)),none⟩,⟨some 9,.val (.load none (.t 8)),none⟩,⟨some 10,.callF (.f 134) [(.t 9)],none⟩,⟨some 3,.val (.mov (.t 10)),none⟩]
def g54_2 : IL:=[⟨some 11,.val (.faddr 4 (.t 1)),none⟩,⟨some 12,.val (.load none (.t 11)),none⟩,⟨some 13,.val (.len 1 (.t 12)),none⟩,⟨some 14,.val (.mov (.c (.int .i64 0))),none⟩]
def g54_3 : IL:=[⟨some 15,.val (.bin .num .lss (.t 14) (.t 13)),none⟩]
def g54_4 : IL:=[⟨some 16,.val (.iaddr 14 none (.t 12) (.t 14)),none⟩,⟨some 17,.val (.load (some 14) (.t 16)),none⟩,⟨some 5,.allocN 5 [.int .i64 0,.int .u64 0,.str [],.nils,.nils,.nils,.nils,.int .i64 0,.int .u64 0,.str [],.nils,.nils,.nils,.nils],none⟩,⟨none,.store 14 (.t 5) (.t 17),none⟩]
def g54_5 : IL:=[⟨some 18,.val (.mov (.t 3)),none⟩,⟨some 19,.val (.faddr 0 (.t 5)),none⟩,⟨some 20,.val (.load (some 7) (.t 19)),none⟩,⟨some 21,.val (.faddr 7 (.t 5)),none⟩,⟨some 22,.val (.load (some 7) (.t 21)),none⟩,⟨some 23,.bsl 7 2 [.int .i64 0,.int .u64 0,.str [],.nils,.nils,.nils,.nils] [(0,7,(.t 20)),(7,7,(.t 22))],none⟩,⟨some 24,.app 7 128 32 (.t 18) (.t 23),none⟩,⟨some 3,.val (.mov (.t 24)),none⟩]
def g54_6 : IL:=[⟨some 25,.val (.bin .num .add (.t 14) (.c (.int .i64 1))),none⟩,⟨some 14,.val (.mov (.t 25)),none⟩]
def l54_0 : RC:=.gho (.drop 5) (.seq (.reg g54_3) (.seq (.cond (.t 15) (.skip) (.exit 0)) (.seq (.block 1 (.seq (.reg g54_4) (.reg g54_5))) (.reg g54_6))))
def g54_7 : IL:=[⟨some 26,.val (.faddr 5 (.t 1)),none⟩,⟨some 27,.val (.load none (.t 26)),none⟩,⟨some 28,.val (.len 1 (.t 27)),none⟩,⟨some 29,.val (.mov (.c (.int .i64 0))),none⟩]
def g54_8 : IL:=[⟨some 30,.val (.bin .num .lss (.t 29) (.t 28)),none⟩]
def g54_9 : IL:=[⟨some 31,.val (.iaddr 8 none (.t 27) (.t 29)),none⟩,⟨some 32,.val (.load (some 8) (.t 31)),none⟩,⟨some 7,.allocN 7 [.int .i64 0,.int .i64 0,.int .u64 0,.str [],.nils,.nils,.nils,.nils],none⟩,⟨none,.store 8 (.t 7) (.t 32),none⟩]
def g54_10 : IL:=[⟨some 33,.val (.mov (.t 3)),none⟩,⟨some 34,.val (.faddr 1 (.t 7)),none⟩,⟨some 35,.val (.load (some 7) (.t 34)),none⟩,⟨some 36,.bsl 7 1 [.int .i64 0,.int .u64 0,.str [],.nils,.nils,.nils,.nils] [(0,7,(.t 35))],none⟩,⟨some 37,.app 7 128 32 (.t 33) (.t 36),none⟩,⟨some 3,.val (.mov (.t 37)),none⟩]
def g54_11 : IL:=[⟨some 38,.val (.bin .num .add (.t 29) (.c (.int .i64 1))),none⟩,⟨some 29,.val (.mov (.t 38)),none⟩]
def l54_1 : RC:=.gho (.drop 7) (.seq (.reg g54_8) (.seq (.cond (.t 30) (.skip) (.exit 2)) (.seq (.block 3 (.seq (.reg g54_9) (.reg g54_10))) (.reg g54_11))))
def g54_12 : IL:=[⟨some 39,.val (.mov (.t 3)),none⟩,⟨some 2,.val (.mov (.t 39)),none⟩]
def r54 : RC:=.seq (.reg g54_0) (.seq (.reg g54_1) (.seq (.seq (.reg g54_2) (.block 0 (.loop l54_0))) (.seq (.seq (.reg g54_7) (.block 2 (.loop l54_1))) (.seq (.reg g54_12) (.ret)))))
def o54 : List RR:=[.tmp 2]
theorem k54 : KK 40 r54 Tryz.f54:=by decide +kernel
theorem q54 : QQ Tryz.f54 o54:=by decide +kernel
def g134_0 : IL:=[⟨some 2,.val (.mov (.c (.nils))),none⟩]
def g134_1 : IL:=[⟨some 3,.val (.mov (.t 0)),none⟩,⟨some 4,.isnil false (.t 3),none⟩]
def g134_2 : IL:=[⟨some 2,.val (.mov (.c (.nils))),none⟩]
def g134_3 : IL:=[⟨some 5,.bsl0 5 7,none⟩,⟨some 6,.val (.mov (.t 0)),none⟩,⟨some 7,.app 7 128 32 (.t 5) (.t 6),none⟩,⟨some 2,.val (.mov (.t 7)),none⟩]
def r134 : RC:=.seq (.reg g134_0) (.seq (.seq (.reg g134_1) (.cond (.t 4) (.seq (.reg g134_2) (.gho (.vec 2 2 7) (.gho (.give 2 2 1 1000) (.ret)))) (.skip))) (.seq (.reg g134_3) (.gho (.give 2 5 1 1000) (.ret))))
def o134 : List RR:=[.tmp 2]
theorem k134 : KK 8 r134 Tryz.f134:=by decide +kernel
theorem q134 : QQ Tryz.f134 o134:=by decide +kernel
def g39_0 : IL:=[⟨some 2,.boxN 2 (.t 0),none⟩,⟨some 3,.boxN 3 (.t 1),none⟩,⟨some 4,.allocN 4 [.int .i64 0,.str [],.str [],.int .i64 0,.int .i64 0,.int .i64 0,.int .i64 0,.int .i64 0],none⟩,⟨some 5,.val (.mov (.c (.bool false))),none⟩]
def g39_1 : IL:=[⟨some 6,.val (.mkfn (.func 117) [] [(.t 3)]),none⟩,⟨some 7,.val (.build [.nilf] [(0,1,(.t 6))]),none⟩,⟨some 8,.val (.load (some 3) (.t 2)),none⟩,⟨some 9,.callF (.f 118) [(.t 7),(.t 8)],none⟩,⟨some 10,.val (.ext (.t 9) 0),none⟩,⟨some 11,.val (.ext (.t 9) 1),none⟩,⟨none,.store 8 (.t 4) (.t 10),none⟩,⟨some 5,.val (.mov (.t 11)),none⟩]
def r39 : RC:=.seq (.reg g39_0) (.seq (.reg g39_1) (.ret))
def o39 : List RR:=[.cell 4 (some 8),.tmp 5]
theorem k39 : KK 12 r39 Tryz.f39:=by decide +kernel
theorem q39 : QQ Tryz.f39 o39:=by decide +kernel
def g117_0 : IL:=[⟨some 2,.boxN 2 (.t 0),none⟩,⟨some 3,.val (.mov (.c (.bool false))),none⟩]
def g117_1 : IL:=[⟨some 4,.val (.faddr 0 (.t 2)),none⟩,⟨some 5,.val (.load none (.t 4)),none⟩,⟨some 6,.val (.load none (.t 1)),none⟩,⟨some 7,.val (.bin .num .eql (.t 5) (.t 6)),none⟩,⟨some 3,.val (.mov (.t 7)),none⟩]
def r117 : RC:=.seq (.reg g117_0) (.seq (.reg g117_1) (.ret))
def o117 : List RR:=[.tmp 3]
theorem k117 : KK 8 r117 Tryz.f117:=by decide +kernel
theorem q117 : QQ Tryz.f117 o117:=by decide +kernel
def g118_0 : IL:=[⟨some 2,.boxN 2 (.t 0),none⟩,⟨some 3,.boxN 3 (.t 1),none⟩,⟨some 4,.allocN 4 [.int .i64 0,.str [],.str [],.int .i64 0,.int .i64 0,.int .i64 0,.int .i64 0,.int .i64 0],none⟩,⟨some 5,.val (.mov (.c (.bool false))),none⟩]
def g118_1 : IL:=[⟨some 7,.val (.faddr 1 (.t 3)),none⟩,⟨some 8,.val (.load none (.t 7)),none⟩,⟨some 9,.val (.faddr 0 (.t 2)),none⟩,⟨some 10,.val (.load none (.t 9)),none⟩,⟨some 11,.callF (.f 172) [(.t 8),(.t 10)],none⟩,⟨some 6,.val (.mov (.t 11)),none⟩]
def g118_2 : IL:=[⟨some 12,.val (.mov (.t 6)),none⟩,⟨some 13,.val (.bin .num .lss (.t 12) (.c (.int .i64 0))),none⟩]
def g118_3 : IL:=[⟨some 14,.val (.build [.int .i64 0,.str [],.str [],.int .i64 0,.int .i64 0,.int .i64 0,.int .i64 0,.int .i64 0] []),none⟩,⟨none,.store 8 (.t 4) (.t 14),none⟩,⟨some 5,.val (.mov (.c (.bool false))),none⟩]
def g118_4 : IL:=[⟨some 15,.val (.faddr 1 (.t 3)),none⟩,⟨some 16,.val (.load none (.t 15)),none⟩,⟨some 17,.val (.mov (.t 6)),none⟩,⟨some 18,.val (.iaddr 8 none (.t 16) (.t 17)),none⟩,⟨some 19,.val (.load (some 8) (.t 18)),none⟩,⟨none,.store 8 (.t 4) (.t 19),none⟩,⟨some 5,.val (.mov (.c (.bool true))),none⟩]
def r118 : RC:=.seq (.reg g118_0) (.seq (.reg g118_1) (.seq (.seq (.reg g118_2) (.cond (.t 13) (.seq (.reg g118_3) (.ret)) (.skip))) (.seq (.reg g118_4) (.ret))))
def o118 : List RR:=[.cell 4 (some 8),.tmp 5]
theorem k118 : KK 20 r118 Tryz.f118:=by decide +kernel
theorem q118 : QQ Tryz.f118 o118:=by decide +kernel
def g133_0 : IL:=[⟨some 3,.boxN 3 (.t 0),none⟩,⟨some 5,.boxN 5 (.t 2),none⟩,⟨some 6,.val (.mov (.c (.bool false))),none⟩]
def g133_1 : IL:=[⟨some 8,.val (.mov (.t 1)),none⟩,⟨some 9,.val (.bin .num .lss (.t 8) (.c (.int .i64 0))),none⟩,⟨some 10,.val (.mov (.t 9)),none⟩,⟨some 11,.val (.mov (.t 1)),(some (10,false))⟩,⟨some 12,.val (.faddr 1 (.t 3)),(some (10,false))⟩,⟨some 13,.val (.load none (.t 12)),(some (10,false))⟩,⟨some 14,.val (.len 1 (.t 13)),(some (10,false))⟩,⟨some 15,.val (.bin .num .geq (.t 11) (.t 14)),(some (10,false))⟩,⟨some 16,.val (.pick (.t 10) (.c (.bool true)) (.t 15)),none⟩,⟨some 17,.val (.mov (.t 16)),none⟩,⟨some 18,.val (.load none (.t 5)),(some (17,false))⟩,⟨some 19,.val (.bin .num .gtr (.t 18) (.c (.int .u64 2147483647))),(some (17,false))⟩,⟨some 20,.val (.pick (.t 17) (.c (.bool true)) (.t 19)),none⟩]
def g133_2 : IL:=[⟨some 6,.val (.mov (.c (.bool false))),none⟩]
def g133_3 : IL:=[⟨some 21,.val (.faddr 1 (.t 3)),none⟩,⟨some 22,.val (.load none (.t 21)),none⟩,⟨some 23,.val (.mov (.t 1)),none⟩,⟨some 24,.val (.iaddr 5 none (.t 22) (.t 23)),none⟩,⟨some 25,.val (.load (some 5) (.t 24)),none⟩,⟨some 7,.allocN 7 [.str [],.bool false,.nils,.nils,.nils],none⟩,⟨none,.store 5 (.t 7) (.t 25),none⟩]
def g133_4 : IL:=[⟨some 26,.val (.faddr 1 (.t 7)),none⟩,⟨some 27,.val (.load none (.t 26)),none⟩,⟨some 28,.val (.mov (.t 27)),none⟩,⟨some 29,.val (.faddr 2 (.t 7)),(some (28,false))⟩,⟨some 30,.val (.load none (.t 29)),(some (28,false))⟩,⟨some 31,.val (.mkfn (.func 193) [] [(.t 5)]),(some (28,false))⟩,⟨some 32,.callF (.f 153) [(.t 30),(.t 31)],(some (28,false))⟩,⟨some 33,.val (.pick (.t 28) (.c (.bool true)) (.t 32)),none⟩,⟨some 6,.val (.mov (.t 33)),none⟩]
def r133 : RC:=.seq (.reg g133_0) (.seq (.seq (.reg g133_1) (.cond (.t 20) (.seq (.reg g133_2) (.ret)) (.skip))) (.seq (.reg g133_3) (.seq (.reg g133_4) (.ret))))
def o133 : List RR:=[.tmp 6]
theorem k133 : KK 34 r133 Tryz.f133:=by decide +kernel
theorem q133 : QQ Tryz.f133 o133:=by decide +kernel
def g193_0 : IL:=[⟨some 2,.boxN 2 (.t 0),none⟩,⟨some 3,.val (.mov (.c (.bool false))),none⟩]
def g193_1 : IL:=[⟨some 4,.val (.faddr 1 (.t 2)),none⟩,⟨some 5,.val (.load none (.t 4)),none⟩,⟨some 6,.val (.cvi .u64 (.t 5)),none⟩,⟨some 7,.val (.load none (.t 1)),none⟩,⟨some 8,.val (.bin .num .eql (.t 6) (.t 7)),none⟩,⟨some 3,.val (.mov (.t 8)),none⟩]
def r193 : RC:=.seq (.reg g193_0) (.seq (.reg g193_1) (.ret))
def o193 : List RR:=[.tmp 3]
theorem k193 : KK 9 r193 Tryz.f193:=by decide +kernel
theorem q193 : QQ Tryz.f193 o193:=by decide +kernel
def g50_0 : IL:=[⟨some 5,.boxN 5 (.t 0),none⟩,⟨some 6,.boxN 6 (.t 1),none⟩,⟨some 10,.val (.mov (.c (.int .i64 0))),none⟩]
def g50_1 : IL:=[⟨some 18,.val (.loadv 0 6 (some 3) (.t 6)),none⟩,⟨some 19,.val (.mov (.t 2)),none⟩,⟨some 20,.val (.mov (.t 3)),none⟩,⟨some 21,.val (.iaddr 8 none (.t 19) (.t 20)),none⟩,⟨some 22,.val (.faddr 0 (.t 21)),none⟩,⟨some 23,.val (.loadr none (.t 22)),none⟩,⟨some 24,.call (.f 39) [(.t 18),(.t 23)],none⟩,⟨some 17,.val (.mov (.t 24)),none⟩,⟨some 25,.val (.ext (.t 17) 0),none⟩,⟨some 26,.val (.ext (.t 17) 1),none⟩,⟨some 11,.allocN 11 [.int .i64 0,.str [],.str [],.int .i64 0,.int .i64 0,.int .i64 0,.int .i64 0,.int .i64 0],none⟩,⟨none,.storev 0 11 8 (.t 11) (.t 25),none⟩,⟨some 12,.val (.mov (.t 26)),none⟩]
def g50_2 : IL:=[⟨some 27,.val (.mov (.t 12)),none⟩,⟨some 28,.val (.un .not (.t 27)),none⟩]
def g50_3 : IL:=[⟨some 10,.val (.mov (.c (.int .i64 8))),none⟩]
def g50_4 : IL:=[⟨some 29,.val (.mov (.t 2)),none⟩,⟨some 30,.val (.mov (.t 3)),none⟩,⟨some 31,.val (.slc (some 8) (.t 29) none (some (.t 30)) none),none⟩,⟨some 32,.val (.mkfn (.func 130) [] [(.t 11)]),none⟩,⟨some 33,.callF (.f 51) [(.t 31),(.t 32)],none⟩]
def g50_5 : IL:=[⟨some 10,.val (.mov (.c (.int .i64 9))),none⟩]
def g50_6 : IL:=[⟨some 34,.val (.mov (.t 2)),none⟩,⟨some 35,.val (.mov (.t 3)),none⟩,⟨some 36,.val (.slc (some 8) (.t 34) none (some (.t 35)) none),none⟩,⟨some 37,.val (.len 1 (.t 36)),none⟩,⟨some 38,.val (.mov (.c (.int .i64 0))),none⟩]
def g50_7 : IL:=[⟨some 39,.val (.bin .num .lss (.t 38) (.t 37)),none⟩]
def g50_8 : IL:=[⟨some 40,.val (.iaddr 8 none (.t 36) (.t 38)),none⟩,⟨some 41,.val (.load (some 8) (.t 40)),none⟩,⟨some 14,.allocN 14 [.int .i64 0,.int .i64 0,.int .u64 0,.str [],.nils,.nils,.nils,.nils],none⟩,⟨none,.store 8 (.t 14) (.t 41),none⟩]
def g50_9 : IL:=[⟨some 43,.val (.load (some 3) (.t 6)),none⟩,⟨some 44,.val (.faddr 0 (.t 14)),none⟩,⟨some 45,.val (.load none (.t 44)),none⟩,⟨some 46,.call (.f 39) [(.t 43),(.t 45)],none⟩,⟨some 42,.val (.mov (.t 46)),none⟩,⟨some 47,.val (.ext (.t 42) 0),none⟩,⟨some 48,.val (.ext (.t 42) 1),none⟩,⟨some 15,.allocN 15 [.int .i64 0,.str [],.str [],.int .i64 0,.int .i64 0,.int .i64 0,.int .i64 0,.int .i64 0],none⟩,⟨none,.store 8 (.t 15) (.t 47),none⟩,⟨some 16,.val (.mov (.t 48)),none⟩]
def g50_10 : IL:=[⟨some 49,.val (.faddr 7 (.t 11)),none⟩,⟨some 50,.val (.load none (.t 49)),none⟩,⟨some 51,.val (.bin .num .neq (.t 50) (.c (.int .i64 (-1)))),none⟩,⟨some 52,.val (.mov (.t 51)),none⟩,⟨some 53,.val (.faddr 7 (.t 15)),(some (52,true))⟩,⟨some 54,.val (.load none (.t 53)),(some (52,true))⟩,⟨some 55,.val (.faddr 7 (.t 11)),(some (52,true))⟩,⟨some 56,.val (.load none (.t 55)),(some (52,true))⟩,⟨some 57,.val (.bin .num .eql (.t 54) (.t 56)),(some (52,true))⟩,⟨some 58,.val (.pick (.t 52) (.t 57) (.c (.bool false))),none⟩]
def g50_11 : IL:=[⟨some 10,.val (.mov (.c (.int .i64 15))),none⟩]
def g50_12 : IL:=[⟨some 59,.val (.bin .num .add (.t 38) (.c (.int .i64 1))),none⟩,⟨some 38,.val (.mov (.t 59)),none⟩]
def l50_0 : RC:=.gho (.drop 15) (.gho (.drop 14) (.seq (.reg g50_7) (.seq (.cond (.t 39) (.skip) (.exit 0)) (.seq (.block 1 (.seq (.reg g50_8) (.seq (.reg g50_9) (.seq (.reg g50_10) (.cond (.t 58) (.seq (.reg g50_11) (.ret)) (.skip)))))) (.reg g50_12)))))
def g50_13 : IL:=[⟨some 60,.val (.loadv 0 5 (some 2) (.t 5)),none⟩,⟨some 61,.val (.loadv 0 11 (some 8) (.t 11)),none⟩,⟨some 62,.val (.mov (.t 2)),none⟩,⟨some 63,.val (.mov (.t 3)),none⟩,⟨some 64,.val (.iaddr 8 none (.t 62) (.t 63)),none⟩,⟨some 65,.val (.faddr 1 (.t 64)),none⟩,⟨some 66,.val (.loadr (some 7) (.t 65)),none⟩,⟨some 67,.val (.mov (.t 4)),none⟩,⟨some 68,.call (.f 131) [(.t 60),(.t 61),(.t 66),(.t 67)],none⟩,⟨some 10,.val (.mov (.t 68)),none⟩]
def r50 : RC:=.seq (.reg g50_0) (.seq (.draw g50_1) (.seq (.seq (.reg g50_2) (.cond (.t 28) (.seq (.reg g50_3) (.ret)) (.skip))) (.seq (.seq (.reg g50_4) (.cond (.t 33) (.seq (.reg g50_5) (.ret)) (.skip))) (.seq (.seq (.reg g50_6) (.block 0 (.loop l50_0))) (.seq (.draw g50_13) (.ret))))))
def o50 : List RR:=[.tmp 10]
theorem k50 : KK 69 r50 Tryz.f50:=by decide +kernel
theorem q50 : QQ Tryz.f50 o50:=by decide +kernel
def g130_0 : IL:=[⟨some 2,.boxN 2 (.t 0),none⟩,⟨some 3,.val (.mov (.c (.bool false))),none⟩]
def g130_1 : IL:=[⟨some 4,.val (.faddr 0 (.t 2)),none⟩,⟨some 5,.val (.load none (.t 4)),none⟩,⟨some 6,.val (.faddr 0 (.t 1)),none⟩,⟨some 7,.val (.load none (.t 6)),none⟩,⟨some 8,.val (.bin .num .eql (.t 5) (.t 7)),none⟩,⟨some 3,.val (.mov (.t 8)),none⟩]
def r130 : RC:=.seq (.reg g130_0) (.seq (.reg g130_1) (.ret))
def o130 : List RR:=[.tmp 3]
theorem k130 : KK 9 r130 Tryz.f130:=by decide +kernel
theorem q130 : QQ Tryz.f130 o130:=by decide +kernel
def g52_0 : IL:=[⟨some 2,.boxN 2 (.t 0),none⟩,⟨some 3,.val (.mov (.c (.bool false))),none⟩]
def g52_1 : IL:=[⟨some 4,.val (.faddr 0 (.t 2)),none⟩,⟨some 5,.val (.load none (.t 4)),none⟩,⟨some 6,.val (.faddr 0 (.t 1)),none⟩,⟨some 7,.val (.load none (.t 6)),none⟩,⟨some 8,.val (.bin .num .eql (.t 5) (.t 7)),none⟩,⟨some 3,.val (.mov (.t 8)),none⟩]
def r52 : RC:=.seq (.reg g52_0) (.seq (.reg g52_1) (.ret))
def o52 : List RR:=[.tmp 3]
theorem k52 : KK 9 r52 Tryz.f52:=by decide +kernel
theorem q52 : QQ Tryz.f52 o52:=by decide +kernel
def g53_0 : IL:=[⟨some 3,.boxN 3 (.t 0),none⟩,⟨some 4,.boxN 4 (.t 1),none⟩,⟨some 5,.boxN 5 (.t 2),none⟩,⟨some 6,.val (.mov (.c (.int .i64 0))),none⟩]
def g53_1 : IL:=[⟨some 11,.val (.faddr 1 (.t 5)),none⟩,⟨some 12,.val (.load none (.t 11)),none⟩,⟨some 13,.val (.bin .num .leq (.t 12) (.c (.int .i64 2))),none⟩,⟨some 7,.val (.mov (.t 13)),none⟩]
def g53_2 : IL:=[⟨some 15,.val (.load (some 3) (.t 4)),none⟩,⟨some 16,.val (.faddr 0 (.t 5)),none⟩,⟨some 17,.val (.load none (.t 16)),none⟩,⟨some 18,.call (.f 39) [(.t 15),(.t 17)],none⟩,⟨some 14,.val (.mov (.t 18)),none⟩,⟨some 19,.val (.ext (.t 14) 0),none⟩,⟨some 20,.val (.ext (.t 14) 1),none⟩,⟨some 8,.allocN 8 [.int .i64 0,.str [],.str [],.int .i64 0,.int .i64 0,.int .i64 0,.int .i64 0,.int .i64 0],none⟩,⟨none,.store 8 (.t 8) (.t 19),none⟩,⟨some 9,.val (.mov (.t 20)),none⟩]
def g53_3 : IL:=[⟨some 21,.val (.faddr 5 (.t 8)),none⟩,⟨some 22,.val (.load none (.t 21)),none⟩,⟨some 23,.val (.bin .num .eql (.t 22) (.c (.int .i64 9))),none⟩,⟨some 24,.val (.mov (.t 23)),none⟩,⟨some 25,.val (.faddr 3 (.t 8)),(some (24,true))⟩,⟨some 26,.val (.load none (.t 25)),(some (24,true))⟩,⟨some 27,.val (.bin .num .neq (.t 26) (.c (.int .i64 5))),(some (24,true))⟩,⟨some 28,.val (.pick (.t 24) (.t 27) (.c (.bool false))),none⟩,⟨some 29,.val (.mov (.t 28)),none⟩,⟨some 30,.val (.faddr 1 (.t 5)),(some (29,true))⟩,⟨some 31,.val (.load none (.t 30)),(some (29,true))⟩,⟨some 32,.val (.bin .num .eql (.t 31) (.c (.int .i64 0))),(some (29,true))⟩,⟨some 33,.val (.pick (.t 29) (.t 32) (.c (.bool false))),none⟩,⟨some 34,.val (.mov (.t 33)),none⟩,⟨some 35,.val (.faddr 2 (.t 5)),(some (34,true))⟩,⟨some 36,.val (.load none (.t 35)),(some (34,true))⟩,⟨some 37,.val (.bin .num .leq (.t 36) (.c (.int .u64 2147483647))),(some (34,true))⟩,⟨some 38,.val (.pick (.t 34) (.t 37) (.c (.bool false))),none⟩,⟨some 39,.val (.mov (.t 38)),none⟩,⟨some 40,.val (.faddr 0 (.t 3)),(some (39,true))⟩,⟨some 41,.val (.load (some 2) (.t 40)),(some (39,true))⟩,⟨some 42,.val (.faddr 6 (.t 8)),(some (39,true))⟩,⟨some 43,.val (.load none (.t 42)),(some (39,true))⟩,⟨some 44,.val (.faddr 2 (.t 5)),(some (39,true))⟩,⟨some 45,.val (.load none (.t 44)),(some (39,true))⟩,⟨some 46,.call (.f 133) [(.t 41),(.t 43),(.t 45)],(some (39,true))⟩,⟨some 47,.val (.un .not (.t 46)),(some (39,true))⟩,⟨some 48,.val (.pick (.t 39) (.t 47) (.c (.bool false))),none⟩,⟨some 10,.val (.mov (.t 48)),none⟩]
def g53_4 : IL:=[⟨some 50,.val (.faddr 0 (.t 5)),none⟩,⟨some 51,.val (.load none (.t 50)),none⟩,⟨some 52,.val (.bin .num .lss (.t 51) (.c (.int .i64 1))),none⟩,⟨some 53,.val (.mov (.t 52)),none⟩,⟨some 54,.val (.faddr 0 (.t 5)),(some (53,false))⟩,⟨some 55,.val (.load none (.t 54)),(some (53,false))⟩,⟨some 56,.val (.bin .num .gtr (.t 55) (.c (.int .i64 65535))),(some (53,false))⟩,⟨some 57,.val (.pick (.t 53) (.c (.bool true)) (.t 56)),none⟩,⟨some 58,.val (.mov (.t 57)),none⟩,⟨some 59,.val (.faddr 1 (.t 5)),(some (58,false))⟩,⟨some 60,.val (.load none (.t 59)),(some (58,false))⟩,⟨some 61,.val (.bin .num .lss (.t 60) (.c (.int .i64 0))),(some (58,false))⟩,⟨some 62,.val (.pick (.t 58) (.c (.bool true)) (.t 61)),none⟩,⟨some 63,.val (.mov (.t 62)),none⟩,⟨some 64,.val (.faddr 1 (.t 5)),(some (63,false))⟩,⟨some 65,.val (.load none (.t 64)),(some (63,false))⟩,⟨some 66,.val (.bin .num .gtr (.t 65) (.c (.int .i64 6))),(some (63,false))⟩,⟨some 67,.val (.pick (.t 63) (.c (.bool true)) (.t 66)),none⟩,⟨some 49,.val (.mov (.t 67)),none⟩]
def g53_5 : IL:=[⟨some 6,.val (.mov (.c (.int .i64 1))),none⟩]
def g53_6 : IL:=[⟨some 69,.val (.mov (.t 7)),none⟩,⟨some 70,.val (.mov (.t 69)),none⟩,⟨some 71,.val (.faddr 3 (.t 5)),(some (70,true))⟩,⟨some 72,.val (.load none (.t 71)),(some (70,true))⟩,⟨some 73,.val (.bin .str .neq (.t 72) (.c (.str []))),(some (70,true))⟩,⟨some 74,.val (.pick (.t 70) (.t 73) (.c (.bool false))),none⟩,⟨some 75,.val (.mov (.t 74)),none⟩,⟨some 76,.val (.mov (.t 7)),(some (75,false))⟩,⟨some 77,.val (.un .not (.t 76)),(some (75,false))⟩,⟨some 78,.val (.mov (.t 77)),(some (75,false))⟩,⟨some 79,.val (.faddr 2 (.t 5)),(some (78,true))⟩,⟨some 80,.val (.load none (.t 79)),(some (78,true))⟩,⟨some 81,.val (.bin .num .neq (.t 80) (.c (.int .u64 0))),(some (78,true))⟩,⟨some 82,.val (.pick (.t 78) (.t 81) (.c (.bool false))),(some (75,false))⟩,⟨some 83,.val (.pick (.t 75) (.c (.bool true)) (.t 82)),none⟩,⟨some 84,.val (.mov (.t 83)),none⟩,⟨some 85,.val (.mov (.t 9)),(some (84,false))⟩,⟨some 86,.val (.mov (.t 85)),(some (84,false))⟩,⟨some 87,.val (.mov (.t 10)),(some (86,true))⟩,⟨some 88,.val (.un .not (.t 87)),(some (86,true))⟩,⟨some 89,.val (.pick (.t 86) (.t 88) (.c (.bool false))),(some (84,false))⟩,⟨some 90,.val (.pick (.t 84) (.c (.bool true)) (.t 89)),none⟩,⟨some 68,.val (.mov (.t 90)),none⟩]
def g53_7 : IL:=[⟨some 6,.val (.mov (.c (.int .i64 1))),none⟩]
def g53_8 : IL:=[⟨some 92,.val (.faddr 1 (.t 5)),none⟩,⟨some 93,.val (.load none (.t 92)),none⟩,⟨some 94,.val (.bin .num .eql (.t 93) (.c (.int .i64 3))),none⟩,⟨some 95,.val (.mov (.t 94)),none⟩,⟨some 96,.val (.faddr 3 (.t 5)),(some (95,true))⟩,⟨some 97,.val (.load none (.t 96)),(some (95,true))⟩,⟨some 98,.val (.len 0 (.t 97)),(some (95,true))⟩,⟨some 99,.val (.bin .num .gtr (.t 98) (.c (.int .i64 4096))),(some (95,true))⟩,⟨some 100,.val (.pick (.t 95) (.t 99) (.c (.bool false))),none⟩,⟨some 101,.val (.mov (.t 100)),none⟩,⟨some 102,.val (.faddr 3 (.t 5)),(some (101,false))⟩,⟨some 103,.val (.load none (.t 102)),(some (101,false))⟩,⟨some 104,.val (.len 0 (.t 103)),(some (101,false))⟩,⟨some 105,.val (.bin .num .gtr (.t 104) (.c (.int .i64 65536))),(some (101,false))⟩,⟨some 106,.val (.pick (.t 101) (.c (.bool true)) (.t 105)),none⟩,⟨some 91,.val (.mov (.t 106)),none⟩]
def g53_9 : IL:=[⟨some 6,.val (.mov (.c (.int .i64 3))),none⟩]
def g53_10 : IL:=[⟨some 6,.val (.mov (.c (.int .i64 0))),none⟩]
def r53 : RC:=.seq (.reg g53_0) (.seq (.reg g53_1) (.seq (.reg g53_2) (.seq (.reg g53_3) (.seq (.block 0 (.seq (.reg g53_4) (.cond (.t 49) (.seq (.reg g53_5) (.ret)) (.seq (.reg g53_6) (.cond (.t 68) (.seq (.reg g53_7) (.ret)) (.seq (.reg g53_8) (.cond (.t 91) (.seq (.reg g53_9) (.ret)) (.skip)))))))) (.seq (.reg g53_10) (.ret))))))
def o53 : List RR:=[.tmp 6]
theorem k53 : KK 107 r53 Tryz.f53:=by decide +kernel
theorem q53 : QQ Tryz.f53 o53:=by decide +kernel
def g131_0 : IL:=[⟨some 4,.boxN 4 (.t 0),none⟩,⟨some 5,.boxN 5 (.t 1),none⟩,⟨some 6,.boxN 6 (.t 2),none⟩,⟨some 8,.val (.mov (.c (.int .i64 0))),none⟩]
def g131_1 : IL:=[⟨some 12,.val (.faddr 3 (.t 5)),none⟩,⟨some 13,.val (.load none (.t 12)),none⟩]
def g131_2 : IL:=[⟨some 15,.val (.bin .num .eql (.t 13) (.c (.int .i64 4))),none⟩,⟨some 14,.val (.mov (.t 15)),none⟩]
def g131_3 : IL:=[⟨some 16,.val (.faddr 0 (.t 6)),none⟩,⟨some 17,.val (.load none (.t 16)),none⟩,⟨some 18,.val (.bin .num .neq (.t 17) (.c (.int .i64 11))),none⟩,⟨some 19,.val (.mov (.t 18)),none⟩,⟨some 20,.val (.load (some 7) (.t 6)),(some (19,false))⟩,⟨some 21,.call (.f 49) [(.t 20)],(some (19,false))⟩,⟨some 22,.val (.pick (.t 19) (.c (.bool true)) (.t 21)),none⟩]
def g131_4 : IL:=[⟨some 8,.val (.mov (.c (.int .i64 12))),none⟩]
def g131_5 : IL:=[⟨some 23,.val (.faddr 3 (.t 6)),none⟩,⟨some 24,.val (.load none (.t 23)),none⟩,⟨some 25,.val (.len 1 (.t 24)),none⟩,⟨some 26,.val (.mov (.c (.int .i64 0))),none⟩]
def g131_6 : IL:=[⟨some 27,.val (.bin .num .lss (.t 26) (.t 25)),none⟩]
def g131_7 : IL:=[⟨some 28,.val (.iaddr 7 none (.t 24) (.t 26)),none⟩,⟨some 29,.val (.load (some 7) (.t 28)),none⟩,⟨some 10,.allocN 10 [.int .i64 0,.int .u64 0,.str [],.nils,.nils,.nils,.nils],none⟩,⟨none,.store 7 (.t 10) (.t 29),none⟩]
def g131_8 : IL:=[⟨some 30,.val (.load (some 2) (.t 4)),none⟩,⟨some 31,.val (.load (some 8) (.t 5)),none⟩,⟨some 32,.val (.load (some 7) (.t 10)),none⟩,⟨some 33,.val (.mov (.t 3)),none⟩,⟨some 34,.call (.f 191) [(.t 30),(.t 31),(.t 32),(.t 33)],none⟩,⟨some 11,.val (.mov (.t 34)),none⟩]
def g131_9 : IL:=[⟨some 35,.val (.mov (.t 11)),none⟩,⟨some 36,.val (.bin .num .neq (.t 35) (.c (.int .i64 0))),none⟩]
def g131_10 : IL:=[⟨some 37,.val (.mov (.t 11)),none⟩,⟨some 8,.val (.mov (.t 37)),none⟩]
def g131_11 : IL:=[⟨some 38,.val (.bin .num .add (.t 26) (.c (.int .i64 1))),none⟩,⟨some 26,.val (.mov (.t 38)),none⟩]
def l131_0 : RC:=.gho (.drop 10) (.seq (.reg g131_6) (.seq (.cond (.t 27) (.skip) (.exit 1)) (.seq (.block 2 (.seq (.reg g131_7) (.seq (.reg g131_8) (.seq (.reg g131_9) (.cond (.t 36) (.seq (.reg g131_10) (.ret)) (.skip)))))) (.reg g131_11))))
def g131_12 : IL:=[⟨some 8,.val (.mov (.c (.int .i64 0))),none⟩]
def g131_13 : IL:=[⟨some 40,.val (.bin .num .eql (.t 13) (.c (.int .i64 5))),none⟩,⟨some 39,.val (.mov (.t 40)),none⟩]
def g131_14 : IL:=[⟨some 41,.val (.faddr 0 (.t 6)),none⟩,⟨some 42,.val (.load none (.t 41)),none⟩,⟨some 43,.val (.bin .num .neq (.t 42) (.c (.int .i64 12))),none⟩,⟨some 44,.val (.mov (.t 43)),none⟩,⟨some 45,.val (.load (some 7) (.t 6)),(some (44,false))⟩,⟨some 46,.call (.f 49) [(.t 45)],(some (44,false))⟩,⟨some 47,.val (.pick (.t 44) (.c (.bool true)) (.t 46)),none⟩]
def g131_15 : IL:=[⟨some 8,.val (.mov (.c (.int .i64 12))),none⟩]
def g131_16 : IL:=[⟨some 48,.val (.load (some 2) (.t 4)),none⟩,⟨some 49,.val (.load (some 8) (.t 5)),none⟩,⟨some 50,.val (.faddr 4 (.t 6)),none⟩,⟨some 51,.val (.load none (.t 50)),none⟩,⟨some 52,.val (.mov (.t 3)),none⟩,⟨some 53,.call (.f 192) [(.t 48),(.t 49),(.t 51),(.t 52)],none⟩,⟨some 8,.val (.mov (.t 53)),none⟩]
def g131_17 : IL:=[⟨some 54,.val (.load (some 2) (.t 4)),none⟩,⟨some 55,.val (.load (some 8) (.t 5)),none⟩,⟨some 56,.val (.load (some 7) (.t 6)),none⟩,⟨some 57,.val (.mov (.t 3)),none⟩,⟨some 58,.call (.f 191) [(.t 54),(.t 55),(.t 56),(.t 57)],none⟩,⟨some 8,.val (.mov (.t 58)),none⟩]
def r131 : RC:=.seq (.reg g131_0) (.seq (.seq (.reg g131_1) (.block 0 (.seq (.reg g131_2) (.cond (.t 14) (.seq (.seq (.reg g131_3) (.cond (.t 22) (.seq (.reg g131_4) (.ret)) (.skip))) (.seq (.seq (.reg g131_5) (.block 1 (.loop l131_0))) (.seq (.reg g131_12) (.ret)))) (.seq (.reg g131_13) (.cond (.t 39) (.seq (.seq (.reg g131_14) (.cond (.t 47) (.seq (.reg g131_15) (.ret)) (.skip))) (.seq (.reg g131_16) (.ret))) (.skip))))))) (.seq (.reg g131_17) (.ret)))
def o131 : List RR:=[.tmp 8]
theorem k131 : KK 59 r131 Tryz.f131:=by decide +kernel
theorem q131 : QQ Tryz.f131 o131:=by decide +kernel
def g191_0 : IL:=[⟨some 4,.boxN 4 (.t 0),none⟩,⟨some 5,.boxN 5 (.t 1),none⟩,⟨some 6,.boxN 6 (.t 2),none⟩,⟨some 8,.val (.mov (.c (.int .i64 0))),none⟩]
def g191_1 : IL:=[⟨some 9,.val (.faddr 5 (.t 5)),none⟩,⟨some 10,.val (.load none (.t 9)),none⟩,⟨some 11,.val (.bin .num .eql (.t 10) (.c (.int .i64 10))),none⟩]
def g191_2 : IL:=[⟨some 12,.val (.loadv 0 4 (some 2) (.t 4)),none⟩,⟨some 13,.val (.faddr 0 (.t 4)),none⟩,⟨some 14,.val (.faddr 0 (.t 13)),none⟩,⟨some 15,.val (.loadv 0 4 none (.t 14)),none⟩,⟨some 16,.val (.faddr 6 (.t 5)),none⟩,⟨some 17,.val (.loadv 0 5 none (.t 16)),none⟩,⟨some 18,.val (.iaddr 3 none (.t 15) (.t 17)),none⟩,⟨some 19,.val (.loadr (some 3) (.t 18)),none⟩,⟨some 20,.val (.loadv 0 6 (some 7) (.t 6)),none⟩,⟨some 21,.val (.mov (.t 3)),none⟩,⟨some 22,.val (.bin .num .add (.t 21) (.c (.int .i64 1))),none⟩,⟨some 23,.call (.f 18) [(.t 12),(.t 19),(.t 20),(.t 22)],none⟩,⟨some 8,.val (.mov (.t 23)),none⟩]
def g191_3 : IL:=[⟨some 24,.val (.load (some 2) (.t 4)),none⟩,⟨some 25,.val (.faddr 5 (.t 5)),none⟩,⟨some 26,.val (.load none (.t 25)),none⟩,⟨some 27,.val (.faddr 6 (.t 5)),none⟩,⟨some 28,.val (.load none (.t 27)),none⟩,⟨some 29,.val (.load (some 7) (.t 6)),none⟩,⟨some 30,.call (.f 240) [(.t 24),(.t 26),(.t 28),(.t 29)],none⟩,⟨some 8,.val (.mov (.t 30)),none⟩]
def r191 : RC:=.seq (.reg g191_0) (.seq (.seq (.reg g191_1) (.cond (.t 11) (.seq (.draw g191_2) (.ret)) (.skip))) (.seq (.reg g191_3) (.ret)))
def o191 : List RR:=[.tmp 8]
theorem k191 : KK 31 r191 Tryz.f191:=by decide +kernel
theorem q191 : QQ Tryz.f191 o191:=by decide +kernel
def g192_0 : IL:=[⟨some 4,.boxN 4 (.t 0),none⟩,⟨some 5,.boxN 5 (.t 1),none⟩,⟨some 8,.val (.mov (.c (.int .i64 0))),none⟩]
def g192_1 : IL:=[⟨some 13,.val (.mov (.t 2)),none⟩,⟨some 14,.val (.len 1 (.t 13)),none⟩,⟨some 15,.val (.mov (.c (.int .i64 0))),none⟩]
def g192_2 : IL:=[⟨some 16,.val (.bin .num .lss (.t 15) (.t 14)),none⟩]
def g192_3 : IL:=[⟨some 17,.val (.mov (.t 15)),none⟩,⟨some 18,.val (.iaddr 14 none (.t 13) (.t 15)),none⟩,⟨some 19,.val (.load (some 14) (.t 18)),none⟩,⟨some 10,.allocN 10 [.int .i64 0,.int .u64 0,.str [],.nils,.nils,.nils,.nils,.int .i64 0,.int .u64 0,.str [],.nils,.nils,.nils,.nils],none⟩,⟨some 9,.val (.mov (.t 17)),none⟩,⟨none,.store 14 (.t 10) (.t 19),none⟩]
def g192_4 : IL:=[⟨some 20,.val (.load (some 2) (.t 4)),none⟩,⟨some 21,.val (.faddr 4 (.t 5)),none⟩,⟨some 22,.val (.load none (.t 21)),none⟩,⟨some 23,.val (.faddr 0 (.t 10)),none⟩,⟨some 24,.val (.load (some 7) (.t 23)),none⟩,⟨some 25,.call (.f 240) [(.t 20),(.t 22),(.c (.int .i64 (-1))),(.t 24)],none⟩,⟨some 11,.val (.mov (.t 25)),none⟩]
def g192_5 : IL:=[⟨some 26,.val (.mov (.t 11)),none⟩,⟨some 27,.val (.bin .num .neq (.t 26) (.c (.int .i64 0))),none⟩]
def g192_6 : IL:=[⟨some 28,.val (.mov (.t 11)),none⟩,⟨some 8,.val (.mov (.t 28)),none⟩]
def g192_7 : IL:=[⟨some 29,.val (.mov (.t 2)),none⟩,⟨some 30,.val (.mov (.t 9)),none⟩,⟨some 31,.val (.slc (some 14) (.t 29) none (some (.t 30)) none),none⟩,⟨some 32,.val (.mkfn (.func 242) [] [(.t 10)]),none⟩,⟨some 33,.callF (.f 241) [(.t 31),(.t 32)],none⟩]
def g192_8 : IL:=[⟨some 8,.val (.mov (.c (.int .i64 9))),none⟩]
def g192_9 : IL:=[⟨some 34,.val (.load (some 2) (.t 4)),none⟩,⟨some 35,.val (.load (some 8) (.t 5)),none⟩,⟨some 36,.val (.faddr 7 (.t 10)),none⟩,⟨some 37,.val (.load (some 7) (.t 36)),none⟩,⟨some 38,.val (.mov (.t 3)),none⟩,⟨some 39,.call (.f 191) [(.t 34),(.t 35),(.t 37),(.t 38)],none⟩,⟨some 12,.val (.mov (.t 39)),none⟩]
def g192_10 : IL:=[⟨some 40,.val (.mov (.t 12)),none⟩,⟨some 41,.val (.bin .num .neq (.t 40) (.c (.int .i64 0))),none⟩]
def g192_11 : IL:=[⟨some 42,.val (.mov (.t 12)),none⟩,⟨some 8,.val (.mov (.t 42)),none⟩]
def g192_12 : IL:=[⟨some 43,.val (.bin .num .add (.t 15) (.c (.int .i64 1))),none⟩,⟨some 15,.val (.mov (.t 43)),none⟩]
def l192_0 : RC:=.gho (.drop 10) (.seq (.reg g192_2) (.seq (.cond (.t 16) (.skip) (.exit 0)) (.seq (.block 1 (.seq (.reg g192_3) (.seq (.seq (.reg g192_4) (.seq (.reg g192_5) (.cond (.t 27) (.seq (.reg g192_6) (.ret)) (.skip)))) (.seq (.seq (.reg g192_7) (.cond (.t 33) (.seq (.reg g192_8) (.ret)) (.skip))) (.seq (.reg g192_9) (.seq (.reg g192_10) (.cond (.t 41) (.seq (.reg g192_11) (.ret)) (.skip)))))))) (.reg g192_12))))
def g192_13 : IL:=[⟨some 8,.val (.mov (.c (.int .i64 0))),none⟩]
def r192 : RC:=.seq (.reg g192_0) (.seq (.seq (.reg g192_1) (.block 0 (.loop l192_0))) (.seq (.reg g192_13) (.ret)))
def o192 : List RR:=[.tmp 8]
theorem k192 : KK 44 r192 Tryz.f192:=by decide +kernel
theorem q192 : QQ Tryz.f192 o192:=by decide +kernel
def g242_0 : IL:=[⟨some 2,.boxN 2 (.t 0),none⟩,⟨some 3,.val (.mov (.c (.bool false))),none⟩]
def g242_1 : IL:=[⟨some 4,.val (.faddr 0 (.t 2)),none⟩,⟨some 5,.val (.load (some 7) (.t 4)),none⟩,⟨some 6,.val (.faddr 0 (.t 1)),none⟩,⟨some 7,.val (.load (some 7) (.t 6)),none⟩,⟨some 8,.call (.f 177) [(.t 5),(.t 7)],none⟩,⟨some 3,.val (.mov (.t 8)),none⟩]
def r242 : RC:=.seq (.reg g242_0) (.seq (.reg g242_1) (.ret))
def o242 : List RR:=[.tmp 3]
theorem k242 : KK 9 r242 Tryz.f242:=by decide +kernel
theorem q242 : QQ Tryz.f242 o242:=by decide +kernel
def g240_0 : IL:=[⟨some 4,.boxN 4 (.t 0),none⟩,⟨some 7,.boxN 7 (.t 3),none⟩,⟨some 8,.val (.mov (.c (.int .i64 0))),none⟩]
def g240_1 : IL:=[⟨some 10,.val (.faddr 0 (.t 7)),none⟩,⟨some 11,.val (.load none (.t 10)),none⟩,⟨some 12,.val (.mov (.t 1)),none⟩,⟨some 13,.val (.bin .num .neq (.t 11) (.t 12)),none⟩,⟨some 14,.val (.mov (.t 13)),none⟩,⟨some 15,.val (.load (some 7) (.t 7)),(some (14,false))⟩,⟨some 16,.call (.f 49) [(.t 15)],(some (14,false))⟩,⟨some 17,.val (.pick (.t 14) (.c (.bool true)) (.t 16)),none⟩,⟨some 9,.val (.mov (.t 17)),none⟩]
def g240_2 : IL:=[⟨some 8,.val (.mov (.c (.int .i64 12))),none⟩]
def g240_3 : IL:=[⟨some 19,.val (.faddr 2 (.t 7)),none⟩,⟨some 20,.val (.load none (.t 19)),none⟩,⟨some 21,.val (.len 0 (.t 20)),none⟩,⟨some 22,.val (.bin .num .gtr (.t 21) (.c (.int .i64 4096))),none⟩,⟨some 18,.val (.mov (.t 22)),none⟩]
def g240_4 : IL:=[⟨some 8,.val (.mov (.c (.int .i64 3))),none⟩]
def g240_5 : IL:=[⟨some 24,.val (.mov (.t 1)),none⟩,⟨some 25,.val (.bin .num .eql (.t 24) (.c (.int .i64 7))),none⟩,⟨some 26,.val (.mov (.t 25)),none⟩,⟨some 27,.val (.faddr 2 (.t 7)),(some (26,true))⟩,⟨some 28,.val (.load none (.t 27)),(some (26,true))⟩,⟨some 29,.call (.f 100) [(.t 28)],(some (26,true))⟩,⟨some 30,.val (.un .not (.t 29)),(some (26,true))⟩,⟨some 31,.val (.pick (.t 26) (.t 30) (.c (.bool false))),none⟩,⟨some 23,.val (.mov (.t 31)),none⟩]
def g240_6 : IL:=[⟨some 8,.val (.mov (.c (.int .i64 7))),none⟩]
def g240_7 : IL:=[⟨some 33,.val (.mov (.t 1)),none⟩,⟨some 34,.val (.load (some 7) (.t 7)),none⟩,⟨some 35,.call (.f 263) [(.t 33),(.t 34)],none⟩,⟨some 36,.val (.un .not (.t 35)),none⟩,⟨some 32,.val (.mov (.t 36)),none⟩]
def g240_8 : IL:=[⟨some 8,.val (.mov (.c (.int .i64 12))),none⟩]
def g240_9 : IL:=[⟨some 38,.val (.mov (.t 1)),none⟩,⟨some 39,.val (.bin .num .eql (.t 38) (.c (.int .i64 9))),none⟩,⟨some 40,.val (.mov (.t 39)),none⟩,⟨some 41,.val (.faddr 0 (.t 4)),(some (40,true))⟩,⟨some 42,.val (.load (some 2) (.t 41)),(some (40,true))⟩,⟨some 43,.val (.mov (.t 2)),(some (40,true))⟩,⟨some 44,.val (.faddr 1 (.t 7)),(some (40,true))⟩,⟨some 45,.val (.load none (.t 44)),(some (40,true))⟩,⟨some 46,.call (.f 133) [(.t 42),(.t 43),(.t 45)],(some (40,true))⟩,⟨some 47,.val (.un .not (.t 46)),(some (40,true))⟩,⟨some 48,.val (.pick (.t 40) (.t 47) (.c (.bool false))),none⟩,⟨some 37,.val (.mov (.t 48)),none⟩]
def g240_10 : IL:=[⟨some 8,.val (.mov (.c (.int .i64 16))),none⟩]
def g240_11 : IL:=[⟨some 8,.val (.mov (.c (.int .i64 0))),none⟩]
def r240 : RC:=.seq (.reg g240_0) (.seq (.block 0 (.seq (.reg g240_1) (.cond (.t 9) (.seq (.reg g240_2) (.ret)) (.seq (.reg g240_3) (.cond (.t 18) (.seq (.reg g240_4) (.ret)) (.seq (.reg g240_5) (.cond (.t 23) (.seq (.reg g240_6) (.ret)) (.seq (.reg g240_7) (.cond (.t 32) (.seq (.reg g240_8) (.ret)) (.seq (.reg g240_9) (.cond (.t 37) (.seq (.reg g240_10) (.ret)) (.skip)))))))))))) (.seq (.reg g240_11) (.ret)))
def o240 : List RR:=[.tmp 8]
theorem k240 : KK 49 r240 Tryz.f240:=by decide +kernel
theorem q240 : QQ Tryz.f240 o240:=by decide +kernel
def g241_0 : IL:=[⟨some 4,.val (.mov (.c (.bool false))),none⟩]
def g241_1 : IL:=[⟨some 5,.val (.mov (.t 0)),none⟩,⟨some 6,.val (.mov (.t 1)),none⟩,⟨some 7,.callF (.f 273) [(.t 5),(.t 6)],none⟩,⟨some 8,.val (.bin .num .geq (.t 7) (.c (.int .i64 0))),none⟩,⟨some 4,.val (.mov (.t 8)),none⟩]
def r241 : RC:=.seq (.reg g241_0) (.seq (.reg g241_1) (.ret))
def o241 : List RR:=[.tmp 4]
theorem k241 : KK 9 r241 Tryz.f241:=by decide +kernel
theorem q241 : QQ Tryz.f241 o241:=by decide +kernel
def g273_0 : IL:=[⟨some 4,.val (.mov (.c (.int .i64 0))),none⟩]
def g273_1 : IL:=[⟨some 6,.val (.mov (.t 0)),none⟩,⟨some 7,.val (.len 1 (.t 6)),none⟩,⟨some 8,.val (.mov (.c (.int .i64 0))),none⟩]
def g273_2 : IL:=[⟨some 9,.val (.bin .num .lss (.t 8) (.t 7)),none⟩]
def g273_3 : IL:=[⟨some 10,.val (.mov (.t 8)),none⟩,⟨some 5,.val (.mov (.t 10)),none⟩]
def g273_4 : IL:=[⟨some 11,.val (.mov (.t 1)),none⟩,⟨some 12,.val (.mov (.t 0)),none⟩,⟨some 13,.val (.mov (.t 5)),none⟩,⟨some 14,.val (.iaddr 14 none (.t 12) (.t 13)),none⟩,⟨some 15,.val (.load (some 14) (.t 14)),none⟩,⟨some 16,.callF (.t 11) [(.t 15)],none⟩]
def g273_5 : IL:=[⟨some 17,.val (.mov (.t 5)),none⟩,⟨some 4,.val (.mov (.t 17)),none⟩]
def g273_6 : IL:=[⟨some 18,.val (.bin .num .add (.t 8) (.c (.int .i64 1))),none⟩,⟨some 8,.val (.mov (.t 18)),none⟩]
def l273_0 : RC:=.seq (.reg g273_2) (.seq (.cond (.t 9) (.skip) (.exit 0)) (.seq (.block 1 (.seq (.reg g273_3) (.seq (.reg g273_4) (.cond (.t 16) (.seq (.reg g273_5) (.ret)) (.skip))))) (.reg g273_6)))
def g273_7 : IL:=[⟨some 4,.val (.mov (.c (.int .i64 (-1)))),none⟩]
def r273 : RC:=.seq (.reg g273_0) (.seq (.seq (.reg g273_1) (.block 0 (.loop l273_0))) (.seq (.reg g273_7) (.ret)))
def o273 : List RR:=[.tmp 4]
theorem k273 : KK 19 r273 Tryz.f273:=by decide +kernel
theorem q273 : QQ Tryz.f273 o273:=by decide +kernel
def g45_0 : IL:=[⟨some 2,.boxN 2 (.t 0),none⟩,⟨some 3,.boxN 3 (.t 1),none⟩,⟨some 4,.val (.mov (.c (.bool false))),none⟩]
def g45_1 : IL:=[⟨some 5,.val (.load (some 7) (.t 2)),none⟩,⟨some 6,.val (.load (some 7) (.t 3)),none⟩,⟨some 7,.call (.f 125) [(.t 5),(.t 6)],none⟩,⟨some 8,.val (.bin .num .eql (.t 7) (.c (.int .i64 0))),none⟩,⟨some 4,.val (.mov (.t 8)),none⟩]
def r45 : RC:=.seq (.reg g45_0) (.seq (.reg g45_1) (.ret))
def o45 : List RR:=[.tmp 4]
theorem k45 : KK 9 r45 Tryz.f45:=by decide +kernel
theorem q45 : QQ Tryz.f45 o45:=by decide +kernel
def g125_0 : IL:=[⟨some 2,.boxN 2 (.t 0),none⟩,⟨some 3,.boxN 3 (.t 1),none⟩,⟨some 4,.val (.mov (.c (.int .i64 0))),none⟩]
def g125_1 : IL:=[⟨some 6,.val (.faddr 0 (.t 2)),none⟩,⟨some 7,.val (.load none (.t 6)),none⟩,⟨some 8,.val (.faddr 0 (.t 3)),none⟩,⟨some 9,.val (.load none (.t 8)),none⟩,⟨some 10,.val (.bin .num .neq (.t 7) (.t 9)),none⟩]
def g125_2 : IL:=[⟨some 11,.val (.faddr 0 (.t 2)),none⟩,⟨some 12,.val (.load none (.t 11)),none⟩,⟨some 13,.val (.faddr 0 (.t 3)),none⟩,⟨some 14,.val (.load none (.t 13)),none⟩,⟨some 15,.call (.f 182) [(.t 12),(.t 14)],none⟩,⟨some 4,.val (.mov (.t 15)),none⟩]
def g125_3 : IL:=[⟨some 16,.val (.faddr 0 (.t 2)),none⟩,⟨some 17,.val (.load none (.t 16)),none⟩]
def g125_4 : IL:=[⟨some 19,.val (.bin .num .eql (.t 17) (.c (.int .i64 11))),none⟩,⟨some 18,.val (.mov (.t 19)),none⟩]
def g125_5 : IL:=[⟨some 20,.val (.faddr 3 (.t 2)),none⟩,⟨some 21,.val (.load none (.t 20)),none⟩,⟨some 22,.val (.faddr 3 (.t 3)),none⟩,⟨some 23,.val (.load none (.t 22)),none⟩,⟨some 24,.call (.f 183) [(.t 21),(.t 23)],none⟩,⟨some 4,.val (.mov (.t 24)),none⟩]
def g125_6 : IL:=[⟨some 26,.val (.bin .num .eql (.t 17) (.c (.int .i64 12))),none⟩,⟨some 25,.val (.mov (.t 26)),none⟩]
def g125_7 : IL:=[⟨some 27,.val (.faddr 4 (.t 2)),none⟩,⟨some 28,.val (.load none (.t 27)),none⟩,⟨some 29,.val (.faddr 4 (.t 3)),none⟩,⟨some 30,.val (.load none (.t 29)),none⟩,⟨some 31,.call (.f 184) [(.t 28),(.t 30)],none⟩,⟨some 4,.val (.mov (.t 31)),none⟩]
def g125_8 : IL:=[⟨some 33,.val (.bin .num .eql (.t 17) (.c (.int .i64 10))),none⟩,⟨some 32,.val (.mov (.t 33)),none⟩]
def g125_9 : IL:=[⟨some 34,.val (.faddr 5 (.t 2)),none⟩,⟨some 35,.val (.load none (.t 34)),none⟩,⟨some 36,.val (.faddr 5 (.t 3)),none⟩,⟨some 37,.val (.load none (.t 36)),none⟩,⟨some 38,.call (.f 185) [(.t 35),(.t 37)],none⟩,⟨some 5,.val (.mov (.t 38)),none⟩]
def g125_10 : IL:=[⟨some 39,.val (.mov (.t 5)),none⟩,⟨some 40,.val (.bin .num .neq (.t 39) (.c (.int .i64 0))),none⟩]
def g125_11 : IL:=[⟨some 41,.val (.mov (.t 5)),none⟩,⟨some 4,.val (.mov (.t 41)),none⟩]
def g125_12 : IL:=[⟨some 42,.val (.faddr 6 (.t 2)),none⟩,⟨some 43,.val (.load none (.t 42)),none⟩,⟨some 44,.val (.faddr 6 (.t 3)),none⟩,⟨some 45,.val (.load none (.t 44)),none⟩,⟨some 46,.call (.f 186) [(.t 43),(.t 45)],none⟩,⟨some 4,.val (.mov (.t 46)),none⟩]
def g125_13 : IL:=[⟨some 47,.val (.load (some 7) (.t 2)),none⟩,⟨some 48,.val (.load (some 7) (.t 3)),none⟩,⟨some 49,.call (.f 187) [(.t 47),(.t 48)],none⟩,⟨some 4,.val (.mov (.t 49)),none⟩]
def r125 : RC:=.seq (.reg g125_0) (.seq (.seq (.reg g125_1) (.cond (.t 10) (.seq (.reg g125_2) (.ret)) (.skip))) (.seq (.seq (.reg g125_3) (.block 0 (.seq (.reg g125_4) (.cond (.t 18) (.seq (.reg g125_5) (.ret)) (.seq (.reg g125_6) (.cond (.t 25) (.seq (.reg g125_7) (.ret)) (.seq (.reg g125_8) (.cond (.t 32) (.seq (.seq (.reg g125_9) (.seq (.reg g125_10) (.cond (.t 40) (.seq (.reg g125_11) (.ret)) (.skip)))) (.seq (.reg g125_12) (.ret))) (.skip))))))))) (.seq (.reg g125_13) (.ret))))
def o125 : List RR:=[.tmp 4]
theorem k125 : KK 50 r125 Tryz.f125:=by decide +kernel
theorem q125 : QQ Tryz.f125 o125:=by decide +kernel
def g187_0 : IL:=[⟨some 2,.boxN 2 (.t 0),none⟩,⟨some 3,.boxN 3 (.t 1),none⟩,⟨some 4,.val (.mov (.c (.int .i64 0))),none⟩]
def g187_1 : IL:=[⟨some 6,.val (.faddr 0 (.t 2)),none⟩,⟨some 7,.val (.load none (.t 6)),none⟩,⟨some 8,.val (.faddr 0 (.t 3)),none⟩,⟨some 9,.val (.load none (.t 8)),none⟩,⟨some 10,.val (.bin .num .lss (.t 7) (.t 9)),none⟩,⟨some 5,.val (.mov (.t 10)),none⟩]
def g187_2 : IL:=[⟨some 4,.val (.mov (.c (.int .i64 (-1)))),none⟩]
def g187_3 : IL:=[⟨some 12,.val (.faddr 0 (.t 2)),none⟩,⟨some 13,.val (.load none (.t 12)),none⟩,⟨some 14,.val (.faddr 0 (.t 3)),none⟩,⟨some 15,.val (.load none (.t 14)),none⟩,⟨some 16,.val (.bin .num .gtr (.t 13) (.t 15)),none⟩,⟨some 11,.val (.mov (.t 16)),none⟩]
def g187_4 : IL:=[⟨some 4,.val (.mov (.c (.int .i64 1))),none⟩]
def g187_5 : IL:=[⟨some 18,.val (.faddr 0 (.t 2)),none⟩,⟨some 19,.val (.load none (.t 18)),none⟩,⟨some 20,.call (.f 189) [(.t 19)],none⟩,⟨some 21,.val (.un .not (.t 20)),none⟩,⟨some 17,.val (.mov (.t 21)),none⟩]
def g187_6 : IL:=[⟨some 4,.val (.mov (.c (.int .i64 0))),none⟩]
def g187_7 : IL:=[⟨some 23,.val (.faddr 0 (.t 2)),none⟩,⟨some 24,.val (.load none (.t 23)),none⟩,⟨some 25,.call (.f 238) [(.t 24)],none⟩,⟨some 26,.val (.mov (.t 25)),none⟩,⟨some 27,.val (.faddr 2 (.t 2)),(some (26,true))⟩,⟨some 28,.val (.load none (.t 27)),(some (26,true))⟩,⟨some 29,.val (.faddr 2 (.t 3)),(some (26,true))⟩,⟨some 30,.val (.load none (.t 29)),(some (26,true))⟩,⟨some 31,.val (.bin .str .lss (.t 28) (.t 30)),(some (26,true))⟩,⟨some 32,.val (.pick (.t 26) (.t 31) (.c (.bool false))),none⟩,⟨some 22,.val (.mov (.t 32)),none⟩]
def g187_8 : IL:=[⟨some 4,.val (.mov (.c (.int .i64 (-1)))),none⟩]
def g187_9 : IL:=[⟨some 34,.val (.faddr 0 (.t 2)),none⟩,⟨some 35,.val (.load none (.t 34)),none⟩,⟨some 36,.call (.f 238) [(.t 35)],none⟩,⟨some 37,.val (.mov (.t 36)),none⟩,⟨some 38,.val (.faddr 2 (.t 2)),(some (37,true))⟩,⟨some 39,.val (.load none (.t 38)),(some (37,true))⟩,⟨some 40,.val (.faddr 2 (.t 3)),(some (37,true))⟩,⟨some 41,.val (.load none (.t 40)),(some (37,true))⟩,⟨some 42,.val (.bin .str .gtr (.t 39) (.t 41)),(some (37,true))⟩,⟨some 43,.val (.pick (.t 37) (.t 42) (.c (.bool false))),none⟩,⟨some 33,.val (.mov (.t 43)),none⟩]
def g187_10 : IL:=[⟨some 4,.val (.mov (.c (.int .i64 1))),none⟩]
def g187_11 : IL:=[⟨some 45,.val (.faddr 0 (.t 2)),none⟩,⟨some 46,.val (.load none (.t 45)),none⟩,⟨some 47,.call (.f 238) [(.t 46)],none⟩,⟨some 44,.val (.mov (.t 47)),none⟩]
def g187_12 : IL:=[⟨some 4,.val (.mov (.c (.int .i64 0))),none⟩]
def g187_13 : IL:=[⟨some 49,.val (.loadv 0 2 (some 7) (.t 2)),none⟩,⟨some 50,.call (.f 239) [(.t 49)],none⟩,⟨some 51,.val (.loadv 0 3 (some 7) (.t 3)),none⟩,⟨some 52,.call (.f 239) [(.t 51)],none⟩,⟨some 53,.val (.bin .num .lss (.t 50) (.t 52)),none⟩,⟨some 48,.val (.mov (.t 53)),none⟩]
def g187_14 : IL:=[⟨some 4,.val (.mov (.c (.int .i64 (-1)))),none⟩]
def g187_15 : IL:=[⟨some 55,.val (.loadv 0 2 (some 7) (.t 2)),none⟩,⟨some 56,.call (.f 239) [(.t 55)],none⟩,⟨some 57,.val (.loadv 0 3 (some 7) (.t 3)),none⟩,⟨some 58,.call (.f 239) [(.t 57)],none⟩,⟨some 59,.val (.bin .num .gtr (.t 56) (.t 58)),none⟩,⟨some 54,.val (.mov (.t 59)),none⟩]
def g187_16 : IL:=[⟨some 4,.val (.mov (.c (.int .i64 1))),none⟩]
def g187_17 : IL:=[⟨some 4,.val (.mov (.c (.int .i64 0))),none⟩]
def r187 : RC:=.seq (.reg g187_0) (.seq (.block 0 (.seq (.reg g187_1) (.cond (.t 5) (.seq (.reg g187_2) (.ret)) (.seq (.reg g187_3) (.cond (.t 11) (.seq (.reg g187_4) (.ret)) (.seq (.reg g187_5) (.cond (.t 17) (.seq (.reg g187_6) (.ret)) (.seq (.reg g187_7) (.cond (.t 22) (.seq (.reg g187_8) (.ret)) (.seq (.reg g187_9) (.cond (.t 33) (.seq (.reg g187_10) (.ret)) (.seq (.reg g187_11) (.cond (.t 44) (.seq (.reg g187_12) (.ret)) (.seq (.draw g187_13) (.cond (.t 48) (.seq (.reg g187_14) (.ret)) (.seq (.draw g187_15) (.cond (.t 54) (.seq (.reg g187_16) (.ret)) (.skip)))))))))))))))))) (.seq (.reg g187_17) (.ret)))
def o187 : List RR:=[.tmp 4]
theorem k187 : KK 60 r187 Tryz.f187:=by decide +kernel
theorem q187 : QQ Tryz.f187 o187:=by decide +kernel
def g239_0 : IL:=[⟨some 1,.boxN 1 (.t 0),none⟩,⟨some 2,.val (.mov (.c (.int .u64 0))),none⟩]
def g239_1 : IL:=[⟨some 4,.val (.faddr 0 (.t 1)),none⟩,⟨some 5,.val (.load none (.t 4)),none⟩,⟨some 6,.call (.f 272) [(.t 5)],none⟩,⟨some 3,.val (.mov (.t 6)),none⟩]
def g239_2 : IL:=[⟨some 7,.val (.faddr 1 (.t 1)),none⟩,⟨some 8,.val (.load none (.t 7)),none⟩,⟨some 9,.val (.bin .num .add (.t 8) (.c (.int .u64 9223372036854775808))),none⟩,⟨some 2,.val (.mov (.t 9)),none⟩]
def g239_3 : IL:=[⟨some 11,.val (.faddr 0 (.t 1)),none⟩,⟨some 12,.val (.load none (.t 11)),none⟩,⟨some 13,.val (.bin .num .neq (.t 12) (.c (.int .i64 6))),none⟩,⟨some 10,.val (.mov (.t 13)),none⟩]
def g239_4 : IL:=[⟨some 14,.val (.faddr 1 (.t 1)),none⟩,⟨some 15,.val (.load none (.t 14)),none⟩,⟨some 2,.val (.mov (.t 15)),none⟩]
def g239_5 : IL:=[⟨some 17,.val (.faddr 1 (.t 1)),none⟩,⟨some 18,.val (.load none (.t 17)),none⟩,⟨some 19,.call (.f 188) [(.t 18)],none⟩,⟨some 20,.val (.bin .num .eql (.t 19) (.c (.int .i64 0))),none⟩,⟨some 16,.val (.mov (.t 20)),none⟩]
def g239_6 : IL:=[⟨some 2,.val (.mov (.c (.int .u64 18446744073709551615))),none⟩]
def g239_7 : IL:=[⟨some 22,.val (.faddr 1 (.t 1)),none⟩,⟨some 23,.val (.load none (.t 22)),none⟩,⟨some 24,.val (.bin .num .geq (.t 23) (.c (.int .u64 9223372036854775808))),none⟩,⟨some 21,.val (.mov (.t 24)),none⟩]
def g239_8 : IL:=[⟨some 25,.val (.faddr 1 (.t 1)),none⟩,⟨some 26,.val (.load none (.t 25)),none⟩,⟨some 27,.val (.bin .num .sub (.c (.int .u64 18446744073709551615)) (.t 26)),none⟩,⟨some 2,.val (.mov (.t 27)),none⟩]
def g239_9 : IL:=[⟨some 28,.val (.faddr 1 (.t 1)),none⟩,⟨some 29,.val (.load none (.t 28)),none⟩,⟨some 30,.val (.bin .num .add (.t 29) (.c (.int .u64 9223372036854775808))),none⟩,⟨some 2,.val (.mov (.t 30)),none⟩]
def r239 : RC:=.seq (.reg g239_0) (.seq (.block 0 (.seq (.reg g239_1) (.cond (.t 3) (.seq (.reg g239_2) (.ret)) (.seq (.reg g239_3) (.cond (.t 10) (.seq (.reg g239_4) (.ret)) (.seq (.reg g239_5) (.cond (.t 16) (.seq (.reg g239_6) (.ret)) (.seq (.reg g239_7) (.cond (.t 21) (.seq (.reg g239_8) (.ret)) (.skip)))))))))) (.seq (.reg g239_9) (.ret)))
def o239 : List RR:=[.tmp 2]
theorem k239 : KK 31 r239 Tryz.f239:=by decide +kernel
theorem q239 : QQ Tryz.f239 o239:=by decide +kernel
def g272_0 : IL:=[⟨some 2,.val (.mov (.c (.bool false))),none⟩]
def g272_1 : IL:=[⟨some 3,.val (.mov (.t 0)),none⟩,⟨some 4,.val (.bin .num .eql (.t 3) (.c (.int .i64 2))),none⟩,⟨some 5,.val (.mov (.t 4)),none⟩,⟨some 6,.val (.mov (.t 0)),(some (5,false))⟩,⟨some 7,.val (.bin .num .eql (.t 6) (.c (.int .i64 3))),(some (5,false))⟩,⟨some 8,.val (.pick (.t 5) (.c (.bool true)) (.t 7)),none⟩,⟨some 2,.val (.mov (.t 8)),none⟩]
def r272 : RC:=.seq (.reg g272_0) (.seq (.reg g272_1) (.ret))
def o272 : List RR:=[.tmp 2]
theorem k272 : KK 9 r272 Tryz.f272:=by decide +kernel
theorem q272 : QQ Tryz.f272 o272:=by decide +kernel
def g177_0 : IL:=[⟨some 2,.boxN 2 (.t 0),none⟩,⟨some 3,.boxN 3 (.t 1),none⟩,⟨some 4,.val (.mov (.c (.bool false))),none⟩]
def g177_1 : IL:=[⟨some 5,.val (.load (some 7) (.t 2)),none⟩,⟨some 6,.val (.load (some 7) (.t 3)),none⟩,⟨some 7,.call (.f 176) [(.t 5),(.t 6)],none⟩,⟨some 8,.val (.bin .num .eql (.t 7) (.c (.int .i64 0))),none⟩,⟨some 4,.val (.mov (.t 8)),none⟩]
def r177 : RC:=.seq (.reg g177_0) (.seq (.reg g177_1) (.ret))
def o177 : List RR:=[.tmp 4]
theorem k177 : KK 9 r177 Tryz.f177:=by decide +kernel
theorem q177 : QQ Tryz.f177 o177:=by decide +kernel
def g176_0 : IL:=[⟨some 2,.boxN 2 (.t 0),none⟩,⟨some 3,.boxN 3 (.t 1),none⟩,⟨some 4,.val (.mov (.c (.int .i64 0))),none⟩]
def g176_1 : IL:=[⟨some 11,.val (.faddr 0 (.t 2)),none⟩,⟨some 12,.val (.load none (.t 11)),none⟩,⟨some 13,.val (.faddr 0 (.t 3)),none⟩,⟨some 14,.val (.load none (.t 13)),none⟩,⟨some 15,.val (.bin .num .neq (.t 12) (.t 14)),none⟩]
def g176_2 : IL:=[⟨some 16,.val (.faddr 0 (.t 2)),none⟩,⟨some 17,.val (.load none (.t 16)),none⟩,⟨some 18,.val (.faddr 0 (.t 3)),none⟩,⟨some 19,.val (.load none (.t 18)),none⟩,⟨some 20,.call (.f 44) [(.t 17),(.t 19)],none⟩,⟨some 4,.val (.mov (.t 20)),none⟩]
def g176_3 : IL:=[⟨some 21,.val (.load (some 7) (.t 3)),none⟩,⟨some 22,.call (.f 225) [(.t 21)],none⟩,⟨some 5,.val (.mov (.t 22)),none⟩]
def g176_4 : IL:=[⟨some 23,.val (.load (some 7) (.t 2)),none⟩,⟨some 24,.call (.f 225) [(.t 23)],none⟩]
def g176_5 : IL:=[⟨some 25,.val (.tas 215 true (.agg [.int .i64 0,.int .u64 0,.str [],.nils,.nils,.nils,.nils]) (.t 24)),none⟩,⟨some 26,.val (.ext (.t 25) 1),none⟩,⟨some 27,.val (.ext (.t 25) 0),none⟩]
def g176_6 : IL:=[⟨some 6,.allocN 6 [.int .i64 0,.int .u64 0,.str [],.nils,.nils,.nils,.nils],none⟩,⟨none,.store 7 (.t 6) (.t 27),none⟩]
def g176_7 : IL:=[⟨some 28,.val (.load (some 7) (.t 6)),none⟩,⟨some 29,.val (.load (some 7) (.t 3)),none⟩,⟨some 30,.call (.f 226) [(.t 28),(.t 29)],none⟩,⟨some 4,.val (.mov (.t 30)),none⟩]
def g176_8 : IL:=[⟨some 31,.val (.tas 216 true (.nils) (.t 24)),none⟩,⟨some 32,.val (.ext (.t 31) 1),none⟩,⟨some 33,.val (.ext (.t 31) 0),none⟩]
def g176_9 : IL:=[⟨some 7,.val (.mov (.t 33)),none⟩]
def g176_10 : IL:=[⟨some 34,.val (.mov (.t 7)),none⟩,⟨some 35,.val (.mov (.t 5)),none⟩,⟨some 36,.val (.tas 216 false (.nils) (.t 35)),none⟩,⟨some 37,.callF (.f 227) [(.t 34),(.t 36),(.f 176)],none⟩,⟨some 4,.val (.mov (.t 37)),none⟩]
def g176_11 : IL:=[⟨some 38,.val (.tas 218 true (.nils) (.t 24)),none⟩,⟨some 39,.val (.ext (.t 38) 1),none⟩,⟨some 40,.val (.ext (.t 38) 0),none⟩]
def g176_12 : IL:=[⟨some 8,.val (.mov (.t 40)),none⟩]
def g176_13 : IL:=[⟨some 41,.val (.mov (.t 8)),none⟩,⟨some 42,.val (.mov (.t 5)),none⟩,⟨some 43,.val (.tas 218 false (.nils) (.t 42)),none⟩,⟨some 44,.callF (.f 228) [(.t 41),(.t 43),(.f 229)],none⟩,⟨some 4,.val (.mov (.t 44)),none⟩]
def g176_14 : IL:=[⟨some 45,.val (.tas 221 true (.agg [.nils,.nils]) (.t 24)),none⟩,⟨some 46,.val (.ext (.t 45) 1),none⟩,⟨some 47,.val (.ext (.t 45) 0),none⟩]
def g176_15 : IL:=[⟨some 9,.allocN 9 [.nils,.nils],none⟩,⟨none,.store 2 (.t 9) (.t 47),none⟩]
def g176_16 : IL:=[⟨some 48,.val (.mov (.t 5)),none⟩,⟨some 49,.val (.tas 221 false (.agg [.nils,.nils]) (.t 48)),none⟩,⟨some 10,.allocN 10 [.nils,.nils],none⟩,⟨none,.store 2 (.t 10) (.t 49),none⟩]
def g176_18 : IL:=[⟨some 4,.val (.mov (.c (.int .i64 0))),none⟩]
def r176 : RC:=.seq (.reg g176_0) (.seq (.seq (.reg g176_1) (.cond (.t 15) (.seq (.reg g176_2) (.ret)) (.skip))) (.seq (.reg g176_3) (.seq (.seq (.reg g176_4) (.block 0 (.seq (.reg g176_5) (.cond (.t 26) (.seq (.reg g176_6) (.seq (.reg g176_7) (.ret))) (.seq (.reg g176_8) (.cond (.t 32) (.seq (.reg g176_9) (.seq (.reg g176_10) (.ret))) (.seq (.reg g176_11) (.cond (.t 39) (.seq (.reg g176_12) (.seq (.reg g176_13) (.ret))) (.seq (.reg g176_14) (.cond (.t 46) (.seq (.reg g176_15) (.seq (.reg g176_16) (.seq (.no) (.ret)))) (.skip))))))))))) (.seq (.reg g176_18) (.ret)))))
def o176 : List RR:=[.tmp 4]
theorem k176 : KK 62 r176 Tryz.f176:=by decide +kernel
theorem q176 : QQ Tryz.f176 o176:=by decide +kernel
def g225_0 : IL:=[⟨some 1,.boxN 1 (.t 0),none⟩,⟨some 2,.val (.mov (.c (.nili))),none⟩]
def g225_1 : IL:=[⟨some 4,.val (.faddr 0 (.t 1)),none⟩,⟨some 5,.val (.load none (.t 4)),none⟩,⟨some 6,.call (.f 159) [(.t 5)],none⟩,⟨some 3,.val (.mov (.t 6)),none⟩]
def g225_2 : IL:=[⟨some 7,.val (.load (some 7) (.t 1)),none⟩,⟨some 8,.val (.mki 215 (.t 7)),none⟩,⟨some 2,.val (.mov (.t 8)),none⟩]
def g225_3 : IL:=[⟨some 10,.val (.faddr 0 (.t 1)),none⟩,⟨some 11,.val (.load none (.t 10)),none⟩,⟨some 12,.val (.bin .num .eql (.t 11) (.c (.int .i64 11))),none⟩,⟨some 9,.val (.mov (.t 12)),none⟩]
def g225_4 : IL:=[⟨some 13,.val (.faddr 3 (.t 1)),none⟩,⟨some 14,.val (.load none (.t 13)),none⟩,⟨some 15,.val (.mki 216 (.t 14)),none⟩,⟨some 2,.val (.mov (.t 15)),none⟩]
def g225_5 : IL:=[⟨some 17,.val (.faddr 0 (.t 1)),none⟩,⟨some 18,.val (.load none (.t 17)),none⟩,⟨some 19,.val (.bin .num .eql (.t 18) (.c (.int .i64 12))),none⟩,⟨some 16,.val (.mov (.t 19)),none⟩]
def g225_6 : IL:=[⟨some 20,.val (.faddr 4 (.t 1)),none⟩,⟨some 21,.val (.load none (.t 20)),none⟩,⟨some 22,.val (.mki 218 (.t 21)),none⟩,⟨some 2,.val (.mov (.t 22)),none⟩]
def g225_7 : IL:=[⟨some 24,.val (.faddr 0 (.t 1)),none⟩,⟨some 25,.val (.load none (.t 24)),none⟩,⟨some 26,.val (.bin .num .eql (.t 25) (.c (.int .i64 10))),none⟩,⟨some 23,.val (.mov (.t 26)),none⟩]
def g225_8 : IL:=[⟨some 27,.val (.faddr 5 (.t 1)),none⟩,⟨some 28,.val (.load none (.t 27)),none⟩,⟨some 29,.val (.faddr 6 (.t 1)),none⟩,⟨some 30,.val (.load none (.t 29)),none⟩,⟨some 31,.val (.build [.nils,.nils] [(0,1,(.t 28)),(1,1,(.t 30))]),none⟩,⟨some 32,.val (.mki 221 (.t 31)),none⟩,⟨some 2,.val (.mov (.t 32)),none⟩]
def g225_9 : IL:=[⟨some 2,.val (.mov (.c (.nili))),none⟩]
def r225 : RC:=.seq (.reg g225_0) (.seq (.block 0 (.seq (.reg g225_1) (.cond (.t 3) (.seq (.reg g225_2) (.ret)) (.seq (.reg g225_3) (.cond (.t 9) (.seq (.reg g225_4) (.ret)) (.seq (.reg g225_5) (.cond (.t 16) (.seq (.reg g225_6) (.ret)) (.seq (.reg g225_7) (.cond (.t 23) (.seq (.reg g225_8) (.ret)) (.skip)))))))))) (.seq (.reg g225_9) (.ret)))
def o225 : List RR:=[.tmp 2]
theorem k225 : KK 33 r225 Tryz.f225:=by decide +kernel
theorem q225 : QQ Tryz.f225 o225:=by decide +kernel
def g44_0 : IL:=[⟨some 4,.val (.mov (.c (.int .i64 0))),none⟩]
def g44_1 : IL:=[⟨some 7,.val (.mov (.t 0)),none⟩,⟨some 8,.call (.f 124) [(.t 7)],none⟩,⟨some 5,.val (.mov (.t 8)),none⟩]
def g44_2 : IL:=[⟨some 9,.val (.mov (.t 1)),none⟩,⟨some 10,.call (.f 124) [(.t 9)],none⟩,⟨some 6,.val (.mov (.t 10)),none⟩]
def g44_3 : IL:=[⟨some 11,.val (.mov (.t 5)),none⟩]
def g44_4 : IL:=[⟨some 12,.val (.mov (.t 6)),none⟩]
def g44_5 : IL:=[⟨some 4,.val (.mov (.c (.int .i64 0))),none⟩]
def g44_6 : IL:=[⟨some 4,.val (.mov (.c (.int .i64 (-1)))),none⟩]
def g44_7 : IL:=[⟨some 13,.val (.mov (.t 6)),none⟩]
def g44_8 : IL:=[⟨some 4,.val (.mov (.c (.int .i64 1))),none⟩]
def g44_9 : IL:=[⟨some 14,.val (.mov (.t 0)),none⟩,⟨some 15,.val (.mov (.t 1)),none⟩,⟨some 16,.val (.bin .num .lss (.t 14) (.t 15)),none⟩]
def g44_10 : IL:=[⟨some 4,.val (.mov (.c (.int .i64 (-1)))),none⟩]
def g44_11 : IL:=[⟨some 17,.val (.mov (.t 0)),none⟩,⟨some 18,.val (.mov (.t 1)),none⟩,⟨some 19,.val (.bin .num .gtr (.t 17) (.t 18)),none⟩]
def g44_12 : IL:=[⟨some 4,.val (.mov (.c (.int .i64 1))),none⟩]
def g44_13 : IL:=[⟨some 4,.val (.mov (.c (.int .i64 0))),none⟩]
def r44 : RC:=.seq (.reg g44_0) (.seq (.reg g44_1) (.seq (.reg g44_2) (.seq (.seq (.reg g44_3) (.cond (.t 11) (.seq (.seq (.reg g44_4) (.cond (.t 12) (.seq (.reg g44_5) (.ret)) (.skip))) (.seq (.reg g44_6) (.ret))) (.skip))) (.seq (.seq (.reg g44_7) (.cond (.t 13) (.seq (.reg g44_8) (.ret)) (.skip))) (.seq (.seq (.reg g44_9) (.cond (.t 16) (.seq (.reg g44_10) (.ret)) (.skip))) (.seq (.seq (.reg g44_11) (.cond (.t 19) (.seq (.reg g44_12) (.ret)) (.skip))) (.seq (.reg g44_13) (.ret))))))))
def o44 : List RR:=[.tmp 4]
theorem k44 : KK 20 r44 Tryz.f44:=by decide +kernel
theorem q44 : QQ Tryz.f44 o44:=by decide +kernel
def g268_0 : IL:=[⟨some 4,.val (.mov (.c (.int .i64 0))),none⟩]
def g268_1 : IL:=[⟨some 7,.val (.mov (.t 0)),none⟩,⟨some 8,.call (.f 293) [(.t 7)],none⟩,⟨some 5,.val (.mov (.t 8)),none⟩]
def g268_2 : IL:=[⟨some 9,.val (.mov (.t 1)),none⟩,⟨some 10,.call (.f 293) [(.t 9)],none⟩,⟨some 6,.val (.mov (.t 10)),none⟩]
def g268_3 : IL:=[⟨some 11,.val (.mov (.t 5)),none⟩]
def g268_4 : IL:=[⟨some 12,.val (.mov (.t 6)),none⟩]
def g268_5 : IL:=[⟨some 4,.val (.mov (.c (.int .i64 0))),none⟩]
def g268_6 : IL:=[⟨some 4,.val (.mov (.c (.int .i64 (-1)))),none⟩]
def g268_7 : IL:=[⟨some 13,.val (.mov (.t 6)),none⟩]
def g268_8 : IL:=[⟨some 4,.val (.mov (.c (.int .i64 1))),none⟩]
def g268_9 : IL:=[⟨some 14,.val (.mov (.t 0)),none⟩,⟨some 15,.val (.mov (.t 1)),none⟩,⟨some 16,.val (.bin .str .lss (.t 14) (.t 15)),none⟩]
def g268_10 : IL:=[⟨some 4,.val (.mov (.c (.int .i64 (-1)))),none⟩]
def g268_11 : IL:=[⟨some 17,.val (.mov (.t 0)),none⟩,⟨some 18,.val (.mov (.t 1)),none⟩,⟨some 19,.val (.bin .str .gtr (.t 17) (.t 18)),none⟩]
def g268_12 : IL:=[⟨some 4,.val (.mov (.c (.int .i64 1))),none⟩]
def g268_13 : IL:=[⟨some 4,.val (.mov (.c (.int .i64 0))),none⟩]
def r268 : RC:=.seq (.reg g268_0) (.seq (.reg g268_1) (.seq (.reg g268_2) (.seq (.seq (.reg g268_3) (.cond (.t 11) (.seq (.seq (.reg g268_4) (.cond (.t 12) (.seq (.reg g268_5) (.ret)) (.skip))) (.seq (.reg g268_6) (.ret))) (.skip))) (.seq (.seq (.reg g268_7) (.cond (.t 13) (.seq (.reg g268_8) (.ret)) (.skip))) (.seq (.seq (.reg g268_9) (.cond (.t 16) (.seq (.reg g268_10) (.ret)) (.skip))) (.seq (.seq (.reg g268_11) (.cond (.t 19) (.seq (.reg g268_12) (.ret)) (.skip))) (.seq (.reg g268_13) (.ret))))))))
def o268 : List RR:=[.tmp 4]
theorem k268 : KK 20 r268 Tryz.f268:=by decide +kernel
theorem q268 : QQ Tryz.f268 o268:=by decide +kernel
def g269_0 : IL:=[⟨some 4,.val (.mov (.c (.int .i64 0))),none⟩]
def g269_1 : IL:=[⟨some 7,.val (.mov (.t 0)),none⟩,⟨some 8,.call (.f 294) [(.t 7)],none⟩,⟨some 5,.val (.mov (.t 8)),none⟩]
def g269_2 : IL:=[⟨some 9,.val (.mov (.t 1)),none⟩,⟨some 10,.call (.f 294) [(.t 9)],none⟩,⟨some 6,.val (.mov (.t 10)),none⟩]
def g269_3 : IL:=[⟨some 11,.val (.mov (.t 5)),none⟩]
def g269_4 : IL:=[⟨some 12,.val (.mov (.t 6)),none⟩]
def g269_5 : IL:=[⟨some 4,.val (.mov (.c (.int .i64 0))),none⟩]
def g269_6 : IL:=[⟨some 4,.val (.mov (.c (.int .i64 (-1)))),none⟩]
def g269_7 : IL:=[⟨some 13,.val (.mov (.t 6)),none⟩]
def g269_8 : IL:=[⟨some 4,.val (.mov (.c (.int .i64 1))),none⟩]
def g269_9 : IL:=[⟨some 14,.val (.mov (.t 0)),none⟩,⟨some 15,.val (.mov (.t 1)),none⟩,⟨some 16,.val (.bin .num .lss (.t 14) (.t 15)),none⟩]
def g269_10 : IL:=[⟨some 4,.val (.mov (.c (.int .i64 (-1)))),none⟩]
def g269_11 : IL:=[⟨some 17,.val (.mov (.t 0)),none⟩,⟨some 18,.val (.mov (.t 1)),none⟩,⟨some 19,.val (.bin .num .gtr (.t 17) (.t 18)),none⟩]
def g269_12 : IL:=[⟨some 4,.val (.mov (.c (.int .i64 1))),none⟩]
def g269_13 : IL:=[⟨some 4,.val (.mov (.c (.int .i64 0))),none⟩]
def r269 : RC:=.seq (.reg g269_0) (.seq (.reg g269_1) (.seq (.reg g269_2) (.seq (.seq (.reg g269_3) (.cond (.t 11) (.seq (.seq (.reg g269_4) (.cond (.t 12) (.seq (.reg g269_5) (.ret)) (.skip))) (.seq (.reg g269_6) (.ret))) (.skip))) (.seq (.seq (.reg g269_7) (.cond (.t 13) (.seq (.reg g269_8) (.ret)) (.skip))) (.seq (.seq (.reg g269_9) (.cond (.t 16) (.seq (.reg g269_10) (.ret)) (.skip))) (.seq (.seq (.reg g269_11) (.cond (.t 19) (.seq (.reg g269_12) (.ret)) (.skip))) (.seq (.reg g269_13) (.ret))))))))
def o269 : List RR:=[.tmp 4]
theorem k269 : KK 20 r269 Tryz.f269:=by decide +kernel
theorem q269 : QQ Tryz.f269 o269:=by decide +kernel
def g124_0 : IL:=[⟨some 2,.val (.mov (.c (.bool false))),none⟩]
def g124_1 : IL:=[⟨some 3,.val (.mov (.t 0)),none⟩,⟨some 4,.val (.mov (.t 0)),none⟩,⟨some 5,.val (.bin .num .neq (.t 3) (.t 4)),none⟩,⟨some 2,.val (.mov (.t 5)),none⟩]
def r124 : RC:=.seq (.reg g124_0) (.seq (.reg g124_1) (.ret))
def o124 : List RR:=[.tmp 2]
theorem k124 : KK 6 r124 Tryz.f124:=by decide +kernel
theorem q124 : QQ Tryz.f124 o124:=by decide +kernel
def g293_0 : IL:=[⟨some 2,.val (.mov (.c (.bool false))),none⟩]
def g293_1 : IL:=[⟨some 3,.val (.mov (.t 0)),none⟩,⟨some 4,.val (.mov (.t 0)),none⟩,⟨some 5,.val (.bin .str .neq (.t 3) (.t 4)),none⟩,⟨some 2,.val (.mov (.t 5)),none⟩]
def r293 : RC:=.seq (.reg g293_0) (.seq (.reg g293_1) (.ret))
def o293 : List RR:=[.tmp 2]
theorem k293 : KK 6 r293 Tryz.f293:=by decide +kernel
theorem q293 : QQ Tryz.f293 o293:=by decide +kernel
def g294_0 : IL:=[⟨some 2,.val (.mov (.c (.bool false))),none⟩]
def g294_1 : IL:=[⟨some 3,.val (.mov (.t 0)),none⟩,⟨some 4,.val (.mov (.t 0)),none⟩,⟨some 5,.val (.bin .num .neq (.t 3) (.t 4)),none⟩,⟨some 2,.val (.mov (.t 5)),none⟩]
def r294 : RC:=.seq (.reg g294_0) (.seq (.reg g294_1) (.ret))
def o294 : List RR:=[.tmp 2]
theorem k294 : KK 6 r294 Tryz.f294:=by decide +kernel
theorem q294 : QQ Tryz.f294 o294:=by decide +kernel
def g226_0 : IL:=[⟨some 2,.boxN 2 (.t 0),none⟩,⟨some 3,.boxN 3 (.t 1),none⟩,⟨some 4,.val (.mov (.c (.int .i64 0))),none⟩]
def g226_1 : IL:=[⟨some 6,.val (.faddr 0 (.t 2)),none⟩,⟨some 7,.val (.load none (.t 6)),none⟩,⟨some 8,.val (.faddr 0 (.t 3)),none⟩,⟨some 9,.val (.load none (.t 8)),none⟩,⟨some 10,.val (.bin .num .neq (.t 7) (.t 9)),none⟩,⟨some 5,.val (.mov (.t 10)),none⟩]
def g226_2 : IL:=[⟨some 11,.val (.faddr 0 (.t 2)),none⟩,⟨some 12,.val (.load none (.t 11)),none⟩,⟨some 13,.val (.faddr 0 (.t 3)),none⟩,⟨some 14,.val (.load none (.t 13)),none⟩,⟨some 15,.call (.f 44) [(.t 12),(.t 14)],none⟩,⟨some 4,.val (.mov (.t 15)),none⟩]
def g226_3 : IL:=[⟨some 17,.val (.faddr 0 (.t 2)),none⟩,⟨some 18,.val (.load none (.t 17)),none⟩,⟨some 19,.call (.f 159) [(.t 18)],none⟩,⟨some 20,.val (.un .not (.t 19)),none⟩,⟨some 16,.val (.mov (.t 20)),none⟩]
def g226_4 : IL:=[⟨some 4,.val (.mov (.c (.int .i64 0))),none⟩]
def g226_5 : IL:=[⟨some 22,.val (.faddr 0 (.t 2)),none⟩,⟨some 23,.val (.load none (.t 22)),none⟩,⟨some 24,.call (.f 235) [(.t 23)],none⟩,⟨some 21,.val (.mov (.t 24)),none⟩]
def g226_6 : IL:=[⟨some 25,.val (.faddr 2 (.t 2)),none⟩,⟨some 26,.val (.load none (.t 25)),none⟩,⟨some 27,.val (.faddr 2 (.t 3)),none⟩,⟨some 28,.val (.load none (.t 27)),none⟩,⟨some 29,.call (.f 268) [(.t 26),(.t 28)],none⟩,⟨some 4,.val (.mov (.t 29)),none⟩]
def g226_7 : IL:=[⟨some 31,.val (.faddr 0 (.t 2)),none⟩,⟨some 32,.val (.load none (.t 31)),none⟩,⟨some 33,.val (.bin .num .eql (.t 32) (.c (.int .i64 2))),none⟩,⟨some 34,.val (.mov (.t 33)),none⟩,⟨some 35,.val (.faddr 0 (.t 2)),(some (34,false))⟩,⟨some 36,.val (.load none (.t 35)),(some (34,false))⟩,⟨some 37,.val (.bin .num .eql (.t 36) (.c (.int .i64 3))),(some (34,false))⟩,⟨some 38,.val (.pick (.t 34) (.c (.bool true)) (.t 37)),none⟩,⟨some 30,.val (.mov (.t 38)),none⟩]
def g226_8 : IL:=[⟨some 39,.val (.faddr 1 (.t 2)),none⟩,⟨some 40,.val (.load none (.t 39)),none⟩,⟨some 41,.val (.cvi .i64 (.t 40)),none⟩,⟨some 42,.val (.faddr 1 (.t 3)),none⟩,⟨some 43,.val (.load none (.t 42)),none⟩,⟨some 44,.val (.cvi .i64 (.t 43)),none⟩,⟨some 45,.call (.f 44) [(.t 41),(.t 44)],none⟩,⟨some 4,.val (.mov (.t 45)),none⟩]
def g226_9 : IL:=[⟨some 47,.val (.faddr 0 (.t 2)),none⟩,⟨some 48,.val (.load none (.t 47)),none⟩,⟨some 49,.val (.bin .num .eql (.t 48) (.c (.int .i64 6))),none⟩,⟨some 46,.val (.mov (.t 49)),none⟩]
def g226_10 : IL:=[⟨some 50,.val (.faddr 1 (.t 2)),none⟩,⟨some 51,.val (.loadv 0 2 none (.t 50)),none⟩,⟨some 52,.call (.f 270) [(.t 51)],none⟩,⟨some 53,.val (.faddr 1 (.t 3)),none⟩,⟨some 54,.val (.loadv 0 3 none (.t 53)),none⟩,⟨some 55,.call (.f 270) [(.t 54)],none⟩,⟨some 56,.call (.f 269) [(.t 52),(.t 55)],none⟩,⟨some 4,.val (.mov (.t 56)),none⟩]
def g226_11 : IL:=[⟨some 57,.val (.faddr 1 (.t 2)),none⟩,⟨some 58,.val (.load none (.t 57)),none⟩,⟨some 59,.val (.faddr 1 (.t 3)),none⟩,⟨some 60,.val (.load none (.t 59)),none⟩,⟨some 61,.call (.f 269) [(.t 58),(.t 60)],none⟩,⟨some 4,.val (.mov (.t 61)),none⟩]
def r226 : RC:=.seq (.reg g226_0) (.seq (.block 0 (.seq (.reg g226_1) (.cond (.t 5) (.seq (.reg g226_2) (.ret)) (.seq (.reg g226_3) (.cond (.t 16) (.seq (.reg g226_4) (.ret)) (.seq (.reg g226_5) (.cond (.t 21) (.seq (.reg g226_6) (.ret)) (.seq (.reg g226_7) (.cond (.t 30) (.seq (.reg g226_8) (.ret)) (.seq (.reg g226_9) (.cond (.t 46) (.seq (.draw g226_10) (.ret)) (.skip)))))))))))) (.seq (.reg g226_11) (.ret)))
def o226 : List RR:=[.tmp 4]
theorem k226 : KK 62 r226 Tryz.f226:=by decide +kernel
theorem q226 : QQ Tryz.f226 o226:=by decide +kernel
end Go.Proofs.YtelhohgmmhbahaaGreatDoor.Rc

namespace Go.Proofs.YtelhohgmmhbahaaGreatDoor.Bt
open Go

theorem wu64 (n : Int) : IntKind.u64.wrap n = n % 18446744073709551616:=by simp [IntKind.wrap,IntKind.bits,IntKind.signed]
theorem wi64 (n : Int) : IntKind.i64.wrap n = (n + 9223372036854775808) % 18446744073709551616 - 9223372036854775808:=IntKind.wrap_i64 n

end Go.Proofs.YtelhohgmmhbahaaGreatDoor.Bt

set_option linter.unusedSimpArgs false
namespace Go.Proofs.YtelhohgmmhbahaaGreatDoor.Va
open Go Am Rc Bt

def RB (v : AV) : Prop:=∃ b,v = .bool b
theorem rb (b : Bool) : RB (.bool b) = True:=eq_true ⟨b,rfl⟩
theorem RB.rf {v : AV} {l : List AV} (h : RB v) : v.rf = true ∧ (AV.rfL l = true ∨ v.nl = true):=by
 obtain ⟨b,rfl⟩:=h
 exact ⟨rfl,.inr rfl⟩

end Go.Proofs.YtelhohgmmhbahaaGreatDoor.Va

set_option linter.unusedSimpArgs false
namespace Go.Proofs.YtelhohgmmhbahaaGreatDoor.Va
open Go Am Rc Bt

def isk (k : Int) : Bool:=decide (k ≥ 1) && decide (k ≤ 9)
def txk (k : Int) : Bool:=k == 7 || k == 8
theorem x189 (k : Int) : Fn1 Tryz.prog 189 [.int .i64 k] (.bool (isk k)):=by
 refine fn1_of_awp (rc:=r189) (rs:=o189) Tryz.func189 rfl rfl Tryz.ntmps189 k189 q189 (by simp) ?_
 simp only [g189_0,g189_1,r189,o189,isk,eES,Nat.reduceBEq,↓reduceIte]
 cases h : decide (k ≥ 1) <;> simp only [Bool.true_and,Bool.false_and,eES,Nat.reduceBEq,↓reduceIte]

theorem x159 (k : Int) : Fn1 Tryz.prog 159 [.int .i64 k] (.bool (isk k)):=by
 refine fn1_of_awp (rc:=r159) (rs:=o159) Tryz.func159 rfl rfl Tryz.ntmps159 k159 q159 (by simp) ?_
 simp only [g159_0,g159_1,r159,o159,isk,eES,Nat.reduceBEq,↓reduceIte]
 cases h : decide (k ≥ 1) <;> simp only [Bool.true_and,Bool.false_and,eES,Nat.reduceBEq,↓reduceIte]

theorem x238 (k : Int) : Fn1 Tryz.prog 238 [.int .i64 k] (.bool (txk k)):=by
 refine fn1_of_awp (rc:=r238) (rs:=o238) Tryz.func238 rfl rfl Tryz.ntmps238 k238 q238 (by simp) ?_
 simp only [g238_0,g238_1,r238,o238,txk,eES,Nat.reduceBEq,↓reduceIte]
 cases h : (k == 7) <;> simp only [Bool.true_or,Bool.false_or,eES,Nat.reduceBEq,↓reduceIte]

theorem x235 (k : Int) : Fn1 Tryz.prog 235 [.int .i64 k] (.bool (txk k)):=by
 refine fn1_of_awp (rc:=r235) (rs:=o235) Tryz.func235 rfl rfl Tryz.ntmps235 k235 q235 (by simp) ?_
 simp only [g235_0,g235_1,r235,o235,txk,eES,Nat.reduceBEq,↓reduceIte]
 cases h : (k == 7) <;> simp only [Bool.true_or,Bool.false_or,eES,Nat.reduceBEq,↓reduceIte]

def oc (n : Int) (s a : List UInt8) (c k kd t u : Int) : AV:=.agg [.int .i64 n,.str s,.str a,.int .i64 c,.int .i64 k,.int .i64 kd,.int .i64 t,.int .i64 u]

section
variable (n : Int) (s a : List UInt8) (c k kd t u : Int)

end

end Go.Proofs.YtelhohgmmhbahaaGreatDoor.Va

set_option linter.unusedSimpArgs false
namespace Go.Proofs.YtelhohgmmhbahaaGreatDoor.Va
open Go Am Rc Bt

theorem wi64_s (i : Nat) (n : Nat) (h : i < n) (hn : n ≤ maxLen) : IntKind.i64.wrap ((i : Int) + 1) = ((i + 1 : Nat) : Int):=by
 simp only [maxLen] at hn
 rw [wi64]; omega

theorem lt_t {i n : Nat} (h : i < n) : decide ((i : Int) < (n : Int)) = true:=by simp; omega
theorem lt_f {i n : Nat} (h : ¬ i < n) : decide ((i : Int) < (n : Int)) = false:=by simp; omega
theorem nneg (i : Nat) : (0 ≤ (i : Int)) = True:=by simp

end Go.Proofs.YtelhohgmmhbahaaGreatDoor.Va

namespace Go.Proofs.YtelhohgmmhbahaaGreatDoor.Br
open Go Am Go.RowKit Go.WideShapes Go.ChangeShapes Go.ChangeAt Go.Joins Go.Deep Go.WideElems Go.Maps

section
variable {H : Type} {enc : TypeId × Value → H} {P : Program} {W : World} {base : Nat} {sp : Nat → Bool} {held : Bool}

end

end Go.Proofs.YtelhohgmmhbahaaGreatDoor.Br

namespace Go.Proofs.YtelhohgmmhbahaaGreatDoor.Br
open Go Am Go.RowKit Go.WideShapes Go.ChangeShapes Go.ChangeAt Go.Joins Go.Deep Go.WideElems Go.Maps

theorem flatMap_get {X α : Type} {f : X → List α} {sz : Nat} (hsz : 0 < sz) (hf : ∀ x,(f x).length = sz) : ∀ (xs : List X) (j : Nat),(xs.flatMap f)[j]? = (xs[j / sz]?).bind fun x => (f x)[j % sz]?
 | [],j => by simp
 | x :: xs,j => by
  rw [List.flatMap_cons]
  by_cases hj : j < sz
  ·rw [List.getElem?_append_left (by rw [hf]; exact hj),Nat.div_eq_of_lt hj,Nat.mod_eq_of_lt hj]; rfl
  ·obtain ⟨i,rfl⟩ : ∃ i,j = sz + i:=⟨j - sz,by omega⟩
   rw [List.getElem?_append_right (by rw [hf]; omega),hf,flatMap_get hsz hf xs,show sz + i - sz = i by omega,show (sz + i) / sz = i / sz + 1 by rw [Nat.add_div_left _ hsz],Nat.add_mod_left]
   rfl

section
variable {H : Type} {enc : TypeId × Value → H} {P : Program} {W : World}

structure El (enc : TypeId × Value → H) (P : Program) (e : TypeId) (sz : Nat) (X : Type) where
 av : X → AV
 vals : X → List Value
 dat : X → DataW H
 ok : X → Prop
 pos : 0 < sz
 len : ∀ x,(vals x).length = sz
 cells : ∀ x,(av x).cells.length = sz
 rfl' : ∀ x,AV.rfL (av x).cells = true
 leaf : ∀ x,(av x).cells.all AV.leaf = true
 rep : ∀ (G : Gh) x,RepL G (av x).cells (vals x)
 opened : ∀ {W : World} {n : Nat} {cs : List Value} {d : DataW H} {pl : List MemPlace},cs.length = sz → DataW.trod enc P W 0 (fun _ => true) true n e cs = some (d,pl) → ∃ x,ok x ∧ cs = vals x ∧ d = dat x ∧ pl = []
 shut : ∀ (W : World) (sp : Nat → Bool) x,ok x → ∃ n,DataW.trod enc P W 0 sp true n e (vals x) = some (dat x,[])

end
end Go.Proofs.YtelhohgmmhbahaaGreatDoor.Br

namespace Go.Proofs.YtelhohgmmhbahaaGreatDoor.Br
open Go Am Go.RowKit Go.WideShapes Go.ChangeShapes Go.ChangeAt Go.Joins Go.Deep Go.WideElems Go.Maps

def elemV : List AV → AV
 | [x] => x
 | l => .agg l

def consec (P : Program) : Nat → List Field → Nat → Bool
 | o,[],n => Nat.beq o n
 | o,f :: fs,n => Nat.beq f.offset o && consec P (o + P.cellsOf f.type) fs n

def plain1 (P : Program) (ts : List TypeId) (t : TypeId) : Bool :=
 match P.underlying t with
 | some (.int _) | some .bool | some .string => P.cellsOf t == 1
 | some (.struct fs) => consec P 0 fs.toList (P.cellsOf t) && fs.toList.all fun f => ts.contains f.type
 | some (.slice e) => P.cellsOf t == 1 && (decide (0 < P.cellsOf e) && decide (0 < P.bytesOf e)) && ts.contains e
 | _ => false
def plainS (P : Program) (ts : List TypeId) : Bool:=ts.all (plain1 P ts)

def Has (P : Program) (M : Nat) : Nat → TypeId → List AV → Prop
 | 0,_,_ => False
 | k + 1,t,cs => match P.underlying t with
  | some (.int ik) => ∃ n,cs = [.int ik n] ∧ (Lit.int ik n).wf = true
  | some .bool => ∃ b,cs = [.bool b]
  | some .string => ∃ s,cs = [.str s] ∧ s.length ≤ M
  | some (.struct fs) => HasL (Has P M k) fs.toList cs
  | some (.slice e) => ∃ l : List (List AV),cs = [.list (l.map elemV)] ∧ (l.length ≤ maxLen ∧ (M = reachBytes → l.length * P.bytesOf e ≤ M)) ∧ (∀ c ∈ l,Has P M k e c) ∧ l.length ≤ M
  | _ => False
where
 HasL (h : TypeId → List AV → Prop) : List Field → List AV → Prop
  | [],cs => cs = []
  | f :: fs,cs => ∃ a b,cs = a ++ b ∧ h f.type a ∧ HasL h fs b

theorem elemV_cells {l : List AV} (h : l.all AV.leaf = true) : (elemV l).cells = l:=by
 match l,h with
 | [],_ => rfl
 | [x],h => cases x <;> first | rfl | simp [AV.leaf] at h
 | _ :: _ :: _,_ => rfl

theorem repL_flatten {G : Gh} : ∀ {ls : List (List AV)} {cs : List (List Value)},ls.length = cs.length → (∀ i (h1 : i < ls.length) (h2 : i < cs.length),RepL G ls[i] cs[i]) → RepL G ls.flatten cs.flatten
 | [],[],_,_ => .nil
 | l :: ls,c :: cs,hn,h => by
  rw [List.flatten_cons,List.flatten_cons]
  exact RepL.append (h 0 (by simp) (by simp)) (repL_flatten (by simpa using hn) fun i h1 h2 => h (i + 1) (by simpa using h1) (by simpa using h2))
 | [],_ :: _,hn,_ => by simp at hn
 | _ :: _,[],hn,_ => by simp at hn

section
variable {H : Type} {enc : TypeId × Value → H} {P : Program} {W : World} {M : Nat}

theorem bulk_mem {d : DataW H} : ∀ {l : List (DataW H)},d ∈ l → Rows.uptoBulk d ≤ Rows.uptoBulkAll l
 | [],h => by cases h
 | x :: l,h => by
  rw [Rows.uptoBulkAll]
  rcases List.mem_cons.1 h with rfl | h
  ·omega
  ·have:=bulk_mem h
   omega

def Fit (P : Program) (M : Nat) (t : TypeId) (d : DataW H) : Prop:=M = maxLen ∨ (M ≠ reachBytes ∧ Rows.uptoBulk d ≤ M) ∨ (d.weights P t).all (· ≤ M) = true

theorem weights_at {t : TypeId} {d : DataW H} : ∀ {ts : List TypeId} {ds : List (DataW H)} (i : Nat),(DataW.weightsEach P ts ds).all (· ≤ M) = true → ts[i]? = some t → ds[i]? = some d → (d.weights P t).all (· ≤ M) = true
 | [],_,_,_,h,_ => by simp at h
 | _ :: _,[],_,_,_,h => by simp at h
 | t' :: ts,d' :: ds,0,h,h1,h2 => by
  rw [DataW.weightsEach,List.all_append,Bool.and_eq_true] at h
  cases h1; cases h2
  exact h.1
 | t' :: ts,d' :: ds,i + 1,h,h1,h2 => by
  rw [DataW.weightsEach,List.all_append,Bool.and_eq_true] at h
  exact weights_at i h.2 (by simpa using h1) (by simpa using h2)

theorem weightsAll_mem {e : TypeId} {d : DataW H} : ∀ {ds : List (DataW H)},(DataW.weightsAll P e ds).all (· ≤ M) = true → d ∈ ds → (d.weights P e).all (· ≤ M) = true
 | [],_,h => by cases h
 | d' :: ds,h,hd => by
  rw [DataW.weightsAll,List.all_append,Bool.and_eq_true] at h
  rcases List.mem_cons.1 hd with rfl | hd
  ·exact h.1
  ·exact weightsAll_mem h.2 hd

def Opn (W : World) (h : List AV → Prop) (n : Nat) (cs : List Value) : Prop :=
 ∃ avs,h avs ∧ RepL (Gh.bare fun b o => sv W b o) avs cs ∧ avs.length = n ∧ AV.rfL avs = true ∧ avs.all AV.leaf = true

theorem open_fields {h : TypeId → List AV → Prop} {cs : List Value} : ∀ (fs : List Field) (o : Nat),consec P o fs cs.length = true → (∀ f ∈ fs,Opn W (h f.type) (P.cellsOf f.type) ((cs.drop f.offset).take (P.cellsOf f.type))) →
  Opn W (Has.HasL h fs) (cs.length - o) (cs.drop o)
 | [],o,hc,_ => by
  have e : o = cs.length:=Nat.eq_of_beq_eq_true hc
  refine ⟨[],rfl,?_,by simp [e],rfl,rfl⟩
  rw [e,List.drop_length]
  exact .nil
 | f :: fs,o,hc,hf => by
  simp only [consec,Bool.and_eq_true] at hc
  have eo : f.offset = o:=Nat.eq_of_beq_eq_true hc.1
  obtain ⟨a,a1,a2,a3,a4,a5⟩:=hf f (by simp)
  obtain ⟨b,b1,b2,b3,b4,b5⟩:=open_fields fs _ hc.2 fun g hg => hf g (by simp [hg])
  rw [eo] at a2
  refine ⟨a ++ b,⟨a,b,rfl,a1,b1⟩,?_,?_,by rw [rfL_append,a4,b4] <;> rfl,by rw [List.all_append,a5,b5] <;> rfl⟩
  ·have:=RepL.append a2 b2
   rwa [← List.drop_drop,List.take_append_drop] at this
  ·have hlen : a.length = ((cs.drop o).take (P.cellsOf f.type)).length:=(RepL.length a2).symm
   rw [List.length_append,a3,b3]
   rw [a3,List.length_take,List.length_drop] at hlen
   omega

theorem open_deep {ts : List TypeId} (hP : plainS P ts = true) : ∀ (k : Nat) (t : TypeId) (cs : List Value) (d : DataW H) (pl : List MemPlace),ts.contains t = true → DataW.trod enc P W 0 (fun _ => true) true k t cs = some (d,pl) → Fit P M t d →
  Opn W (Has P M k t) (P.cellsOf t) cs
 | 0,_,_,_,_,_,h,_ => by simp [DataW.trod] at h
 | k + 1,t,cs,d,pl,ht,h,hb => by
  have hp:=List.all_eq_true.1 hP t (by simpa using ht)
  unfold plain1 at hp
  split at hp
  ·rename_i ik hu
   obtain ⟨v,rfl,_,hw⟩:=DataW.trod_int hu h
   refine ⟨[.int ik v],?_,.cons (.int ik v) .nil,by rw [beq_iff_eq] at hp; simp [hp],rfl,rfl⟩
   simp only [Has,hu]
   exact ⟨v,rfl,hw⟩
  ·rename_i hu
   obtain ⟨b,rfl,_⟩:=DataW.trod_bool hu h
   refine ⟨[.bool b],?_,.cons (.bool b) .nil,by rw [beq_iff_eq] at hp; simp [hp],rfl,rfl⟩
   simp only [Has,hu]
   exact ⟨b,rfl⟩
  ·rename_i hu
   obtain ⟨⟨⟨s⟩⟩,rfl,e,hw⟩:=DataW.trod_string hu h
   have hw : s.length ≤ M:=by
    cases e
    rcases hb with rfl | hb | hb
    ·exact hw
    ·replace hb:=hb.2
     rw [Rows.uptoBulk] at hb
     exact Nat.le_trans (Nat.le_succ _) hb
    ·rw [DataW.weights] at hb
     simpa using hb
   refine ⟨[.str s],?_,.cons (.str s) .nil,by rw [beq_iff_eq] at hp; simp [hp],rfl,rfl⟩
   simp only [Has,hu]
   exact ⟨s,rfl,hw⟩
  ·rename_i fs hu
   simp only [Bool.and_eq_true,List.all_eq_true] at hp
   obtain ⟨xs,n',hk,e,hlen,hxl,hx⟩:=DataW.trod_struct hu h
   obtain rfl : k = n':=by omega
   have hbx : ∀ (i : Nat) x (f : Field),xs[i]? = some x → fs[i]? = some f → Fit P M f.type x.1:=fun i x f hx hf => by
    cases e
    refine hb.imp id fun hb => hb.imp (fun hb => ⟨hb.1,?_⟩) fun hb => ?_
    ·replace hb:=hb.2
     rw [Rows.uptoBulk] at hb
     have:=bulk_mem (l:=xs.map (·.1)) (List.mem_map.2 ⟨x,List.mem_of_getElem? hx,rfl⟩)
     omega
    ·rw [DataW.weights,hu] at hb
     exact weights_at i hb (by simp [hf]) (by simp [hx])
   have:=open_fields (W:=W) (h:=Has P M k) (cs:=cs) fs.toList 0 (by rw [hlen]; exact hp.1) (fun f hf => by
    obtain ⟨i,hi⟩:=List.mem_iff_getElem?.1 hf
    have hi' : fs[i]? = some f:=by simpa using hi
    have hlt : i < fs.size:=by
     have:=List.getElem?_eq_some_iff.1 hi
     simpa using this.1
    have h2:=hx i f hi'
    rw [List.getElem?_eq_getElem (by omega)] at h2
    exact open_deep hP k f.type _ _ _ (hp.2 f hf) h2 (hbx i _ f (List.getElem?_eq_getElem (by omega)) hi'))
   rw [List.drop_zero,Nat.sub_zero,hlen] at this
   obtain ⟨avs,h1,h2⟩:=this
   refine ⟨avs,?_,h2⟩
   simp only [Has,hu]
   exact h1
  ·rename_i e hu
   simp only [Bool.and_eq_true,decide_eq_true_eq,beq_iff_eq] at hp
   obtain ⟨⟨h1,h0,hby⟩,hpe⟩:=hp
   rcases DataW.trod_slice hu h with ⟨rfl,_⟩ | ⟨a,len,cap,elems,rest,n',hk,rfl,e0,_,hl,hm,hln0,hel,_⟩
   ·refine ⟨[.list []],?_,.cons (.list (cs:=[]) (sz:=0) .nil (by simp) rfl rfl (by simp) rfl (Nat.zero_le _) (Nat.zero_le _)) .nil,by simp [h1],rfl,rfl⟩
    simp only [Has,hu]
    exact ⟨[],rfl,⟨Nat.zero_le _,fun _ => by simp⟩,by simp,Nat.zero_le _⟩
   ·obtain rfl : k = n':=by omega
    have hbx : ∀ x ∈ elems,Fit P M e x.1:=fun x hx => by
     cases e0
     refine hb.imp id fun hb => hb.imp (fun hb => ⟨hb.1,?_⟩) fun hb => ?_
     ·replace hb:=hb.2
      rw [Rows.uptoBulk] at hb
      have:=bulk_mem (l:=elems.map (·.1)) (List.mem_map.2 ⟨x,hx,rfl⟩)
      omega
     ·rw [DataW.weights,hu,List.all_cons,List.all_append,Bool.and_eq_true,Bool.and_eq_true] at hb
      exact weightsAll_mem hb.2.1 (List.mem_map.2 ⟨x,hx,rfl⟩)
    have hlenM : len ≤ M:=by
     cases e0
     rcases hb with rfl | hb | hb
     ·omega
     ·have key : ∀ l : List (DataW H),l.length ≤ Rows.uptoBulkAll l:=by
       intro l
       induction l with
       | nil => simp
       | cons x l ih =>
        have : 1 ≤ Rows.uptoBulk x:=by unfold Rows.uptoBulk; split <;> omega
        rw [Rows.uptoBulkAll,List.length_cons]
        omega
      replace hb:=hb.2
      rw [Rows.uptoBulk] at hb
      have:=key (elems.map (·.1))
      rw [List.length_map] at this
      omega
     ·rw [DataW.weights,hu,List.all_cons,Bool.and_eq_true] at hb
      have h5:=hb.1
      simp only [decide_eq_true_eq,List.length_map] at h5
      have h6 : elems.length * 1 ≤ (elems.length + rest.length) * P.bytesOf e:=Nat.mul_le_mul (Nat.le_add_right _ _) hby
      omega
    have hlenB : M = reachBytes → len * P.bytesOf e ≤ M:=fun hM => by
     cases e0
     rcases hb with rfl | hb | hb
     ·exact absurd hM (by unfold maxLen reachBytes; omega)
     ·exact absurd hM hb.1
     ·rw [DataW.weights,hu,List.all_cons,Bool.and_eq_true] at hb
      have h5:=hb.1
      simp only [decide_eq_true_eq,List.length_map] at h5
      have h6 : elems.length * P.bytesOf e ≤ (elems.length + rest.length) * P.bytesOf e:=Nat.mul_le_mul (Nat.le_add_right _ _) (Nat.le_refl _)
      have h7 : len * P.bytesOf e = elems.length * P.bytesOf e:=by rw [show len = elems.length by omega]
      omega
    haveI : Inhabited ({c : List Value // c.length = P.cellsOf e} × List AV):=⟨(⟨List.replicate (P.cellsOf e) (.bool false),by simp⟩,[])⟩
    obtain ⟨F,hF⟩:=choose_lt (α:={c : List Value // c.length = P.cellsOf e} × List AV) (n:=len) (p:=fun i x => W.cells? 0 (a.add (i * P.cellsOf e)) (P.cellsOf e) = some x.1.1 ∧ Has P M k e x.2 ∧ RepL (Gh.bare fun b o => sv W b o) x.2 x.1.1 ∧ x.2.length = P.cellsOf e ∧ AV.rfL x.2 = true ∧ x.2.all AV.leaf = true) (fun i hi => by
     have hb:=hel i hi
     rw [List.getElem?_eq_getElem (by omega)] at hb
     obtain ⟨cs',c1,c2⟩:=Option.bind_eq_some_iff.1 hb
     obtain ⟨_,hln,_⟩:=World.cells?_some c1
     obtain ⟨avs,o1,o2,o3,o4,o5⟩:=open_deep hP k e cs' _ _ hpe c2 (hbx _ (List.getElem_mem _))
     exact ⟨(⟨cs',hln⟩,avs),c1,o1,o2,o3,o4,o5⟩)
    have cellAt : ∀ i j,i < len → j < P.cellsOf e → W.cell? (a.add (i * P.cellsOf e + j)) = (F i).1.1[j]?:=by
     intro i j hi hj
     obtain ⟨_,_,h3⟩:=World.cells?_some (hF i hi).1
     rw [← h3 j hj,add_add]
    have hspot : 0 < len → a.spot = none:=by
     intro hc
     have:=cellAt 0 0 hc h0
     rw [Nat.zero_mul,show a.add (0 + 0) = a from rfl,List.getElem?_eq_getElem (by rw [(F 0).1.2]; exact h0)] at this
     unfold World.cell? at this
     split at this
     ·split at this
      ·cases this
      ·rename_i h; simpa using h
     ·cases this
    have hel' : ∀ c ∈ (List.range len).map (fun i => (F i).2),∃ i,i < len ∧ c = (F i).2:=by
     intro c hc
     obtain ⟨i,hi,rfl⟩:=List.mem_map.1 hc
     exact ⟨i,List.mem_range.1 hi,rfl⟩
    have hflat : ∀ L : List (List AV),(∀ c ∈ L,c.all AV.leaf = true) → flat (L.map elemV) = L.flatten:=by
     intro L
     induction L with
     | nil => intro _; rfl
     | cons c L ih =>
      intro hh
      show (elemV c).cells ++ flat (L.map elemV) = c ++ L.flatten
      rw [elemV_cells (hh c (by simp)),ih fun x hx => hh x (by simp [hx])]
    have hrf : ∀ L : List (List AV),(∀ c ∈ L,AV.rfL c = true) → AV.rfL L.flatten = true:=by
     intro L
     induction L with
     | nil => intro _; rfl
     | cons c L ih =>
      intro hh
      rw [List.flatten_cons,rfL_append,hh c (by simp),ih fun x hx => hh x (by simp [hx])] <;> rfl
    have hlf : ∀ L : List (List AV),(∀ c ∈ L,c.all AV.leaf = true) → L.flatten.all AV.leaf = true:=by
     intro L
     induction L with
     | nil => intro _; rfl
     | cons c L ih =>
      intro hh
      rw [List.flatten_cons,List.all_append,hh c (by simp),ih fun x hx => hh x (by simp [hx])] <;> rfl
    have hl1 : ∀ c ∈ (List.range len).map (fun i => (F i).2),c.all AV.leaf = true:=fun c hc => by
     obtain ⟨i,hi,rfl⟩:=hel' c hc
     exact (hF i hi).2.2.2.2.2
    have hl2 : ∀ c ∈ (List.range len).map (fun i => (F i).2),AV.rfL c = true:=fun c hc => by
     obtain ⟨i,hi,rfl⟩:=hel' c hc
     exact (hF i hi).2.2.2.2.1
    refine ⟨[.list (((List.range len).map fun i => (F i).2).map elemV)],?_,.cons (.list (cs:=((List.range len).map fun i => (F i).1.1).flatten) (sz:=P.cellsOf e) ?_ ?_ ?_ ?_ ?_ (by simp) hl (by omega)) .nil,by simp [h1],rfl,rfl⟩
    ·simp only [Has,hu]
     refine ⟨_,rfl,⟨by simp; omega,fun hM => by simpa using hlenB hM⟩,?_,by simpa using hlenM⟩
     intro c hc
     obtain ⟨i,hi,rfl⟩:=hel' c hc
     exact (hF i hi).2.1
    ·rw [hflat _ hl1]
     refine repL_flatten (by simp) fun i g1 g2 => ?_
     simp only [List.length_map,List.length_range] at g1
     simp only [List.getElem_map,List.getElem_range]
     exact (hF i (by omega)).2.2.1
    ·intro x hx
     obtain ⟨c,hc,rfl⟩:=List.mem_map.1 hx
     rw [elemV_cells (hl1 c hc)]
     obtain ⟨i,hi,rfl⟩:=hel' c hc
     exact (hF i hi).2.2.2.1
    ·rw [hflat _ hl1]; exact hrf _ hl2
    ·rw [hflat _ hl1]; exact hlf _ hl1
    ·intro j u hj
     rw [← List.flatMap_def,flatMap_get h0 (fun i => (F i).1.2)] at hj
     by_cases hi : j / P.cellsOf e < len
     ·rw [List.getElem?_range hi] at hj
      have hj : (F (j / P.cellsOf e)).1.1[j % P.cellsOf e]? = some u:=hj
      have hk:=cellAt (j / P.cellsOf e) (j % P.cellsOf e) (by omega) (Nat.mod_lt _ h0)
      rw [hj,Nat.div_add_mod'] at hk
      have hs:=hspot (Nat.lt_of_le_of_lt (Nat.zero_le _) hi)
      obtain ⟨b,o,s⟩:=a
      subst hs
      refine ⟨b,o,rfl,?_⟩
      refine sv_cell ?_
      show W.cell? ⟨b,o + j,none⟩ = some u
      rw [← hk]
      unfold Addr.add
      split
      ·rename_i h; rw [h]; rfl
      ·rfl
     ·rw [List.getElem?_eq_none (by simp; omega)] at hj
      cases hj
  ·cases hp

theorem deep_stays {t : TypeId} {v : Value} {d : DataW H} {p : List MemPlace} (hl : laidOutB P = true) (hr : P.readableRec t = true) (hrow : t < P.types.size) (h : DataW.Trod enc P W 0 (fun _ => true) true t v d p) :
  ∀ (W' : World) (sp : Nat → Bool),Below W.heap.size W W' → (∀ q ∈ p,sp q.block = true) → DataW.Trod enc P W' 0 sp true t v d p:=by
 intro W' sp hb hs
 obtain ⟨n,hn⟩:=h
 exact Trod_stays hl hr hrow ⟨n,hn⟩ (fun x hx => hb.same (DataW.trod_lt n _ _ _ hn x hx)) hs

theorem open_struct {t : TypeId} {fs : Array Field} {ts : List TypeId} {r : Reach} {b0 : Nat} {v : Value} {d : DataW H} {p : List MemPlace} (hP : plainS P ts = true) (ht : ts.contains t = true) (hs : P.underlying t = some (.struct fs)) (hv : Value.okWide P W r b0 t v)
  (h : DataW.Trod enc P W 0 (fun _ => true) true t v d p) (hb : Fit P M t d) : ∃ k avs,Has P M k t avs ∧ Rep (Gh.bare fun b o => sv W b o) (.agg avs) v:=by
 obtain ⟨⟨cs⟩,rfl,_⟩:=okWide_struct hs hv
 obtain ⟨n,hn⟩:=h
 obtain ⟨avs,h1,h2,_⟩:=open_deep hP n t _ _ _ ht hn hb
 exact ⟨n,avs,h1,.agg h2⟩

theorem list_of {X : Type} {f : X → List AV} {ok : X → Prop} : ∀ {l : List (List AV)},(∀ c ∈ l,∃ x,ok x ∧ c = f x) → ∃ xs : List X,l = xs.map f ∧ ∀ x ∈ xs,ok x
 | [],_ => ⟨[],rfl,by simp⟩
 | c :: l,h => by
  obtain ⟨x,hx,rfl⟩:=h c (by simp)
  obtain ⟨xs,rfl,hxs⟩:=list_of (l:=l) fun c hc => h c (by simp [hc])
  exact ⟨x :: xs,rfl,by simpa using ⟨hx,hxs⟩⟩

end

end Go.Proofs.YtelhohgmmhbahaaGreatDoor.Br

namespace Go.Proofs.YtelhohgmmhbahaaGreatDoor.Br
open Go Am

section
variable {P : Program} {M k : Nat} {t : TypeId} {cs : List AV}

theorem has_int {ik : IntKind} (hu : P.underlying t = some (.int ik)) (h : Has P M k t cs) : ∃ n,cs = [.int ik n] ∧ (Lit.int ik n).wf = true:=by
 cases k with
 | zero => cases h
 | succ k => simpa only [Has,hu] using h

theorem has_bool (hu : P.underlying t = some .bool) (h : Has P M k t cs) : ∃ b,cs = [.bool b]:=by
 cases k with
 | zero => cases h
 | succ k => simpa only [Has,hu] using h

theorem has_str (hu : P.underlying t = some .string) (h : Has P M k t cs) : ∃ s,cs = [.str s] ∧ s.length ≤ M:=by
 cases k with
 | zero => cases h
 | succ k => simpa only [Has,hu] using h

theorem has_slice {e : TypeId} (hu : P.underlying t = some (.slice e)) (h : Has P M k t cs) : ∃ (k' : Nat) (l : List (List AV)),cs = [.list (l.map elemV)] ∧ l.length ≤ maxLen ∧ ∀ c ∈ l,Has P M k' e c:=by
 cases k with
 | zero => cases h
 | succ k =>
  simp only [Has,hu] at h
  obtain ⟨l,h1,h2,h3,_⟩:=h
  exact ⟨k,l,h1,h2.1,h3⟩

theorem has_sliceM {e : TypeId} (hu : P.underlying t = some (.slice e)) (h : Has P M k t cs) : ∃ (k' : Nat) (l : List (List AV)),cs = [.list (l.map elemV)] ∧ l.length ≤ M ∧ ∀ c ∈ l,Has P M k' e c:=by
 cases k with
 | zero => cases h
 | succ k =>
  simp only [Has,hu] at h
  obtain ⟨l,h1,_,h3,h4⟩:=h
  exact ⟨k,l,h1,h4,h3⟩

theorem has_struct {fs : Array Field} (hu : P.underlying t = some (.struct fs)) (h : Has P M k t cs) : ∃ k',Has.HasL (Has P M k') fs.toList cs:=by
 cases k with
 | zero => cases h
 | succ k =>
  simp only [Has,hu] at h
  exact ⟨k,h⟩

end

structure PO where
 num : Int
 name : List UInt8
 alias : List UInt8
 card : Int
 key : Int
 kind : Int
 target : Int
 union : Int

def PO.cells (o : PO) : List AV:=[.int .i64 o.num,.str o.name,.str o.alias,.int .i64 o.card,.int .i64 o.key,.int .i64 o.kind,.int .i64 o.target,.int .i64 o.union]

structure PO.ok (M : Nat) (o : PO) : Prop where
 num : (Lit.int .i64 o.num).wf = true
 name : o.name.length ≤ M
 alias : o.alias.length ≤ M
 card : (Lit.int .i64 o.card).wf = true
 key : (Lit.int .i64 o.key).wf = true
 kind : (Lit.int .i64 o.kind).wf = true
 target : (Lit.int .i64 o.target).wf = true
 union : (Lit.int .i64 o.union).wf = true

theorem has_op {M k : Nat} {cs : List AV} (h : Has Tryz.prog M k 68 cs) : ∃ o : PO,o.ok M ∧ cs = o.cells:=by
 obtain ⟨k,h⟩:=has_struct Tryz.underlying68 h
 simp only [Has.HasL] at h
 obtain ⟨_,_,rfl,h0,_,_,rfl,h1,_,_,rfl,h2,_,_,rfl,h3,_,_,rfl,h4,_,_,rfl,h5,_,_,rfl,h6,_,_,rfl,h7,rfl⟩:=h
 obtain ⟨a0,rfl,w0⟩:=has_int Tryz.underlying3 h0
 obtain ⟨a1,rfl,w1⟩:=has_str Tryz.underlying9 h1
 obtain ⟨a2,rfl,w2⟩:=has_str Tryz.underlying9 h2
 obtain ⟨a3,rfl,w3⟩:=has_int Tryz.underlying3 h3
 obtain ⟨a4,rfl,w4⟩:=has_int Tryz.underlying3 h4
 obtain ⟨a5,rfl,w5⟩:=has_int Tryz.underlying3 h5
 obtain ⟨a6,rfl,w6⟩:=has_int Tryz.underlying3 h6
 obtain ⟨a7,rfl,w7⟩:=has_int Tryz.underlying3 h7
 exact ⟨⟨a0,a1,a2,a3,a4,a5,a6,a7⟩,⟨w0,w1,w2,w3,w4,w5,w6,w7⟩,rfl⟩

structure PG where
 name : List UInt8
 ops : List PO
 unions : Int

def PG.cells (g : PG) : List AV:=[.str g.name,.list (g.ops.map fun o => .agg o.cells),.int .i64 g.unions]

structure PG.ok (M : Nat) (g : PG) : Prop where
 name : g.name.length ≤ M
 len : g.ops.length ≤ maxLen
 ops : ∀ o ∈ g.ops,o.ok M
 unions : (Lit.int .i64 g.unions).wf = true

theorem has_prog {M k : Nat} {cs : List AV} (h : Has Tryz.prog M k 48 cs) : ∃ g : PG,g.ok M ∧ cs = g.cells:=by
 obtain ⟨k,h⟩:=has_struct Tryz.underlying48 h
 simp only [Has.HasL] at h
 obtain ⟨_,_,rfl,h0,_,_,rfl,h1,_,_,rfl,h2,rfl⟩:=h
 obtain ⟨a0,rfl,w0⟩:=has_str Tryz.underlying9 h0
 obtain ⟨k',l,rfl,w1,hl⟩:=has_slice Tryz.underlying46 h1
 obtain ⟨a2,rfl,w2⟩:=has_int Tryz.underlying3 h2
 obtain ⟨ops,rfl,hok⟩:=list_of (f:=PO.cells) (ok:=PO.ok M) fun c hc => has_op (hl c hc)
 refine ⟨⟨a0,ops,a2⟩,⟨w0,by simpa using w1,hok,w2⟩,?_⟩
 simp only [PG.cells,List.map_map,List.cons_append,List.nil_append]
 rfl

structure PS where
 lo : Int
 hi : Int

def PS.cells (x : PS) : List AV:=[.int .i64 x.lo,.int .i64 x.hi]
def PS.ok (x : PS) : Prop:=(Lit.int .i64 x.lo).wf = true ∧ (Lit.int .i64 x.hi).wf = true

theorem has_span {M k : Nat} {cs : List AV} (h : Has Tryz.prog M k 129 cs) : ∃ x : PS,x.ok ∧ cs = x.cells:=by
 obtain ⟨k,h⟩:=has_struct Tryz.underlying129 h
 simp only [Has.HasL] at h
 obtain ⟨_,_,rfl,h0,_,_,rfl,h1,rfl⟩:=h
 obtain ⟨a0,rfl,w0⟩:=has_int Tryz.underlying3 h0
 obtain ⟨a1,rfl,w1⟩:=has_int Tryz.underlying3 h1
 exact ⟨⟨a0,a1⟩,⟨w0,w1⟩,rfl⟩

structure PN where
 name : List UInt8
 val : List AV

def PN.cells (x : PN) : List AV:=.str x.name :: x.val
def PN.ok (P : Program) (M : Nat) (t : TypeId) (x : PN) : Prop:=x.name.length ≤ M ∧ ∃ k,Has P M k t x.val

theorem has_note {M k : Nat} {cs : List AV} (h : Has Tryz.prog M k 123 cs) : ∃ x : PN,x.ok Tryz.prog M 32 ∧ cs = x.cells:=by
 obtain ⟨k,h⟩:=has_struct Tryz.underlying123 h
 simp only [Has.HasL] at h
 obtain ⟨_,_,rfl,h0,a1,_,rfl,h1,rfl⟩:=h
 obtain ⟨a0,rfl,w0⟩:=has_str Tryz.underlying9 h0
 exact ⟨⟨a0,a1⟩,⟨w0,k,h1⟩,by simp [PN.cells]⟩

structure PI where
 name : List UInt8
 num : Int
 notes : List PN

def PI.cells (x : PI) : List AV:=[.str x.name,.int .i64 x.num,.list (x.notes.map fun n => elemV n.cells)]

structure PI.ok (M : Nat) (x : PI) : Prop where
 name : x.name.length ≤ M
 num : (Lit.int .i64 x.num).wf = true
 len : x.notes.length ≤ maxLen
 notes : ∀ n ∈ x.notes,n.ok Tryz.prog M 32

theorem has_item {M k : Nat} {cs : List AV} (h : Has Tryz.prog M k 107 cs) : ∃ x : PI,x.ok M ∧ cs = x.cells:=by
 obtain ⟨k,h⟩:=has_struct Tryz.underlying107 h
 simp only [Has.HasL] at h
 obtain ⟨_,_,rfl,h0,_,_,rfl,h1,_,_,rfl,h2,rfl⟩:=h
 obtain ⟨a0,rfl,w0⟩:=has_str Tryz.underlying9 h0
 obtain ⟨a1,rfl,w1⟩:=has_int Tryz.underlying3 h1
 obtain ⟨k',l,rfl,w2,hl⟩:=has_slice Tryz.underlying52 h2
 obtain ⟨ns,rfl,hok⟩:=list_of (f:=PN.cells) (ok:=PN.ok Tryz.prog M 32) fun c hc => has_note (hl c hc)
 refine ⟨⟨a0,a1,ns⟩,⟨w0,w1,by simpa using w2,hok⟩,?_⟩
 simp only [PI.cells,List.map_map,List.cons_append,List.nil_append]
 rfl

structure PE where
 name : List UInt8
 opn : Bool
 items : List PI
 free : List PS
 notes : List PN

def PE.cells (x : PE) : List AV:=[.str x.name,.bool x.opn,.list (x.items.map fun n => .agg n.cells),.list (x.free.map fun n => .agg n.cells),.list (x.notes.map fun n => elemV n.cells)]

structure PE.ok (M : Nat) (x : PE) : Prop where
 name : x.name.length ≤ M
 len1 : x.items.length ≤ maxLen
 items : ∀ n ∈ x.items,n.ok M
 len2 : x.free.length ≤ maxLen
 free : ∀ n ∈ x.free,n.ok
 len3 : x.notes.length ≤ maxLen
 notes : ∀ n ∈ x.notes,n.ok Tryz.prog M 32

theorem has_enum {M k : Nat} {cs : List AV} (h : Has Tryz.prog M k 71 cs) : ∃ x : PE,x.ok M ∧ cs = x.cells:=by
 obtain ⟨k,h⟩:=has_struct Tryz.underlying71 h
 simp only [Has.HasL] at h
 obtain ⟨_,_,rfl,h0,_,_,rfl,h1,_,_,rfl,h2,_,_,rfl,h3,_,_,rfl,h4,rfl⟩:=h
 obtain ⟨a0,rfl,w0⟩:=has_str Tryz.underlying9 h0
 obtain ⟨a1,rfl⟩:=has_bool Tryz.underlying4 h1
 obtain ⟨k2,l2,rfl,w2,hl2⟩:=has_slice Tryz.underlying69 h2
 obtain ⟨k3,l3,rfl,w3,hl3⟩:=has_slice Tryz.underlying58 h3
 obtain ⟨k4,l4,rfl,w4,hl4⟩:=has_slice Tryz.underlying52 h4
 obtain ⟨x2,rfl,o2⟩:=list_of (f:=PI.cells) (ok:=PI.ok M) fun c hc => has_item (hl2 c hc)
 obtain ⟨x3,rfl,o3⟩:=list_of (f:=PS.cells) (ok:=PS.ok) fun c hc => has_span (hl3 c hc)
 obtain ⟨x4,rfl,o4⟩:=list_of (f:=PN.cells) (ok:=PN.ok Tryz.prog M 32) fun c hc => has_note (hl4 c hc)
 refine ⟨⟨a0,a1,x2,x3,x4⟩,⟨w0,by simpa using w2,o2,by simpa using w3,o3,by simpa using w4,o4⟩,?_⟩
 simp only [PE.cells,List.map_map,List.cons_append,List.nil_append]
 rfl

structure PL where
 progs : List PG
 enums : List PE

def PL.av (p : PL) : AV:=.agg [.list (p.progs.map fun n => .agg n.cells),.list (p.enums.map fun n => .agg n.cells)]

structure PL.ok (M : Nat) (x : PL) : Prop where
 len1 : x.progs.length ≤ maxLen
 progs : ∀ n ∈ x.progs,n.ok M
 len2 : x.enums.length ≤ maxLen
 enums : ∀ n ∈ x.enums,n.ok M

theorem has_plan {M k : Nat} {cs : List AV} (h : Has Tryz.prog M k 25 cs) : ∃ x : PL,x.ok M ∧ .agg cs = x.av:=by
 obtain ⟨k,h⟩:=has_struct Tryz.underlying25 h
 simp only [Has.HasL] at h
 obtain ⟨_,_,rfl,h0,_,_,rfl,h1,rfl⟩:=h
 obtain ⟨k2,l2,rfl,w2,hl2⟩:=has_slice Tryz.underlying22 h0
 obtain ⟨k3,l3,rfl,w3,hl3⟩:=has_slice Tryz.underlying23 h1
 obtain ⟨x2,rfl,o2⟩:=list_of (f:=PG.cells) (ok:=PG.ok M) fun c hc => has_prog (hl2 c hc)
 obtain ⟨x3,rfl,o3⟩:=list_of (f:=PE.cells) (ok:=PE.ok M) fun c hc => has_enum (hl3 c hc)
 refine ⟨⟨x2,x3⟩,⟨by simpa using w2,o2,by simpa using w3,o3⟩,?_⟩
 simp only [PL.av,List.map_map,List.cons_append,List.nil_append]
 rfl

end Go.Proofs.YtelhohgmmhbahaaGreatDoor.Br

set_option linter.unusedSimpArgs false
namespace Go.Proofs.YtelhohgmmhbahaaGreatDoor.Va
open Go Am Rc Bt Br

def fxi {α : Type} (p : α → Bool) : List α → Nat → Int
 | [],_ => -1
 | x :: l,i => if p x = true then (i : Int) else fxi p l (i + 1)

theorem fxi_spec {α : Type} (p : α → Bool) : ∀ (l : List α) (i : Nat),(fxi p l i = -1 ∧ l.find? p = none) ∨ ∃ k o,fxi p l i = ((i + k : Nat) : Int) ∧ l[k]? = some o ∧ l.find? p = some o
 | [],_ => .inl ⟨rfl,rfl⟩
 | x :: l,i => by
  unfold fxi
  rw [List.find?_cons]
  cases h : p x with
  | true => exact .inr ⟨0,x,by simp,rfl,rfl⟩
  | false =>
   simp only [Bool.false_eq_true,if_false]
   rcases fxi_spec p l (i + 1) with h' | ⟨k,o,h1,h2,h3⟩
   ·exact .inl h'
   ·exact .inr ⟨k + 1,o,by rw [h1]; congr 1; omega,by simpa using h2,h3⟩

theorem fxi_drop {α : Type} (p : α → Bool) {l : List α} {i : Nat} {x : α} (hx : l[i]? = some x) : fxi p (l.drop i) i = if p x = true then (i : Int) else fxi p (l.drop (i + 1)) (i + 1):=by
 have hlt : i < l.length:=(List.getElem?_eq_some_iff.1 hx).1
 rw [List.drop_eq_getElem_cons hlt,show l[i] = x from (List.getElem?_eq_some_iff.1 hx).2]
 rfl

def oav (o : PO) : AV:=.agg o.cells
def gav (g : PG) : AV:=.agg g.cells
def iav (x : PI) : AV:=.agg x.cells
def eav (x : PE) : AV:=.agg x.cells

section ops
variable (L : List PO) (hl : L.length ≤ maxLen) (p : PO → Bool) (c : Nat) (cap : AV) (m : Mem)

def IxO (k : Nat) (st : St) : Prop :=
 ∃ f i,st = ⟨f,noObs :: m,[]⟩ ∧ k = L.length - i ∧ fxi p L 0 = fxi p (L.drop i) i ∧ f 0 = .list (L.map oav) ∧ f 1 = .fn (.func c) [] [cap.sh] ∧ f 7 = .int .i64 (L.length : Nat) ∧ f 8 = .int .i64 (i : Nat)

include hl in
theorem y172 (hc : ∀ o ∈ L,ACalls Tryz.prog c [oav o,cap.sh] (noObs :: m) fun y m1 => y = .bool (p o) ∧ m1 = noObs :: m) :
  ACalls Tryz.prog 172 [.list (L.map oav),.fn (.func c) [] [cap]] m fun y m1 => y = .int .i64 (fxi p L 0) ∧ m1 = m:=by
 refine acalls_of_awp (rc:=r172) (rs:=o172) Tryz.func172 rfl rfl Tryz.ntmps172 k172 q172 (by simp) ?_
 simp only [g172_0,g172_1,g172_7,r172,o172,List.length_map,eES,Nat.reduceBEq]
 refine awp_loop (IxO L p c cap m) _ ⟨_,0,rfl,rfl,rfl,(by first | rfl | simp only [eES,eEX,Nat.reduceBEq,↓reduceIte,reduceCtorEq,Nat.reduceEqDiff]),(by first | rfl | simp only [eES,eEX,Nat.reduceBEq,↓reduceIte,reduceCtorEq,Nat.reduceEqDiff]),(by first | rfl | simp only [eES,eEX,Nat.reduceBEq,↓reduceIte,reduceCtorEq,Nat.reduceEqDiff]),(by first | rfl | simp only [eES,eEX,Nat.reduceBEq,↓reduceIte,reduceCtorEq,Nat.reduceEqDiff])⟩ ?_
 rintro _ st ⟨f,i,rfl,rfl,hx,h0,h1,h7,h8⟩
 simp only [l172_0,g172_2,g172_3,g172_4,g172_5,g172_6,h7,h8,eES,Nat.reduceBEq,↓reduceIte]
 by_cases hlt : i < L.length
 ·obtain ⟨x,hi⟩ : ∃ x,L[i]? = some x:=⟨L[i],List.getElem?_eq_getElem hlt⟩
  have hcl:=hc x (List.mem_of_getElem? hi)
  have hg : (L.map oav)[i]? = some (oav x):=by simp [hi]
  have e1:=wi64_s i _ hlt hl
  simp only [oav,PO.cells] at hcl
  simp only [lt_t hlt,nneg,Int.toNat_natCast,aiaddr,hg,oav,PO.cells,h0,h1,h8,eES,eEX,Nat.reduceBEq,↓reduceIte,Nat.reduceAdd,Nat.reduceLeDiff]
  refine aops_callV (fa:=[]) (fb:=[cap.sh]) (by first | rfl | exact h1 | simp only [h1,eES,eEX,Nat.reduceBEq,↓reduceIte,reduceCtorEq,Nat.reduceEqDiff]) hcl (by simp only [List.map_cons,List.map_nil,List.nil_append,List.cons_append,eES,Nat.reduceBEq]) ?_
  rw [fxi_drop p hi] at hx
  cases hp : p x
  ·rw [hp] at hx
   simp only [Bool.false_eq_true,if_false] at hx
   simp only [h8,e1,eES,Nat.reduceBEq,↓reduceIte]
   exact ⟨L.length - (i + 1),by omega,_,i + 1,rfl,rfl,hx,(by first | rfl | exact h0 | simp only [h0,eES,eEX,Nat.reduceBEq,↓reduceIte,reduceCtorEq,Nat.reduceEqDiff]),(by first | rfl | exact h1 | simp only [h1,eES,eEX,Nat.reduceBEq,↓reduceIte,reduceCtorEq,Nat.reduceEqDiff]),(by first | rfl | exact h7 | simp only [h7,eES,eEX,Nat.reduceBEq,↓reduceIte,reduceCtorEq,Nat.reduceEqDiff]),(by first | rfl | simp only [eES,eEX,Nat.reduceBEq,↓reduceIte,reduceCtorEq,Nat.reduceEqDiff])⟩
  ·rw [hp] at hx
   simp only [if_true] at hx
   simp only [hx,eES,Nat.reduceBEq]
 ·have hx' : fxi p L 0 = -1:=by rw [hx,List.drop_of_length_le (by omega)]; rfl
  simp only [lt_f hlt,hx',eES,Nat.reduceBEq,↓reduceIte]

end ops

def PO0 : PO:=⟨0,[],[],0,0,0,0,0⟩
def opr (p : PO → Bool) (L : List PO) : AV:=.tup [oav ((L.find? p).getD PO0),.bool (L.find? p).isSome]

theorem y118 (g : PG) (hl : g.ops.length ≤ maxLen) (p : PO → Bool) (c : Nat) (cap : AV) (m : Mem) (hc : ∀ fr,∀ o ∈ g.ops,ACalls Tryz.prog c [oav o,cap.sh.sh] (noObs :: fr :: m) fun y m1 => y = .bool (p o) ∧ m1 = noObs :: fr :: m) :
  ACalls Tryz.prog 118 [.agg [.fn (.func c) [] [cap]],gav g] m fun y m1 => y = opr p g.ops ∧ m1 = m:=by
 refine acalls_of_awp (rc:=r118) (rs:=o118) Tryz.func118 rfl rfl Tryz.ntmps118 k118 q118 (by simp) ?_
 simp only [g118_0,g118_1,g118_2,g118_3,g118_4,r118,o118,gav,PG.cells,eES,eEX,Nat.reduceBEq,Nat.reduceAdd]
 refine aops_callF (y172 g.ops hl p c cap.sh _ fun o ho => hc _ o ho) (by simp only [List.map_cons,List.map_nil,eES,Nat.reduceBEq]; rfl) ?_
 rcases fxi_spec p g.ops 0 with ⟨h1,h2⟩ | ⟨j,o,h1,h2,h3⟩
 ·simp only [h1,opr,h2,Option.getD_none,Option.isSome_none,PO0,oav,PO.cells,splice,List.take_zero,List.nil_append,List.drop_succ_cons,List.drop_zero,List.drop_nil,List.append_nil,List.length_cons,List.length_nil,List.all_cons,List.all_nil,AV.leaf,eES,eEX,Nat.reduceBEq,Int.reduceLT,↓reduceIte,Nat.reduceAdd,Nat.reduceLeDiff]
 ·have hj : (g.ops.map fun o => AV.agg o.cells)[j]? = some (.agg o.cells):=by simp [h2]
  have d : decide ((j : Int) < 0) = false:=decide_eq_false (by omega)
  rw [Nat.zero_add] at h1
  simp only [PO.cells] at hj
  simp only [h1,d,nneg,Int.toNat_natCast,aiaddr,Nat.zero_add,hj,opr,h3,Option.getD_some,Option.isSome_some,oav,PO.cells,splice,List.take_zero,List.nil_append,List.drop_succ_cons,List.drop_zero,List.drop_nil,List.append_nil,List.length_cons,List.length_nil,List.all_cons,List.all_nil,AV.leaf,eES,eEX,Nat.reduceBEq,↓reduceIte,Nat.reduceAdd,Nat.reduceLeDiff]

section
variable (o : PO) (fr frO : Nat → Ob)

theorem y117 (n : Int) (hf : frO 3 = .cells [.int .i64 n]) : ACalls Tryz.prog 117 [oav o,.ptr 2 3 0] [noObs,fr,frO] fun y m1 => y = .bool (o.num == n) ∧ m1 = [noObs,fr,frO]:=by
 refine acalls_of_awp (rc:=r117) (rs:=o117) Tryz.func117 rfl rfl Tryz.ntmps117 k117 q117 (by simp) ?_
 simp only [g117_0,g117_1,r117,o117,hf,oav,PO.cells,eES,eEX,Nat.reduceBEq,↓reduceIte,Nat.reduceAdd]

end

theorem y39 (g : PG) (hl : g.ops.length ≤ maxLen) (n : Int) : Fn1 Tryz.prog 39 [gav g,.int .i64 n] (opr (fun o => o.num == n) g.ops):=by
 refine fn1_of_awp (rc:=r39) (rs:=o39) Tryz.func39 rfl rfl Tryz.ntmps39 k39 q39 (by simp) ?_
 simp only [g39_0,g39_1,r39,o39,gav,PG.cells,eES,eEX,Nat.reduceBEq,↓reduceIte,Nat.reduceAdd,Nat.reduceLeDiff]
 refine aops_callF (y118 g hl (fun o => o.num == n) 117 (.ptr 0 3 0) _ fun fr o _ => y117 o fr _ n (by first | rfl | simp only [eES,eEX,Nat.reduceBEq,↓reduceIte,reduceCtorEq,Nat.reduceEqDiff])) (by simp only [List.map_cons,List.map_nil,gav,PG.cells,eES,Nat.reduceBEq]) ?_
 simp only [opr,oav,PO.cells,splice,List.take_zero,List.nil_append,List.drop_succ_cons,List.drop_zero,List.drop_nil,List.append_nil,List.length_cons,List.length_nil,List.all_cons,List.all_nil,AV.leaf,eES,eEX,Nat.reduceBEq,↓reduceIte,Nat.reduceAdd,Nat.reduceLeDiff]

end Go.Proofs.YtelhohgmmhbahaaGreatDoor.Va

set_option linter.unusedSimpArgs false
namespace Go.Proofs.YtelhohgmmhbahaaGreatDoor.Va
open Go Am Rc Bt Br

def allU (p : Nat → Bool) : Nat → Bool
 | 0 => true
 | n + 1 => allU p n && p n

theorem allU_iff {p : Nat → Bool} {n : Nat} : allU p n = true ↔ ∀ i,i < n → p i = true:=by
 induction n with
 | zero => simp [allU]
 | succ n ih =>
  simp only [allU,Bool.and_eq_true,ih]
  constructor
  ·rintro ⟨h1,h2⟩ i hi
   rcases Nat.lt_succ_iff_lt_or_eq.1 hi with h | rfl
   ·exact h1 i h
   ·exact h2
  ·intro h
   exact ⟨fun i hi => h i (by omega),h n (by omega)⟩

theorem allU_and {p q : Nat → Bool} {n : Nat} : allU (fun i => p i && q i) n = (allU p n && allU q n):=by
 induction n with
 | zero => rfl
 | succ n ih =>
  simp only [allU,ih]
  cases allU p n <;> cases allU q n <;> cases p n <;> cases q n <;> rfl

def ask {α : Type} (l : List α) (q : α → Bool) (i : Nat) : Bool:=match l[i]? with
 | some x => q x
 | none => true

theorem ask_at {α : Type} {l : List α} {q : α → Bool} {i : Nat} {x : α} (h : l[i]? = some x) : ask l q i = q x:=by
 unfold ask; rw [h]

theorem allU_ask {α : Type} (l : List α) (q : α → Bool) : allU (ask l q) l.length = l.all q:=by
 rw [Bool.eq_iff_iff,allU_iff,List.all_eq_true]
 constructor
 ·intro h x hx
  obtain ⟨i,hi⟩:=List.mem_iff_getElem?.1 hx
  have:=h i (List.getElem?_eq_some_iff.1 hi).1
  rwa [ask_at hi] at this
 ·intro h i hi
  rw [ask_at (List.getElem?_eq_getElem hi)]
  exact h _ (List.getElem_mem _)

def two {α : Type} (l : List α) (lt : α → α → Bool) (i : Nat) : Bool:=match i with
 | 0 => true
 | k + 1 => match l[k]?,l[k + 1]? with
  | some x,some y => lt x y
  | _,_ => true

theorem two_at {α : Type} {l : List α} {lt : α → α → Bool} {k : Nat} {x y : α} (h : l[k]? = some x) (h' : l[k + 1]? = some y) : two l lt (k + 1) = lt x y:=by
 unfold two; simp only [h,h']
theorem two_zero {α : Type} {l : List α} {lt : α → α → Bool} : two l lt 0 = true:=rfl

def adj {α : Type} (l : List α) (lt : α → α → Bool) : Bool:=allU (two l lt) l.length

def uniq {α : Type} (l : List α) (nm : α → List UInt8) (i : Nat) : Bool:=match l[i]? with
 | some x => (l.take i).all fun y => !(nm y == nm x)
 | none => true
theorem uniq_at {α : Type} {l : List α} {nm : α → List UInt8} {i : Nat} {x : α} (h : l[i]? = some x) : uniq l nm i = (l.take i).all fun y => !(nm y == nm x):=by
 unfold uniq; rw [h]
def once {α : Type} (l : List α) (nm : α → List UInt8) : Bool:=allU (uniq l nm) l.length

theorem take_all {α : Type} {l : List α} {q : α → Bool} {i : Nat} {x : α} (h : l[i]? = some x) : (l.take (i + 1)).all q = ((l.take i).all q && q x):=by
 rw [List.take_add_one,h]
 simp
theorem take_any {α : Type} {l : List α} {q : α → Bool} {i : Nat} {x : α} (h : l[i]? = some x) : (l.take (i + 1)).any q = ((l.take i).any q || q x):=by
 rw [List.take_add_one,h]
 simp
def letter (c : UInt8) : Bool:=(decide (97 ≤ c.toNat) && decide (c.toNat ≤ 122)) || (decide (65 ≤ c.toNat) && decide (c.toNat ≤ 90))
def pchar (c : UInt8) : Bool:=letter c || c.toNat == 95 || (decide (48 ≤ c.toNat) && decide (c.toNat ≤ 57))
def isPart : List UInt8 → Bool
 | [] => false
 | c :: t => decide ((c :: t).length ≤ 40) && letter c && t.all pchar
def words : List (List UInt8):=[[109,101,115,115,97,103,101],[101,110,117,109],[115,101,114,118,105,99,101],[117,110,105,111,110],[109,97,112],[108,105,115,116],[114,101,113,117,105,114,101,100],[111,112,116,105,111,110,97,108],[112,108,97,105,110],[100,101,102,97,117,108,116],[114,101,115,101,114,118,101,100],
 [105,109,112,111,114,116],[115,112,97,99,101],[114,112,99],[115,116,114,101,97,109],[114,101,116,117,114,110,115],[111,112,101,110],[116,114,117,101],[102,97,108,115,101],[110,97,110],[105,110,102]]
def isWord (s : List UInt8) : Bool:=words.any fun w => s == w
def usab (s : List UInt8) : Bool:=isPart s && !isWord s
def parts : List UInt8 → List (List UInt8)
 | [] => [[]]
 | c :: t => if c = 46 then [] :: parts t else match parts t with
  | [] => [[c]]
  | p :: ps => (c :: p) :: ps
def full (s : List UInt8) : Bool:=decide (s.length ≤ 120) && (parts s).all isPart && !(parts s).any isWord

theorem parts_ne : ∀ s : List UInt8,parts s ≠ []
 | [] => by simp [parts]
 | c :: t => by
  unfold parts
  split
  ·simp
  ·split <;> simp

theorem parts_app (a : List UInt8) : ∀ s : List UInt8,(∀ c ∈ a,c ≠ 46) → parts (a ++ s) = match parts s with
  | [] => [a]
  | p :: ps => (a ++ p) :: ps:=by
 induction a with
 | nil => intro s _; cases h : parts s with
  | nil => exact absurd h (parts_ne s)
  | cons p ps => simp [h]
 | cons c a ih =>
  intro s h
  have hc : c ≠ 46:=h c (by simp)
  rw [List.cons_append,parts,if_neg hc,ih s fun x hx => h x (by simp [hx])]
  cases hs : parts s with
  | nil => exact absurd hs (parts_ne s)
  | cons p ps => rfl

theorem parts_one {s : List UInt8} (h : ∀ c ∈ s,c ≠ 46) : parts s = [s]:=by
 have:=parts_app s [] h
 simpa [parts] using this

theorem parts_cons {a t : List UInt8} (h : ∀ c ∈ a,c ≠ 46) : parts (a ++ 46 :: t) = a :: parts t:=by
 rw [parts_app a _ h,parts,if_pos rfl]
 simp

theorem parts_snoc {a t : List UInt8} (h : ∀ c ∈ t,c ≠ 46) : parts (a ++ 46 :: t) = parts a ++ [t]:=by
 induction a with
 | nil =>
  show parts (46 :: t) = [[]] ++ [t]
  rw [show parts (46 :: t) = [] :: parts t from by rw [parts,if_pos rfl],parts_one h]
  rfl
 | cons c a ih =>
  rw [List.cons_append,parts,parts,ih]
  split
  ·rfl
  ·cases hs : parts a with
   | nil => exact absurd hs (parts_ne a)
   | cons p ps => rfl

def lim1 (g : PG) : Bool:=decide (g.ops.length ≤ 64)
def lim2 (e : PE) : Bool:=decide (1 ≤ e.items.length) && decide (e.items.length ≤ 64) && decide (e.free.length ≤ 16)
def lim (P : PL) : Bool:=decide (P.progs.length ≤ 64) && decide (P.enums.length ≤ 64) && P.progs.all lim1 && P.enums.all lim2
def nam1 (g : PG) : Bool:=full g.name && g.ops.all fun o => usab o.name
def nam2 (e : PE) : Bool:=full e.name && e.items.all fun o => usab o.name
def nam (P : PL) : Bool:=P.progs.all nam1 && P.enums.all nam2
def ordn {α : Type} (f : α → Int) (x y : α) : Bool:=decide (f x < f y)
def ords {α : Type} (f : α → List UInt8) (x y : α) : Bool:=Op.bytesLess (f x) (f y)
def ord1 (g : PG) : Bool:=adj g.ops (ordn PO.num)
def ord2 (e : PE) : Bool:=adj e.items (ordn PI.num)
def ord (P : PL) : Bool:=adj P.progs (ords PG.name) && adj P.enums (ords PE.name) && P.progs.all ord1 && P.enums.all ord2
def sin1 (P : PL) (g : PG) : Bool:=(P.enums.all fun e => !(e.name == g.name)) && once g.ops PO.name
def sin2 (e : PE) : Bool:=once e.items PI.name
def sin (P : PL) : Bool:=P.progs.all (sin1 P) && P.enums.all sin2
def rngO (o : PO) : Bool:=decide (o.num ≥ 1) && decide (o.num ≤ 65535)
def spn (x : PS) : Bool:=decide (x.lo ≥ 0) && decide (x.hi ≤ 2147483647) && decide (x.lo ≤ x.hi)
def spt (x y : PS) : Bool:=decide (y.lo > x.hi)
def kept (l : List PS) (n : Int) : Bool:=l.any fun x => decide (x.lo ≤ n) && decide (n ≤ x.hi)
def rngI (e : PE) (x : PI) : Bool:=decide (x.num ≤ 2147483647) && !kept e.free x.num
def frst (e : PE) : Bool:=match e.items with
 | [] => true
 | x :: _ => x.num == 0
def rng2 (e : PE) : Bool:=e.free.all spn && adj e.free spt && frst e && e.items.all (rngI e)
def rng (P : PL) : Bool:=P.progs.all (fun g => g.ops.all rngO) && P.enums.all rng2

end Go.Proofs.YtelhohgmmhbahaaGreatDoor.Va

set_option linter.unusedSimpArgs false
namespace Go.Proofs.YtelhohgmmhbahaaGreatDoor.Va
open Go Am Rc Bt Br

def spav (x : PS) : AV:=.agg x.cells
theorem wp64 (k n : Nat) (h : k + 1 < n) (hn : n ≤ maxLen) : IntKind.i64.wrap (((k + 1 : Nat) : Int) - 1) = (k : Int):=by
 rw [wi64]; simp only [maxLen] at hn; omega

section
variable (L : List PG) (hl : L.length ≤ maxLen) (p : PG → Bool) (c : Nat) (cs : List AV) (m : Mem)

end

section
variable (L : List PO) (hl : L.length ≤ maxLen) (p : PO → Bool) (c : Nat) (cs : List AV) (m : Mem)

end

section
variable (L : List PE) (hl : L.length ≤ maxLen) (p : PE → Bool) (c : Nat) (cs : List AV) (m : Mem)

end

section
variable (L : List PI) (hl : L.length ≤ maxLen) (p : PI → Bool) (c : Nat) (cs : List AV) (m : Mem)

end

section
variable (L : List PS) (hl : L.length ≤ maxLen) (p : PS → Bool) (c : Nat) (cs : List AV) (m : Mem)

end

section
variable (L : List (List UInt8)) (hl : L.length ≤ maxLen) (p : (List UInt8) → Bool) (c : Nat) (cs : List AV) (m : Mem)

end

section
variable (L : List PG) (hl : L.length ≤ maxLen) (lt : PG → PG → Bool) (c : Nat) (cs : List AV) (m : Mem)

end

section
variable (L : List PO) (hl : L.length ≤ maxLen) (lt : PO → PO → Bool) (c : Nat) (cs : List AV) (m : Mem)

end

section
variable (L : List PE) (hl : L.length ≤ maxLen) (lt : PE → PE → Bool) (c : Nat) (cs : List AV) (m : Mem)

end

section
variable (L : List PI) (hl : L.length ≤ maxLen) (lt : PI → PI → Bool) (c : Nat) (cs : List AV) (m : Mem)

end

end Go.Proofs.YtelhohgmmhbahaaGreatDoor.Va

set_option linter.unusedSimpArgs false
namespace Go.Proofs.YtelhohgmmhbahaaGreatDoor.Va
open Go Am Rc Bt Br

def cl (c : Nat) : Int:=if 97 ≤ c ∧ c ≤ 122 then 1 else if 65 ≤ c ∧ c ≤ 90 then 2 else if 48 ≤ c ∧ c ≤ 57 then 3 else if c = 95 then 4 else 0

def pq (s : List UInt8) (j : Nat) : Bool:=match s[j]? with
 | some c => if j = 0 then letter c else pchar c
 | none => true
theorem pq_at {s : List UInt8} {j : Nat} {c : UInt8} (h : s[j]? = some c) : pq s j = if j = 0 then letter c else pchar c:=by
 unfold pq; rw [h]

theorem isPart_pq (s : List UInt8) : isPart s = (decide (1 ≤ s.length) && decide (s.length ≤ 40) && allU (pq s) s.length):=by
 cases s with
 | nil => rfl
 | cons c t =>
  have h1 : decide (1 ≤ (c :: t).length) = true:=by simp
  rw [h1,Bool.true_and]
  show (decide ((c :: t).length ≤ 40) && letter c && t.all pchar) = _
  rw [Bool.and_assoc]
  congr 1
  rw [Bool.eq_iff_iff,Bool.and_eq_true,allU_iff,List.all_eq_true]
  constructor
  ·rintro ⟨h2,h3⟩ i hi
   cases i with
   | zero => rw [pq_at (c:=c) rfl,if_pos rfl]; exact h2
   | succ i =>
    have hlt : i < t.length:=by simpa using hi
    rw [pq_at (c:=t[i]) (by simp [List.getElem?_eq_getElem hlt]),if_neg (by omega)]
    exact h3 _ (List.getElem_mem _)
  ·intro h
   refine ⟨?_,fun x hx => ?_⟩
   ·have:=h 0 (by simp)
    rwa [pq_at (c:=c) rfl,if_pos rfl] at this
   ·obtain ⟨i,hi⟩:=List.mem_iff_getElem?.1 hx
    have hlt:=(List.getElem?_eq_some_iff.1 hi).1
    have:=h (i + 1) (by simpa using hlt)
    rwa [pq_at (c:=x) (by simpa using hi),if_neg (by omega)] at this

end Go.Proofs.YtelhohgmmhbahaaGreatDoor.Va

set_option linter.unusedSimpArgs false
namespace Go.Proofs.YtelhohgmmhbahaaGreatDoor.Va
open Go Am Rc Bt Br

end Go.Proofs.YtelhohgmmhbahaaGreatDoor.Va

set_option linter.unusedSimpArgs false
namespace Go.Proofs.YtelhohgmmhbahaaGreatDoor.Va
open Go Am Rc Bt Br

def sml (c : UInt8) : Bool:=decide (97 ≤ c.toNat) && decide (c.toNat ≤ 122)
def cpt (c : UInt8) : Bool:=decide (65 ≤ c.toNat) && decide (c.toNat ≤ 90)

theorem z218 (c : UInt8) : Fn1 Tryz.prog 218 [.int .u8 (c.toNat : Nat)] (.bool (sml c)):=by
 refine fn1_of_awp (rc:=r218) (rs:=o218) Tryz.func218 rfl rfl Tryz.ntmps218 k218 q218 (by simp) ?_
 have e1 : decide ((c.toNat : Int) ≥ 97) = decide (97 ≤ c.toNat):=by rw [decide_eq_decide]; omega
 have e2 : decide ((c.toNat : Int) ≤ 122) = decide (c.toNat ≤ 122):=by rw [decide_eq_decide]; omega
 simp only [g218_0,g218_1,r218,o218,e1,sml,eES,Nat.reduceBEq,↓reduceIte]
 cases h : decide (97 ≤ c.toNat) <;> simp only [e2,Bool.true_and,Bool.false_and,eES,Nat.reduceBEq,↓reduceIte]

theorem z219 (c : UInt8) : Fn1 Tryz.prog 219 [.int .u8 (c.toNat : Nat)] (.bool (cpt c)):=by
 refine fn1_of_awp (rc:=r219) (rs:=o219) Tryz.func219 rfl rfl Tryz.ntmps219 k219 q219 (by simp) ?_
 have e1 : decide ((c.toNat : Int) ≥ 65) = decide (65 ≤ c.toNat):=by rw [decide_eq_decide]; omega
 have e2 : decide ((c.toNat : Int) ≤ 90) = decide (c.toNat ≤ 90):=by rw [decide_eq_decide]; omega
 simp only [g219_0,g219_1,r219,o219,e1,cpt,eES,Nat.reduceBEq,↓reduceIte]
 cases h : decide (65 ≤ c.toNat) <;> simp only [e2,Bool.true_and,Bool.false_and,eES,Nat.reduceBEq,↓reduceIte]

theorem pchar_eq (c : UInt8) : pchar c = (sml c || cpt c || !((c.toNat : Int) != 95) || !(decide ((c.toNat : Int) < 48) || decide ((c.toNat : Int) > 57))):=by
 unfold pchar letter sml cpt
 generalize c.toNat = x
 rw [Bool.eq_iff_iff]
 simp only [Bool.or_eq_true,Bool.and_eq_true,decide_eq_true_eq,beq_iff_eq,Bool.not_eq_true',bne_eq_false_iff_eq,Bool.or_eq_false_iff,decide_eq_false_iff_not]
 omega

def PrI (s : List UInt8) (k : Nat) (st : St) : Prop :=
 ∃ f i,st = ⟨f,[noObs],[]⟩ ∧ k = s.length - i ∧ 1 ≤ i ∧ allU (pq s) i = true ∧ f 0 = .str s ∧ f 3 = .int .i64 (i : Nat)

theorem z165 (s : List UInt8) : Fn1 Tryz.prog 165 [.str s] (.bool (isPart s)):=by
 refine fn1_of_awp (rc:=r165) (rs:=o165) Tryz.func165 rfl rfl Tryz.ntmps165 k165 q165 (by simp) ?_
 simp only [g165_0,g165_1,g165_2,g165_3,g165_8,r165,o165,eES,Nat.reduceBEq,↓reduceIte]
 by_cases hl : s.length = 0
 ·have d0 : ((s.length : Int) == 0) = true:=by rw [hl]; rfl
  have e : isPart s = false:=by rw [isPart_pq,hl]; rfl
  simp only [d0,e,eES,Nat.reduceBEq]
 have d0 : ((s.length : Int) == 0) = false:=by rw [beq_eq_false_iff_ne]; omega
 by_cases hm : s.length ≤ 40
 case neg =>
  have d1 : decide ((s.length : Int) > 40) = true:=decide_eq_true (by omega)
  have e : isPart s = false:=by rw [isPart_pq,decide_eq_false hm,Bool.and_false,Bool.false_and]
  simp only [d0,d1,e,eES,Nat.reduceBEq,↓reduceIte]
 have d1 : decide ((s.length : Int) > 40) = false:=decide_eq_false (by omega)
 have hp : isPart s = allU (pq s) s.length:=by rw [isPart_pq,decide_eq_true hm,decide_eq_true (by omega : 1 ≤ s.length)]; rfl
 obtain ⟨c,hc⟩ : ∃ c,s[0]? = some c:=⟨s[0]'(by omega),List.getElem?_eq_getElem (by omega)⟩
 have hq0 : allU (pq s) 1 = (sml c || cpt c):=by
  show (true && pq s 0) = _
  rw [pq_at hc,if_pos rfl]; rfl
 have h1:=z218 c
 have h2:=z219 c
 have hn : allU (pq s) 1 = false → isPart s = false:=fun h => by
  rw [hp,Bool.eq_false_iff]
  intro h'
  rw [allU_iff.2 fun k hk => allU_iff.1 h' k (by omega)] at h
  cases h
 have z1 : Int.toNat 0 = 0:=rfl
 have go : allU (pq s) 1 = true → ∀ (f : Fr),f 0 = .str s → f 3 = .int .i64 1 → ∀ Q : Exit → St → Prop,(∀ f,allU (pq s) s.length = true → Q (.exit 0) ⟨f,[noObs],[]⟩) → (∀ f,f 2 = .bool false → allU (pq s) s.length = false → Q .ret ⟨f,[noObs],[]⟩) → awp Tryz.prog (.loop l165_0) ⟨f,[noObs],[]⟩ Q:=by
  intro hq1 f h0 h3 Q hx hr
  refine awp_loop (PrI s) _ ⟨_,1,rfl,rfl,Nat.le_refl _,hq1,h0,h3⟩ ?_
  clear h0 h3 hc hq0 h1 h2 hn
  rintro _ st ⟨f,i,rfl,rfl,h1i,hx1,h0,h3⟩
  simp only [l165_0,g165_4,g165_6,g165_7,g165_5,h0,h3,eES,Nat.reduceBEq,↓reduceIte]
  by_cases hlt : i < s.length
  ·obtain ⟨c,hc⟩ : ∃ c,s[i]? = some c:=⟨s[i],List.getElem?_eq_getElem hlt⟩
   have e1:=wi64_s i _ hlt (by simp only [maxLen]; omega)
   have hs1:=z218 c
   have hs2:=z219 c
   have hstep : allU (pq s) (i + 1) = pchar c:=by
    rw [allU,hx1,Bool.true_and,pq_at hc,if_neg (by omega)]
   have hend : pchar c = false → allU (pq s) s.length = false:=fun h => by
    rw [Bool.eq_false_iff]
    intro h'
    rw [allU_iff.2 fun k hk => allU_iff.1 h' k (by omega)] at hstep
    rw [h] at hstep; cases hstep
   have fin : ∀ f' : Fr,pchar c = true → f' 0 = .str s → f' 3 = .int .i64 ((i + 1 : Nat) : Int) → ∃ k,k < s.length - i ∧ PrI s k ⟨f',[noObs],[]⟩:=by
    intro f' hp h0 h3
    exact ⟨s.length - (i + 1),by omega,f',i + 1,rfl,rfl,by omega,by rw [hstep,hp],h0,h3⟩
   have hpc:=pchar_eq c
   simp only [lt_t hlt,nneg,Int.toNat_natCast,hc,h0,h3,eES,Nat.reduceBEq,↓reduceIte]
   refine aops_call hs1 rfl rfl rfl (.inl rfl) ?_
   cases a1 : sml c
   ·simp only [nneg,Int.toNat_natCast,hc,h0,h3,Bool.not_false,eES,Nat.reduceBEq,↓reduceIte]
    refine aops_call hs2 rfl rfl rfl (.inl rfl) ?_
    cases a2 : cpt c
    ·cases a3 : ((c.toNat : Int) != 95)
     ·rw [a1,a2,a3] at hpc
      simp only [a3,nneg,Int.toNat_natCast,hc,h0,h3,e1,Bool.not_false,eES,Nat.reduceBEq,↓reduceIte]
      exact fin _ (by rw [hpc]; rfl) (by first | rfl | exact h0 | simp only [h0,eES,eEX,Nat.reduceBEq,↓reduceIte,reduceCtorEq,Nat.reduceEqDiff]) (by first | rfl | simp only [eES,eEX,Nat.reduceBEq,↓reduceIte,reduceCtorEq,Nat.reduceEqDiff])
     ·cases a4 : decide ((c.toNat : Int) < 48)
      ·cases a5 : decide ((c.toNat : Int) > 57)
       ·rw [a1,a2,a3,a4,a5] at hpc
        simp only [a3,a4,a5,nneg,Int.toNat_natCast,hc,h0,h3,e1,Bool.not_false,eES,Nat.reduceBEq,↓reduceIte]
        exact fin _ (by rw [hpc]; rfl) (by first | rfl | exact h0 | simp only [h0,eES,eEX,Nat.reduceBEq,↓reduceIte,reduceCtorEq,Nat.reduceEqDiff]) (by first | rfl | simp only [eES,eEX,Nat.reduceBEq,↓reduceIte,reduceCtorEq,Nat.reduceEqDiff])
       ·rw [a1,a2,a3,a4,a5] at hpc
        simp only [a3,a4,a5,nneg,Int.toNat_natCast,hc,h0,h3,Bool.not_false,eES,Nat.reduceBEq,↓reduceIte]
        exact hr _ (by first | rfl | simp only [eES,eEX,Nat.reduceBEq,↓reduceIte,reduceCtorEq,Nat.reduceEqDiff]) (hend (by rw [hpc]; rfl))
      ·rw [a1,a2,a3,a4] at hpc
       simp only [a3,a4,nneg,Int.toNat_natCast,hc,h0,h3,Bool.not_false,eES,Nat.reduceBEq,↓reduceIte]
       exact hr _ (by first | rfl | simp only [eES,eEX,Nat.reduceBEq,↓reduceIte,reduceCtorEq,Nat.reduceEqDiff]) (hend (by rw [hpc]; rfl))
    ·rw [a1,a2] at hpc
     simp only [h3,e1,Bool.not_true,eES,Nat.reduceBEq,↓reduceIte]
     exact fin _ (by rw [hpc]; rfl) (by first | rfl | exact h0 | simp only [h0,eES,eEX,Nat.reduceBEq,↓reduceIte,reduceCtorEq,Nat.reduceEqDiff]) (by first | rfl | simp only [eES,eEX,Nat.reduceBEq,↓reduceIte,reduceCtorEq,Nat.reduceEqDiff])
   ·rw [a1] at hpc
    simp only [h3,e1,Bool.not_true,eES,Nat.reduceBEq,↓reduceIte]
    exact fin _ (by rw [hpc]; rfl) (by first | rfl | exact h0 | simp only [h0,eES,eEX,Nat.reduceBEq,↓reduceIte,reduceCtorEq,Nat.reduceEqDiff]) (by first | rfl | simp only [eES,eEX,Nat.reduceBEq,↓reduceIte,reduceCtorEq,Nat.reduceEqDiff])
  ·simp only [lt_f hlt,eES]
   exact hx _ (allU_iff.2 fun k hk => allU_iff.1 hx1 k (by omega))
 simp only [d0,d1,z1,hc,eES,Nat.reduceBEq,Int.reduceLE,↓reduceIte]
 refine aops_call h1 rfl rfl rfl (.inl rfl) ?_
 cases a1 : sml c
 ·simp only [z1,hc,Bool.not_false,eES,Nat.reduceBEq,Int.reduceLE,↓reduceIte]
  refine aops_call h2 rfl rfl rfl (.inl rfl) ?_
  cases a2 : cpt c
  ·rw [a1,a2] at hq0
   simp only [hn hq0,Bool.not_false,eES,Nat.reduceBEq]
  ·rw [a1,a2] at hq0
   simp only [Bool.not_true,eES,Nat.reduceBEq]
   refine go hq0 _ (by first | rfl | simp only [eES,eEX,Nat.reduceBEq,↓reduceIte,reduceCtorEq,Nat.reduceEqDiff]) (by first | rfl | simp only [eES,eEX,Nat.reduceBEq,↓reduceIte,reduceCtorEq,Nat.reduceEqDiff]) _ (fun f h => ?_) (fun f h2 h => ?_)
   ·simp only [hp,h,eES,Nat.reduceBEq,↓reduceIte]
   ·simp only [hp,h,h2,eES]
 ·rw [a1,Bool.true_or] at hq0
  simp only [Bool.not_true,eES,Nat.reduceBEq]
  refine go hq0 _ (by first | rfl | simp only [eES,eEX,Nat.reduceBEq,↓reduceIte,reduceCtorEq,Nat.reduceEqDiff]) (by first | rfl | simp only [eES,eEX,Nat.reduceBEq,↓reduceIte,reduceCtorEq,Nat.reduceEqDiff]) _ (fun f h => ?_) (fun f h2 h => ?_)
  ·simp only [hp,h,eES,Nat.reduceBEq,↓reduceIte]
  ·simp only [hp,h,h2,eES]

theorem z164 (s : List UInt8) : Fn1 Tryz.prog 164 [.str s] (.bool (isWord s)):=by
 refine fn1_of_awp (rc:=r164) (rs:=o164) Tryz.func164 rfl rfl Tryz.ntmps164 k164 q164 (by simp) ?_
 simp only [g164_0,g164_1,g164_2,g164_3,g164_4,g164_5,g164_6,g164_7,g164_8,g164_9,g164_10,g164_11,g164_12,g164_13,g164_14,g164_15,g164_16,g164_17,g164_18,g164_19,g164_20,g164_21,g164_22,g164_23,g164_24,r164,o164,astr,eES,Nat.reduceBEq]
 have e : isWord s = words.any fun w => s == w:=rfl
 simp only [words,List.any_cons,List.any_nil,Bool.or_false] at e
 repeat' (first | (refine csel_of (fun h => ?_) (fun h => ?_) <;> simp only [h,astr,eES,Nat.reduceBEq]) | (refine gsel_t (fun h => ?_) (fun h => ?_) <;> simp only [h,updO,astr,eES,eEX,Nat.reduceBEq,Int.reduceLE,Int.reduceLT,Int.reduceToNat,Int.reduceEq,↓reduceIte,reduceCtorEq,Nat.reducePow,Nat.reduceAdd,Nat.reduceLeDiff,Nat.reduceLT,Nat.reduceSub,Nat.reduceEqDiff]) | (refine gsel_f (fun h => ?_) (fun h => ?_) <;> simp only [h,updO,astr,eES,eEX,Nat.reduceBEq,Int.reduceLE,Int.reduceLT,Int.reduceToNat,Int.reduceEq,↓reduceIte,reduceCtorEq,Nat.reducePow,Nat.reduceAdd,Nat.reduceLeDiff,Nat.reduceLT,Nat.reduceSub,Nat.reduceEqDiff]))
 all_goals (simp only [*,Bool.true_or,Bool.or_true,Bool.or_false] at e; simp only [e])

theorem z109 (s : List UInt8) : Fn1 Tryz.prog 109 [.str s] (.bool (usab s)):=by
 refine fn1_of_awp (rc:=r109) (rs:=o109) Tryz.func109 rfl rfl Tryz.ntmps109 k109 q109 (by simp) ?_
 simp only [g109_0,g109_1,r109,o109,usab,eES,Nat.reduceBEq]
 refine aops_call (z165 s) rfl rfl rfl (.inl rfl) ?_
 cases isPart s
 ·simp only [Bool.false_and,eES,Nat.reduceBEq]
 ·simp only [Bool.true_and,eES,Nat.reduceBEq]
  refine aops_call (z164 s) rfl rfl rfl (.inl rfl) ?_
  simp only [eES,Nat.reduceBEq]

def FuI (s : List UInt8) (k : Nat) (st : St) : Prop :=
 ∃ f i p,st = ⟨f,[noObs],[]⟩ ∧ k = s.length - i ∧ i ≤ s.length ∧ p.length ≤ i ∧ (∀ c ∈ p,c ≠ (46 : UInt8)) ∧ (parts s).all isPart = (parts (p ++ s.drop i)).all isPart ∧ f 0 = .str s ∧ f 3 = .str p ∧ f 4 = .int .i64 (i : Nat)

theorem z162 (s : List UInt8) : Fn1 Tryz.prog 162 [.str s] (.bool (decide (s.length ≤ 120) && (parts s).all isPart)):=by
 refine fn1_of_awp (rc:=r162) (rs:=o162) Tryz.func162 rfl rfl Tryz.ntmps162 k162 q162 (by simp) ?_
 simp only [g162_0,g162_1,g162_2,g162_3,g162_4,g162_12,r162,o162,eES,Nat.reduceBEq,↓reduceIte]
 by_cases hm : s.length ≤ 120
 case neg =>
  have d1 : decide ((s.length : Int) > 120) = true:=decide_eq_true (by omega)
  simp only [d1,decide_eq_false hm,Bool.false_and,eES,Nat.reduceBEq]
 have d1 : decide ((s.length : Int) > 120) = false:=decide_eq_false (by omega)
 simp only [d1,decide_eq_true hm,Bool.true_and,eES]
 refine awp_loop (FuI s) _ ⟨_,0,[],rfl,rfl,Nat.zero_le _,Nat.le_refl _,by simp,rfl,(by first | rfl | simp only [eES,eEX,Nat.reduceBEq,↓reduceIte,reduceCtorEq,Nat.reduceEqDiff]),(by first | rfl | simp only [eES,eEX,Nat.reduceBEq,↓reduceIte,reduceCtorEq,Nat.reduceEqDiff]),(by first | rfl | simp only [eES,eEX,Nat.reduceBEq,↓reduceIte,reduceCtorEq,Nat.reduceEqDiff])⟩ ?_
 rintro _ st ⟨f,i,p,rfl,rfl,hi,hpl,hpd,hx,h0,h3,h4⟩
 simp only [l162_0,g162_5,g162_7,g162_8,g162_9,g162_10,g162_11,g162_6,h0,h4,eES,Nat.reduceBEq,↓reduceIte]
 by_cases hlt : i < s.length
 ·obtain ⟨c,hc⟩ : ∃ c,s[i]? = some c:=⟨s[i],List.getElem?_eq_getElem hlt⟩
  have e1:=wi64_s i _ hlt (by simp only [maxLen]; omega)
  have hd : s.drop i = c :: s.drop (i + 1):=by
   rw [List.drop_eq_getElem_cons hlt]
   congr 1
   exact (List.getElem?_eq_some_iff.1 hc).2
  have hts : (s.drop i).take (i + 1 - i) = [c]:=by
   rw [hd,show i + 1 - i = 1 by omega]; rfl
  simp only [lt_t hlt,nneg,Int.toNat_natCast,hc,h0,h4,eES,Nat.reduceBEq,↓reduceIte]
  by_cases hdot : c = 46
  ·subst hdot
   have b0 : ((((46 : UInt8).toNat : Nat) : Int) != 46) = false:=rfl
   have hs : (parts s).all isPart = (isPart p && (parts (s.drop (i + 1))).all isPart):=by
    rw [hx,hd,parts_cons hpd]; rfl
   simp only [b0,h3,eES,Nat.reduceBEq]
   refine aops_call (z165 p) rfl rfl rfl (.inl rfl) ?_
   cases hp : isPart p
   ·rw [hp,Bool.false_and] at hs
    simp only [hs,Bool.not_false,eES,Nat.reduceBEq]
   ·rw [hp,Bool.true_and] at hs
    simp only [h4,e1,Bool.not_true,eES,Nat.reduceBEq,↓reduceIte]
    exact ⟨s.length - (i + 1),by omega,_,i + 1,[],rfl,rfl,by omega,Nat.zero_le _,by simp,by rw [hs]; rfl,(by first | rfl | exact h0 | simp only [h0,eES,eEX,Nat.reduceBEq,↓reduceIte,reduceCtorEq,Nat.reduceEqDiff]),(by first | rfl | simp only [eES,eEX,Nat.reduceBEq,↓reduceIte,reduceCtorEq,Nat.reduceEqDiff]),(by first | rfl | simp only [eES,eEX,Nat.reduceBEq,↓reduceIte,reduceCtorEq,Nat.reduceEqDiff])⟩
  ·have b0 : (((c.toNat : Nat) : Int) != 46) = true:=by
    rw [bne_iff_ne]
    intro h
    apply hdot
    rw [← UInt8.toNat_inj]
    have : c.toNat = 46:=by omega
    rw [this]; rfl
   have hle : (i ≤ i + 1 ∧ i + 1 ≤ s.length) = True:=eq_true ⟨by omega,by omega⟩
   have hsum : (p.length ≤ 9223372036854775806) = True:=eq_true (by omega)
   simp only [b0,h0,h3,h4,e1,bnd,lenA,aslice,nneg,Int.toNat_natCast,hle,hts,astr,hsum,eES,Nat.reduceBEq,↓reduceIte,Nat.reduceAdd,Nat.reduceLeDiff]
   exact ⟨s.length - (i + 1),by omega,_,i + 1,p ++ [c],rfl,rfl,by omega,by simp; omega,fun x hx => by
    rcases List.mem_append.1 hx with h | h
    ·exact hpd x h
    ·simp at h; subst h; exact hdot,by rw [hx,hd]; simp,(by first | rfl | exact h0 | simp only [h0,eES,eEX,Nat.reduceBEq,↓reduceIte,reduceCtorEq,Nat.reduceEqDiff]),(by first | rfl | simp only [eES,eEX,Nat.reduceBEq,↓reduceIte,reduceCtorEq,Nat.reduceEqDiff]),(by first | rfl | simp only [eES,eEX,Nat.reduceBEq,↓reduceIte,reduceCtorEq,Nat.reduceEqDiff])⟩
 ·have hx' : (parts s).all isPart = isPart p:=by
   rw [hx,List.drop_of_length_le (by omega),List.append_nil,parts_one hpd]
   simp
  simp only [lt_f hlt,h3,hx',eES,Nat.reduceBEq,↓reduceIte]
  refine aops_call (z165 p) rfl rfl rfl (.inl rfl) ?_
  simp only [eES,Nat.reduceBEq]

def ldot (s : List UInt8) : Nat → Option Nat
 | 0 => none
 | j + 1 => if s[j]? = some 46 then some j else ldot s j

theorem ldot_spec (s : List UInt8) : ∀ n,match ldot s n with
  | none => ∀ k,k < n → s[k]? ≠ some 46
  | some j => j < n ∧ s[j]? = some 46 ∧ ∀ k,j < k → k < n → s[k]? ≠ some 46
 | 0 => by simp [ldot]
 | n + 1 => by
  unfold ldot
  split
  ·rename_i h
   split at h
   ·cases h
   ·rename_i h'
    have:=ldot_spec s n
    rw [h] at this
    intro k hk
    rcases Nat.lt_succ_iff_lt_or_eq.1 hk with h1 | rfl
    ·exact this k h1
    ·exact h'
  ·rename_i j h
   split at h
   ·rename_i h'
    cases h
    exact ⟨by omega,h',fun k h1 h2 => by omega⟩
   ·rename_i h'
    have:=ldot_spec s n
    rw [h] at this
    exact ⟨by omega,this.2.1,fun k h1 h2 => by
     rcases Nat.lt_succ_iff_lt_or_eq.1 h2 with h3 | rfl
     ·exact this.2.2 k h1 h3
     ·exact h'⟩

def spl (s : List UInt8) : List UInt8 × List UInt8:=match ldot s s.length with
 | none => ([],s)
 | some j => (s.take j,s.drop (j + 1))

theorem spl_spec (s : List UInt8) : ((spl s).1 = [] ∧ (spl s).2 = s ∧ ∀ c ∈ s,c ≠ 46) ∨ (s = (spl s).1 ++ 46 :: (spl s).2 ∧ ∀ c ∈ (spl s).2,c ≠ 46):=by
 have h:=ldot_spec s s.length
 unfold spl
 cases hl : ldot s s.length with
 | none =>
  rw [hl] at h
  refine .inl ⟨rfl,rfl,fun c hc e => ?_⟩
  subst e
  obtain ⟨k,hk⟩:=List.mem_iff_getElem?.1 hc
  exact h k (List.getElem?_eq_some_iff.1 hk).1 hk
 | some j =>
  rw [hl] at h
  obtain ⟨h1,h2,h3⟩:=h
  refine .inr ⟨?_,fun c hc e => ?_⟩
  ·have : s[j] = 46:=(List.getElem?_eq_some_iff.1 h2).2
   show s = s.take j ++ 46 :: s.drop (j + 1)
   rw [← this,← List.drop_eq_getElem_cons h1,List.take_append_drop]
  ·subst e
   obtain ⟨k,hk⟩:=List.mem_iff_getElem?.1 hc
   rw [List.getElem?_drop] at hk
   exact h3 (j + 1 + k) (by omega) (List.getElem?_eq_some_iff.1 hk).1 hk

def SdI (s : List UInt8) (k : Nat) (st : St) : Prop :=
 ∃ f,st = ⟨f,[noObs],[]⟩ ∧ k ≤ s.length ∧ ldot s s.length = ldot s k ∧ f 0 = .str s ∧ f 4 = .int .i64 ((k : Int) - 1)

theorem z163 (s : List UInt8) (hs : s.length ≤ 120) : Fn1 Tryz.prog 163 [.str s] (.tup [.str (spl s).1,.str (spl s).2]):=by
 refine fn1_of_awp (rc:=r163) (rs:=o163) Tryz.func163 rfl rfl Tryz.ntmps163 k163 q163 (by simp) ?_
 have w0 : IntKind.i64.wrap ((s.length : Int) - 1) = (s.length : Int) - 1:=by rw [wi64]; omega
 simp only [g163_0,g163_1,g163_6,r163,o163,w0,eES,Nat.reduceBEq,↓reduceIte]
 refine awp_loop (SdI s) _ ⟨_,rfl,Nat.le_refl _,rfl,(by first | rfl | simp only [eES,eEX,Nat.reduceBEq,↓reduceIte,reduceCtorEq,Nat.reduceEqDiff]),(by first | rfl | simp only [eES,eEX,Nat.reduceBEq,↓reduceIte,reduceCtorEq,Nat.reduceEqDiff])⟩ ?_
 rintro k st ⟨f,rfl,hk,hx,h0,h4⟩
 simp only [l163_0,g163_2,g163_4,g163_5,g163_3,h4,eES,Nat.reduceBEq,↓reduceIte]
 cases k with
 | zero =>
  have d0 : decide (((0 : Nat) : Int) - 1 ≥ 0) = false:=rfl
  have e : spl s = ([],s):=by unfold spl; rw [hx]; rfl
  simp only [d0,e,h0,eES,Nat.reduceBEq,↓reduceIte]
 | succ j =>
  have j1 : ((j + 1 : Nat) : Int) - 1 = (j : Int):=by omega
  have d0 : decide (((j : Nat) : Int) ≥ 0) = true:=decide_eq_true (by omega)
  have w1 : IntKind.i64.wrap ((j : Int) - 1) = (j : Int) - 1:=by rw [wi64]; omega
  have w2 : IntKind.i64.wrap ((j : Int) + 1) = ((j + 1 : Nat) : Int):=by rw [wi64]; omega
  obtain ⟨c,hc⟩ : ∃ c,s[j]? = some c:=⟨s[j]'(by omega),List.getElem?_eq_getElem (by omega)⟩
  simp only [j1,nneg,Int.toNat_natCast,hc,h0,h4,eES,Nat.reduceBEq,↓reduceIte]
  by_cases hdot : c = 46
  ·subst hdot
   have b0 : ((((46 : UInt8).toNat : Nat) : Int) == 46) = true:=rfl
   have e : spl s = (s.take j,s.drop (j + 1)):=by
    unfold spl
    rw [hx]
    show (match (if s[j]? = some 46 then some j else ldot s j) with | none => ([],s) | some j => (s.take j,s.drop (j + 1))) = _
    rw [if_pos hc]
   have hle : (0 ≤ j ∧ j ≤ s.length) = True:=eq_true ⟨by omega,by omega⟩
   have hle2 : (j + 1 ≤ s.length ∧ s.length ≤ s.length) = True:=eq_true ⟨by omega,Nat.le_refl _⟩
   have ht : ((s.drop 0).take j) = s.take j:=by simp
   have ht2 : ((s.drop (j + 1)).take (s.length - (j + 1))) = s.drop (j + 1):=List.take_of_length_le (by simp)
   simp only [b0,w2,j1,e,bnd,lenA,aslice,Nat.sub_zero,nneg,Int.toNat_natCast,hle,hle2,ht2,h0,h4,eES,Nat.reduceBEq,↓reduceIte]
  ·have b0 : (((c.toNat : Nat) : Int) == 46) = false:=by
    rw [beq_eq_false_iff_ne]
    intro h
    apply hdot
    rw [← UInt8.toNat_inj]
    have : c.toNat = 46:=by omega
    rw [this]; rfl
   have hne : ¬ s[j]? = some 46:=fun h => by rw [hc] at h; cases h; exact hdot rfl
   simp only [b0,j1,w1,h4,eES,Nat.reduceBEq,↓reduceIte]
   exact ⟨j,by omega,_,rfl,by omega,by rw [hx]; show (if s[j]? = some 46 then some j else ldot s j) = _; rw [if_neg hne],(by first | rfl | exact h0 | simp only [h0,eES,eEX,Nat.reduceBEq,↓reduceIte,reduceCtorEq,Nat.reduceEqDiff]),(by first | rfl | simp only [eES,eEX,Nat.reduceBEq,↓reduceIte,reduceCtorEq,Nat.reduceEqDiff])⟩

def wrd (u : List UInt8) : Bool:=if u = [] then false else (parts u).any isWord

def DfI (s : List UInt8) (k : Nat) (st : St) : Prop :=
 ∃ f u,st = ⟨f,[noObs],[]⟩ ∧ k = u.length ∧ u.length ≤ 120 ∧ (u ≠ [] → (parts u).all isPart = true) ∧ (parts s).any isWord = wrd u ∧ f 0 = .str u

theorem z108 (s : List UInt8) : Fn1 Tryz.prog 108 [.str s] (.bool (full s)):=by
 refine fn1_of_awp (rc:=r108) (rs:=o108) Tryz.func108 rfl rfl Tryz.ntmps108 k108 q108 (by simp) ?_
 simp only [g108_0,g108_1,g108_2,g108_8,r108,o108,full,eES,Nat.reduceBEq]
 refine aops_call (z162 s) rfl rfl rfl (.inl rfl) ?_
 cases hf : (decide (s.length ≤ 120) && (parts s).all isPart)
 ·simp only [Bool.false_and,Bool.not_false,eES,Nat.reduceBEq]
 simp only [Bool.true_and,Bool.not_true,eES,Nat.reduceBEq]
 obtain ⟨hl,ha⟩:=Bool.and_eq_true_iff.1 hf
 have hl:=of_decide_eq_true hl
 have hne : s ≠ []:=by
  rintro rfl
  cases ha
 refine awp_loop (DfI s) _ ⟨_,s,rfl,rfl,hl,fun _ => ha,by unfold wrd; rw [if_neg hne],(by first | rfl | simp only [eES,eEX,Nat.reduceBEq,↓reduceIte,reduceCtorEq,Nat.reduceEqDiff])⟩ ?_
 rintro _ st ⟨f,u,rfl,rfl,hul,hua,hx,h0⟩
 simp only [l108_0,g108_3,g108_4,g108_5,g108_6,g108_7,h0,astr,eES,Nat.reduceBEq]
 by_cases hu : u = []
 ·subst hu
  have b0 : (!(([] : List UInt8) == [])) = false:=rfl
  have e : (parts s).any isWord = false:=hx
  simp only [b0,e,Bool.not_false,eES,Nat.reduceBEq,↓reduceIte]
 ·have b0 : (!(u == [])) = true:=by simp [hu]
  simp only [b0,h0,eES,Nat.reduceBEq]
  refine aops_call (z163 u hul) rfl rfl rfl (.inl rfl) ?_
  simp only [eES,Nat.reduceBEq]
  refine aops_call (z164 (spl u).2) rfl rfl rfl (.inl rfl) ?_
  have hw : wrd u = (wrd (spl u).1 || isWord (spl u).2):=by
   unfold wrd
   rw [if_neg hu]
   rcases spl_spec u with ⟨h1,h2,h3⟩ | ⟨h1,h2⟩
   ·rw [h1,h2,if_pos rfl,parts_one h3]; simp
   ·have hp : parts u = parts (spl u).1 ++ [(spl u).2]:=by
     conv => lhs; rw [h1]
     exact parts_snoc h2
    have ha':=hua hu
    rw [hp,List.all_append,Bool.and_eq_true] at ha'
    have hn : (spl u).1 ≠ []:=by
     intro h
     rw [h] at ha'
     cases ha'.1
    rw [if_neg hn,hp]
    simp
  cases hq : isWord (spl u).2
  ·rw [hq,Bool.or_false] at hw
   simp only [eES,Nat.reduceBEq]
   have hlen : (spl u).1.length < u.length ∧ ((spl u).1 ≠ [] → (parts (spl u).1).all isPart = true):=by
    rcases spl_spec u with ⟨h1,h2,h3⟩ | ⟨h1,h2⟩
    ·rw [h1]
     exact ⟨List.length_pos_iff.2 hu,fun h => absurd rfl h⟩
    ·have hp : parts u = parts (spl u).1 ++ [(spl u).2]:=by
      conv => lhs; rw [h1]
      exact parts_snoc h2
     have ha':=hua hu
     rw [hp,List.all_append,Bool.and_eq_true] at ha'
     refine ⟨?_,fun _ => ha'.1⟩
     have:=congrArg List.length h1
     simp at this
     omega
   exact ⟨(spl u).1.length,hlen.1,_,(spl u).1,rfl,rfl,by omega,hlen.2,by rw [hx,hw],(by first | rfl | simp only [eES,eEX,Nat.reduceBEq,↓reduceIte,reduceCtorEq,Nat.reduceEqDiff])⟩
  ·rw [hq,Bool.or_true] at hw
   have e : (parts s).any isWord = true:=hx.trans hw
   simp only [e,Bool.not_true,eES,Nat.reduceBEq]

end Go.Proofs.YtelhohgmmhbahaaGreatDoor.Va

set_option linter.unusedSimpArgs false
namespace Go.Proofs.YtelhohgmmhbahaaGreatDoor.Va
open Go Am Rc Bt Br

section
variable (m : Mem)

end

section
variable {M : Nat} (P : PL) (hP : P.ok M) (hM : M ≤ 17592186044000)
include hP hM

end

end Go.Proofs.YtelhohgmmhbahaaGreatDoor.Va

set_option linter.unusedSimpArgs false
namespace Go.Proofs.YtelhohgmmhbahaaGreatDoor.Va
open Go Am Rc Bt Br

section
variable (L : List PO) (hl : L.length ≤ maxLen) (nm : PO → List UInt8) (c : Nat) (m : Mem)

end

section
variable (L : List PI) (hl : L.length ≤ maxLen) (nm : PI → List UInt8) (c : Nat) (m : Mem)

end

section
variable {M : Nat} (P : PL) (hP : P.ok M)
include hP

end

def spq (l : List PS) (i : Nat) : Bool:=ask l spn i && two l spt i
theorem spq_all (l : List PS) : allU (spq l) l.length = (l.all spn && adj l spt):=by
 unfold spq adj
 rw [allU_and,allU_ask]

end Go.Proofs.YtelhohgmmhbahaaGreatDoor.Va

set_option linter.unusedSimpArgs false
namespace Go.Proofs.YtelhohgmmhbahaaGreatDoor.Va
open Go Am Rc Bt

def bt (s : List UInt8) (i lo hi : Nat) : Bool :=
 match s[i]? with
 | some b => decide (lo ≤ b.toNat) && decide (b.toNat ≤ hi)
 | none => false
def tl (s : List UInt8) : Nat → Nat → Bool
 | _,0 => true
 | i,n + 1 => bt s i 128 191 && tl s (i + 1) n
def szb (s : List UInt8) (i b : Nat) : Nat :=
 if b < 128 then 1
 else if 194 ≤ b ∧ b ≤ 223 ∧ tl s (i + 1) 1 = true then 2
 else if b = 224 ∧ bt s (i + 1) 160 191 = true ∧ tl s (i + 2) 1 = true then 3
 else if b = 237 ∧ bt s (i + 1) 128 159 = true ∧ tl s (i + 2) 1 = true then 3
 else if 225 ≤ b ∧ b ≤ 239 ∧ b ≠ 237 ∧ tl s (i + 1) 2 = true then 3
 else if b = 240 ∧ bt s (i + 1) 144 191 = true ∧ tl s (i + 2) 2 = true then 4
 else if 241 ≤ b ∧ b ≤ 243 ∧ tl s (i + 1) 3 = true then 4
 else if b = 244 ∧ bt s (i + 1) 128 143 = true ∧ tl s (i + 2) 2 = true then 4
 else 0
def sz (s : List UInt8) (i : Nat) : Nat :=
 match s[i]? with
 | none => 0
 | some c => szb s i c.toNat
def bad (s : List UInt8) : Nat → Nat → Int
 | 0,_ => -1
 | k + 1,i => if i < s.length then (if sz s i = 0 then (i : Int) else bad s k (i + sz s i)) else -1
def vld (s : List UInt8) : Bool:=decide (bad s s.length 0 < 0)

theorem geu8 (c : UInt8) (n : Nat) : decide ((c.toNat : Int) ≥ (n : Int)) = decide (n ≤ c.toNat):=by simp
theorem leu8 (c : UInt8) (n : Nat) : decide ((c.toNat : Int) ≤ (n : Int)) = decide (c.toNat ≤ n):=by simp

theorem c290 (s : List UInt8) (i lo hi : Nat) : Fn1 Tryz.prog 290 [.str s,.int .i64 (i : Nat),.int .u8 (lo : Nat),.int .u8 (hi : Nat)] (.bool (bt s i lo hi)):=by
 refine fn1_of_awp (rc:=r290) (rs:=o290) Tryz.func290 rfl rfl Tryz.ntmps290 k290 q290 (by simp) ?_
 by_cases hlt : i < s.length
 ·obtain ⟨c,hc⟩ : ∃ c,s[i]? = some c:=⟨s[i],List.getElem?_eq_getElem hlt⟩
  have hb : bt s i lo hi = (decide (lo ≤ c.toNat) && decide (c.toNat ≤ hi)):=by simp only [bt,hc]
  simp only [g290_0,g290_1,r290,o290,lt_t hlt,nneg,Int.toNat_natCast,hc,geu8,eES,Nat.reduceBEq,↓reduceIte]
  by_cases h1 : lo ≤ c.toNat
  ·have d1 : decide (lo ≤ c.toNat) = true:=by simpa using h1
   simp only [d1,nneg,Int.toNat_natCast,hc,hb,leu8,Bool.true_and,eES,Nat.reduceBEq,↓reduceIte]
  ·have d1 : decide (lo ≤ c.toNat) = false:=by simpa using h1
   simp only [d1,hb,Bool.false_and,eES,Nat.reduceBEq]
 ·have hb : bt s i lo hi = false:=by simp only [bt,List.getElem?_eq_none (Nat.le_of_not_lt hlt)]
  simp only [g290_0,g290_1,r290,o290,lt_f hlt,hb,eES,Nat.reduceBEq,↓reduceIte]

def TailI (s : List UInt8) (i n : Nat) (k : Nat) (st : St) : Prop :=
 ∃ f j,st = ⟨f,[noObs],[]⟩ ∧ k = n - j ∧ j ≤ n ∧ tl s i n = tl s (i + j) (n - j) ∧ f 0 = .str s ∧ f 1 = .int .i64 (i : Nat) ∧ f 2 = .int .i64 (n : Nat) ∧ f 7 = .int .i64 (j : Nat)

theorem wadd (a b : Nat) (h : a + b ≤ maxLen) : IntKind.i64.wrap ((a : Int) + (b : Int)) = ((a + b : Nat) : Int):=by
 simp only [maxLen] at h
 rw [wi64]; omega

theorem c289 (s : List UInt8) (i n : Nat) (hi : i + n ≤ maxLen) : Fn1 Tryz.prog 289 [.str s,.int .i64 (i : Nat),.int .i64 (n : Nat)] (.bool (tl s i n)):=by
 refine fn1_of_awp (rc:=r289) (rs:=o289) Tryz.func289 rfl rfl Tryz.ntmps289 k289 q289 (by simp) ?_
 simp only [g289_0,g289_1,g289_6,r289,o289,eES]
 refine awp_loop (TailI s i n) _ ⟨_,0,rfl,rfl,Nat.zero_le _,rfl,rfl,rfl,rfl,rfl⟩ ?_
 rintro _ st ⟨f,j,rfl,rfl,hj,ht,h0,h1,h2,h7⟩
 simp only [l289_0,g289_2,g289_4,g289_5,g289_3,h2,h7,eES,Nat.reduceBEq,↓reduceIte]
 by_cases hlt : j < n
 ·have e0:=wadd i j (by omega)
  have e1:=wi64_s j _ hlt (by omega)
  simp only [lt_t hlt,h0,h1,h7,e0,eES,Nat.reduceBEq,↓reduceIte]
  refine aops_call (c290 s (i + j) 128 191) rfl rfl rfl (.inl rfl) ?_
  have hs : tl s i n = (bt s (i + j) 128 191 && tl s (i + (j + 1)) (n - (j + 1))):=by
   rw [ht]
   obtain ⟨m,hm⟩ : ∃ m,n - j = m + 1:=⟨n - j - 1,by omega⟩
   rw [hm,show n - (j + 1) = m by omega]
   rfl
  cases hb : bt s (i + j) 128 191
  ·rw [hb] at hs
   simp only [hs,Bool.false_and,eES,Nat.reduceBEq]
  ·rw [hb,Bool.true_and] at hs
   simp only [h7,e1,eES,Nat.reduceBEq,↓reduceIte]
   exact ⟨n - (j + 1),by omega,_,j + 1,rfl,rfl,by omega,hs,(by first | rfl | exact h0 | simp only [h0,eES,eEX,Nat.reduceBEq,↓reduceIte,reduceCtorEq,Nat.reduceEqDiff]),(by first | rfl | exact h1 | simp only [h1,eES,eEX,Nat.reduceBEq,↓reduceIte,reduceCtorEq,Nat.reduceEqDiff]),(by first | rfl | exact h2 | simp only [h2,eES,eEX,Nat.reduceBEq,↓reduceIte,reduceCtorEq,Nat.reduceEqDiff]),(by first | rfl | simp only [eES,eEX,Nat.reduceBEq,↓reduceIte,reduceCtorEq,Nat.reduceEqDiff])⟩
 ·have hs : tl s i n = true:=by
   rw [ht,show n - j = 0 by omega]
   rfl
  simp only [lt_f hlt,hs,eES,Nat.reduceBEq,↓reduceIte]

def Stg (s : List UInt8) (i : Nat) (c : UInt8) (D : Nat) (cond : Prop) (g : List Am.Item) : Prop :=
 ∀ Q : St → Prop,(∀ f' B,(B = true ↔ cond) → f' 0 = .str s → f' 1 = .int .i64 (i : Nat) → f' 5 = .int .u8 (c.toNat : Nat) → f' D = .bool B → Q ⟨f',[noObs],[]⟩) →
  ∀ f,f 0 = .str s → f 1 = .int .i64 (i : Nat) → f 5 = .int .u8 (c.toNat : Nat) → aops Tryz.prog g ⟨f,[noObs],[]⟩ Q

section
variable {s : List UInt8} {i : Nat} {c : UInt8} (hi : i < s.length) (hs : s.length + 8 ≤ maxLen)
include hi hs

theorem stg4 : Stg s i c 12 (194 ≤ c.toNat ∧ c.toNat ≤ 223 ∧ tl s (i + 1) 1 = true) g264_4:=by
 intro Q hQ f h0 h1 h5
 have e1 : IntKind.i64.wrap ((i : Int) + 1) = ((i + 1 : Nat) : Int):=wadd i 1 (by omega)
 have e2 : IntKind.i64.wrap ((i : Int) + 2) = ((i + 2 : Nat) : Int):=wadd i 2 (by omega)
 simp only [g264_4,h5,eES,Nat.reduceBEq,↓reduceIte]
 repeat' (first | (refine csel_of (fun h => ?_) (fun h => ?_) <;> simp only [h,h0,h1,h5,e1,e2,eES,eEX,Nat.reduceBEq,Int.reduceLE,Int.reduceLT,Int.reduceToNat,Int.reduceEq,↓reduceIte,reduceCtorEq,Nat.reducePow,Nat.reduceAdd,Nat.reduceLeDiff,Nat.reduceLT,Nat.reduceSub,Nat.reduceEqDiff]) | (refine gsel_t (fun h => ?_) (fun h => ?_) <;> simp only [h,updO,h0,h1,h5,e1,eES,Nat.reduceBEq,↓reduceIte]) | (refine gsel_f (fun h => ?_) (fun h => ?_) <;> simp only [h,updO,h0,h1,h5,e1,e2,eES,eEX,Nat.reduceBEq,Int.reduceLE,Int.reduceLT,Int.reduceToNat,Int.reduceEq,↓reduceIte,reduceCtorEq,Nat.reducePow,Nat.reduceAdd,Nat.reduceLeDiff,Nat.reduceLT,Nat.reduceSub,Nat.reduceEqDiff]) | ((with_reducible apply aops_call (k:=289)); (case hy => rfl); (case h1 => rfl); (case hk => exact c289 s (i + 1) 1 (by omega)); (case h2 => rfl); (case h3 => first | exact .inl rfl | exact .inr rfl); simp only [eES,Nat.reduceBEq]))
 all_goals (refine hQ _ _ ?_ (by first | rfl | exact h0 | simp only [h0,eES,eEX,Nat.reduceBEq,↓reduceIte,reduceCtorEq,Nat.reduceEqDiff]) (by first | rfl | exact h1 | simp only [h1,eES,eEX,Nat.reduceBEq,↓reduceIte,reduceCtorEq,Nat.reduceEqDiff]) (by first | rfl | exact h5 | simp only [h5,eES,eEX,Nat.reduceBEq,↓reduceIte,reduceCtorEq,Nat.reduceEqDiff]) rfl)
 all_goals simp only [decide_eq_true_eq,decide_eq_false_iff_not] at *
 all_goals
  constructor
  ·intro hh
   first
    | cases hh
    | (refine ⟨by omega,?_⟩; first | exact hh | (refine ⟨by omega,?_⟩; first | exact hh | (refine ⟨by omega,?_⟩; exact hh)) | exact ⟨by assumption,hh⟩)
  ·intro hh
   first
    | exact hh.2.2.2
    | exact hh.2.2
    | (exfalso; omega)
    | (exfalso; simp_all; done)

theorem stg6 : Stg s i c 25 (c.toNat = 224 ∧ bt s (i + 1) 160 191 = true ∧ tl s (i + 2) 1 = true) g264_6:=by
 intro Q hQ f h0 h1 h5
 have e1 : IntKind.i64.wrap ((i : Int) + 1) = ((i + 1 : Nat) : Int):=wadd i 1 (by omega)
 have e2 : IntKind.i64.wrap ((i : Int) + 2) = ((i + 2 : Nat) : Int):=wadd i 2 (by omega)
 simp only [g264_6,h5,eES,Nat.reduceBEq,↓reduceIte]
 repeat' (first | (refine csel_of (fun h => ?_) (fun h => ?_) <;> simp only [h,h0,h1,h5,e1,e2,eES,eEX,Nat.reduceBEq,Int.reduceLE,Int.reduceLT,Int.reduceToNat,Int.reduceEq,↓reduceIte,reduceCtorEq,Nat.reducePow,Nat.reduceAdd,Nat.reduceLeDiff,Nat.reduceLT,Nat.reduceSub,Nat.reduceEqDiff]) | (refine gsel_t (fun h => ?_) (fun h => ?_) <;> simp only [h,updO,h0,h1,e1,e2,eES,Nat.reduceBEq,↓reduceIte]) | (refine gsel_f (fun h => ?_) (fun h => ?_) <;> simp only [h,updO,h0,h1,h5,e1,e2,eES,eEX,Nat.reduceBEq,Int.reduceLE,Int.reduceLT,Int.reduceToNat,Int.reduceEq,↓reduceIte,reduceCtorEq,Nat.reducePow,Nat.reduceAdd,Nat.reduceLeDiff,Nat.reduceLT,Nat.reduceSub,Nat.reduceEqDiff]) | ((with_reducible apply aops_call (k:=290)); (case hy => rfl); (case h1 => rfl); (case hk => exact c290 s (i + 1) 160 191); (case h2 => rfl); (case h3 => first | exact .inl rfl | exact .inr rfl); simp only [eES,Nat.reduceBEq]) | ((with_reducible apply aops_call (k:=289)); (case hy => rfl); (case h1 => rfl); (case hk => exact c289 s (i + 2) 1 (by omega)); (case h2 => rfl); (case h3 => first | exact .inl rfl | exact .inr rfl); simp only [eES,Nat.reduceBEq]))
 all_goals (refine hQ _ _ ?_ (by first | rfl | exact h0 | simp only [h0,eES,eEX,Nat.reduceBEq,↓reduceIte,reduceCtorEq,Nat.reduceEqDiff]) (by first | rfl | exact h1 | simp only [h1,eES,eEX,Nat.reduceBEq,↓reduceIte,reduceCtorEq,Nat.reduceEqDiff]) (by first | rfl | exact h5 | simp only [h5,eES,eEX,Nat.reduceBEq,↓reduceIte,reduceCtorEq,Nat.reduceEqDiff]) rfl)
 all_goals simp only [beq_iff_eq,beq_eq_false_iff_ne,ne_eq] at *
 all_goals
  constructor
  ·intro hh
   first
    | cases hh
    | (refine ⟨by omega,?_⟩; first | exact hh | (refine ⟨by omega,?_⟩; first | exact hh | (refine ⟨by omega,?_⟩; exact hh)) | exact ⟨by assumption,hh⟩)
  ·intro hh
   first
    | exact hh.2.2.2
    | exact hh.2.2
    | (exfalso; omega)
    | (exfalso; simp_all; done)

theorem stg8 : Stg s i c 40 (c.toNat = 237 ∧ bt s (i + 1) 128 159 = true ∧ tl s (i + 2) 1 = true) g264_8:=by
 intro Q hQ f h0 h1 h5
 have e1 : IntKind.i64.wrap ((i : Int) + 1) = ((i + 1 : Nat) : Int):=wadd i 1 (by omega)
 have e2 : IntKind.i64.wrap ((i : Int) + 2) = ((i + 2 : Nat) : Int):=wadd i 2 (by omega)
 simp only [g264_8,h5,eES,Nat.reduceBEq,↓reduceIte]
 repeat' (first | (refine csel_of (fun h => ?_) (fun h => ?_) <;> simp only [h,h0,h1,h5,e1,e2,eES,eEX,Nat.reduceBEq,Int.reduceLE,Int.reduceLT,Int.reduceToNat,Int.reduceEq,↓reduceIte,reduceCtorEq,Nat.reducePow,Nat.reduceAdd,Nat.reduceLeDiff,Nat.reduceLT,Nat.reduceSub,Nat.reduceEqDiff]) | (refine gsel_t (fun h => ?_) (fun h => ?_) <;> simp only [h,updO,h0,h1,e1,e2,eES,Nat.reduceBEq,↓reduceIte]) | (refine gsel_f (fun h => ?_) (fun h => ?_) <;> simp only [h,updO,h0,h1,h5,e1,e2,eES,eEX,Nat.reduceBEq,Int.reduceLE,Int.reduceLT,Int.reduceToNat,Int.reduceEq,↓reduceIte,reduceCtorEq,Nat.reducePow,Nat.reduceAdd,Nat.reduceLeDiff,Nat.reduceLT,Nat.reduceSub,Nat.reduceEqDiff]) | ((with_reducible apply aops_call (k:=290)); (case hy => rfl); (case h1 => rfl); (case hk => exact c290 s (i + 1) 128 159); (case h2 => rfl); (case h3 => first | exact .inl rfl | exact .inr rfl); simp only [eES,Nat.reduceBEq]) | ((with_reducible apply aops_call (k:=289)); (case hy => rfl); (case h1 => rfl); (case hk => exact c289 s (i + 2) 1 (by omega)); (case h2 => rfl); (case h3 => first | exact .inl rfl | exact .inr rfl); simp only [eES,Nat.reduceBEq]))
 all_goals (refine hQ _ _ ?_ (by first | rfl | exact h0 | simp only [h0,eES,eEX,Nat.reduceBEq,↓reduceIte,reduceCtorEq,Nat.reduceEqDiff]) (by first | rfl | exact h1 | simp only [h1,eES,eEX,Nat.reduceBEq,↓reduceIte,reduceCtorEq,Nat.reduceEqDiff]) (by first | rfl | exact h5 | simp only [h5,eES,eEX,Nat.reduceBEq,↓reduceIte,reduceCtorEq,Nat.reduceEqDiff]) rfl)
 all_goals simp only [beq_iff_eq,beq_eq_false_iff_ne,ne_eq] at *
 all_goals
  constructor
  ·intro hh
   first
    | cases hh
    | (refine ⟨by omega,?_⟩; first | exact hh | (refine ⟨by omega,?_⟩; first | exact hh | (refine ⟨by omega,?_⟩; exact hh)) | exact ⟨by assumption,hh⟩)
  ·intro hh
   first
    | exact hh.2.2.2
    | exact hh.2.2
    | (exfalso; omega)
    | (exfalso; simp_all; done)

theorem stg10 : Stg s i c 55 (225 ≤ c.toNat ∧ c.toNat ≤ 239 ∧ c.toNat ≠ 237 ∧ tl s (i + 1) 2 = true) g264_10:=by
 intro Q hQ f h0 h1 h5
 have e1 : IntKind.i64.wrap ((i : Int) + 1) = ((i + 1 : Nat) : Int):=wadd i 1 (by omega)
 have e2 : IntKind.i64.wrap ((i : Int) + 2) = ((i + 2 : Nat) : Int):=wadd i 2 (by omega)
 simp only [g264_10,h5,eES,Nat.reduceBEq,↓reduceIte]
 repeat' (first | (refine csel_of (fun h => ?_) (fun h => ?_) <;> simp only [h,h0,h1,h5,e1,e2,eES,eEX,Nat.reduceBEq,Int.reduceLE,Int.reduceLT,Int.reduceToNat,Int.reduceEq,↓reduceIte,reduceCtorEq,Nat.reducePow,Nat.reduceAdd,Nat.reduceLeDiff,Nat.reduceLT,Nat.reduceSub,Nat.reduceEqDiff]) | (refine gsel_t (fun h => ?_) (fun h => ?_) <;> simp only [h,updO,h0,h1,h5,e1,eES,Nat.reduceBEq,↓reduceIte]) | (refine gsel_f (fun h => ?_) (fun h => ?_) <;> simp only [h,updO,h0,h1,h5,e1,e2,eES,eEX,Nat.reduceBEq,Int.reduceLE,Int.reduceLT,Int.reduceToNat,Int.reduceEq,↓reduceIte,reduceCtorEq,Nat.reducePow,Nat.reduceAdd,Nat.reduceLeDiff,Nat.reduceLT,Nat.reduceSub,Nat.reduceEqDiff]) | ((with_reducible apply aops_call (k:=289)); (case hy => rfl); (case h1 => rfl); (case hk => exact c289 s (i + 1) 2 (by omega)); (case h2 => rfl); (case h3 => first | exact .inl rfl | exact .inr rfl); simp only [eES,Nat.reduceBEq]))
 all_goals (refine hQ _ _ ?_ (by first | rfl | exact h0 | simp only [h0,eES,eEX,Nat.reduceBEq,↓reduceIte,reduceCtorEq,Nat.reduceEqDiff]) (by first | rfl | exact h1 | simp only [h1,eES,eEX,Nat.reduceBEq,↓reduceIte,reduceCtorEq,Nat.reduceEqDiff]) (by first | rfl | exact h5 | simp only [h5,eES,eEX,Nat.reduceBEq,↓reduceIte,reduceCtorEq,Nat.reduceEqDiff]) rfl)
 all_goals simp only [decide_eq_true_eq,decide_eq_false_iff_not,bne_iff_ne,bne_eq_false_iff_eq,ne_eq] at *
 all_goals
  constructor
  ·intro hh
   first
    | cases hh
    | (refine ⟨by omega,?_⟩; first | exact hh | (refine ⟨by omega,?_⟩; first | exact hh | (refine ⟨by omega,?_⟩; exact hh)) | exact ⟨by assumption,hh⟩)
  ·intro hh
   first
    | exact hh.2.2.2
    | exact hh.2.2
    | (exfalso; omega)
    | (exfalso; simp_all; done)

theorem stg12 : Stg s i c 72 (c.toNat = 240 ∧ bt s (i + 1) 144 191 = true ∧ tl s (i + 2) 2 = true) g264_12:=by
 intro Q hQ f h0 h1 h5
 have e1 : IntKind.i64.wrap ((i : Int) + 1) = ((i + 1 : Nat) : Int):=wadd i 1 (by omega)
 have e2 : IntKind.i64.wrap ((i : Int) + 2) = ((i + 2 : Nat) : Int):=wadd i 2 (by omega)
 simp only [g264_12,h5,eES,Nat.reduceBEq,↓reduceIte]
 repeat' (first | (refine csel_of (fun h => ?_) (fun h => ?_) <;> simp only [h,h0,h1,h5,e1,e2,eES,eEX,Nat.reduceBEq,Int.reduceLE,Int.reduceLT,Int.reduceToNat,Int.reduceEq,↓reduceIte,reduceCtorEq,Nat.reducePow,Nat.reduceAdd,Nat.reduceLeDiff,Nat.reduceLT,Nat.reduceSub,Nat.reduceEqDiff]) | (refine gsel_t (fun h => ?_) (fun h => ?_) <;> simp only [h,updO,h0,h1,e1,e2,eES,Nat.reduceBEq,↓reduceIte]) | (refine gsel_f (fun h => ?_) (fun h => ?_) <;> simp only [h,updO,h0,h1,h5,e1,e2,eES,eEX,Nat.reduceBEq,Int.reduceLE,Int.reduceLT,Int.reduceToNat,Int.reduceEq,↓reduceIte,reduceCtorEq,Nat.reducePow,Nat.reduceAdd,Nat.reduceLeDiff,Nat.reduceLT,Nat.reduceSub,Nat.reduceEqDiff]) | ((with_reducible apply aops_call (k:=290)); (case hy => rfl); (case h1 => rfl); (case hk => exact c290 s (i + 1) 144 191); (case h2 => rfl); (case h3 => first | exact .inl rfl | exact .inr rfl); simp only [eES,Nat.reduceBEq]) | ((with_reducible apply aops_call (k:=289)); (case hy => rfl); (case h1 => rfl); (case hk => exact c289 s (i + 2) 2 (by omega)); (case h2 => rfl); (case h3 => first | exact .inl rfl | exact .inr rfl); simp only [eES,Nat.reduceBEq]))
 all_goals (refine hQ _ _ ?_ (by first | rfl | exact h0 | simp only [h0,eES,eEX,Nat.reduceBEq,↓reduceIte,reduceCtorEq,Nat.reduceEqDiff]) (by first | rfl | exact h1 | simp only [h1,eES,eEX,Nat.reduceBEq,↓reduceIte,reduceCtorEq,Nat.reduceEqDiff]) (by first | rfl | exact h5 | simp only [h5,eES,eEX,Nat.reduceBEq,↓reduceIte,reduceCtorEq,Nat.reduceEqDiff]) rfl)
 all_goals simp only [beq_iff_eq,beq_eq_false_iff_ne,ne_eq] at *
 all_goals
  constructor
  ·intro hh
   first
    | cases hh
    | (refine ⟨by omega,?_⟩; first | exact hh | (refine ⟨by omega,?_⟩; first | exact hh | (refine ⟨by omega,?_⟩; exact hh)) | exact ⟨by assumption,hh⟩)
  ·intro hh
   first
    | exact hh.2.2.2
    | exact hh.2.2
    | (exfalso; omega)
    | (exfalso; simp_all; done)

theorem stg14 : Stg s i c 87 (241 ≤ c.toNat ∧ c.toNat ≤ 243 ∧ tl s (i + 1) 3 = true) g264_14:=by
 intro Q hQ f h0 h1 h5
 have e1 : IntKind.i64.wrap ((i : Int) + 1) = ((i + 1 : Nat) : Int):=wadd i 1 (by omega)
 have e2 : IntKind.i64.wrap ((i : Int) + 2) = ((i + 2 : Nat) : Int):=wadd i 2 (by omega)
 simp only [g264_14,h5,eES,Nat.reduceBEq,↓reduceIte]
 repeat' (first | (refine csel_of (fun h => ?_) (fun h => ?_) <;> simp only [h,h0,h1,h5,e1,e2,eES,eEX,Nat.reduceBEq,Int.reduceLE,Int.reduceLT,Int.reduceToNat,Int.reduceEq,↓reduceIte,reduceCtorEq,Nat.reducePow,Nat.reduceAdd,Nat.reduceLeDiff,Nat.reduceLT,Nat.reduceSub,Nat.reduceEqDiff]) | (refine gsel_t (fun h => ?_) (fun h => ?_) <;> simp only [h,updO,h0,h1,h5,e1,eES,Nat.reduceBEq,↓reduceIte]) | (refine gsel_f (fun h => ?_) (fun h => ?_) <;> simp only [h,updO,h0,h1,h5,e1,e2,eES,eEX,Nat.reduceBEq,Int.reduceLE,Int.reduceLT,Int.reduceToNat,Int.reduceEq,↓reduceIte,reduceCtorEq,Nat.reducePow,Nat.reduceAdd,Nat.reduceLeDiff,Nat.reduceLT,Nat.reduceSub,Nat.reduceEqDiff]) | ((with_reducible apply aops_call (k:=289)); (case hy => rfl); (case h1 => rfl); (case hk => exact c289 s (i + 1) 3 (by omega)); (case h2 => rfl); (case h3 => first | exact .inl rfl | exact .inr rfl); simp only [eES,Nat.reduceBEq]))
 all_goals (refine hQ _ _ ?_ (by first | rfl | exact h0 | simp only [h0,eES,eEX,Nat.reduceBEq,↓reduceIte,reduceCtorEq,Nat.reduceEqDiff]) (by first | rfl | exact h1 | simp only [h1,eES,eEX,Nat.reduceBEq,↓reduceIte,reduceCtorEq,Nat.reduceEqDiff]) (by first | rfl | exact h5 | simp only [h5,eES,eEX,Nat.reduceBEq,↓reduceIte,reduceCtorEq,Nat.reduceEqDiff]) rfl)
 all_goals simp only [decide_eq_true_eq,decide_eq_false_iff_not] at *
 all_goals
  constructor
  ·intro hh
   first
    | cases hh
    | (refine ⟨by omega,?_⟩; first | exact hh | (refine ⟨by omega,?_⟩; first | exact hh | (refine ⟨by omega,?_⟩; exact hh)) | exact ⟨by assumption,hh⟩)
  ·intro hh
   first
    | exact hh.2.2.2
    | exact hh.2.2
    | (exfalso; omega)
    | (exfalso; simp_all; done)

theorem stg16 : Stg s i c 100 (c.toNat = 244 ∧ bt s (i + 1) 128 143 = true ∧ tl s (i + 2) 2 = true) g264_16:=by
 intro Q hQ f h0 h1 h5
 have e1 : IntKind.i64.wrap ((i : Int) + 1) = ((i + 1 : Nat) : Int):=wadd i 1 (by omega)
 have e2 : IntKind.i64.wrap ((i : Int) + 2) = ((i + 2 : Nat) : Int):=wadd i 2 (by omega)
 simp only [g264_16,h5,eES,Nat.reduceBEq,↓reduceIte]
 repeat' (first | (refine csel_of (fun h => ?_) (fun h => ?_) <;> simp only [h,h0,h1,h5,e1,e2,eES,eEX,Nat.reduceBEq,Int.reduceLE,Int.reduceLT,Int.reduceToNat,Int.reduceEq,↓reduceIte,reduceCtorEq,Nat.reducePow,Nat.reduceAdd,Nat.reduceLeDiff,Nat.reduceLT,Nat.reduceSub,Nat.reduceEqDiff]) | (refine gsel_t (fun h => ?_) (fun h => ?_) <;> simp only [h,updO,h0,h1,e1,e2,eES,Nat.reduceBEq,↓reduceIte]) | (refine gsel_f (fun h => ?_) (fun h => ?_) <;> simp only [h,updO,h0,h1,h5,e1,e2,eES,eEX,Nat.reduceBEq,Int.reduceLE,Int.reduceLT,Int.reduceToNat,Int.reduceEq,↓reduceIte,reduceCtorEq,Nat.reducePow,Nat.reduceAdd,Nat.reduceLeDiff,Nat.reduceLT,Nat.reduceSub,Nat.reduceEqDiff]) | ((with_reducible apply aops_call (k:=290)); (case hy => rfl); (case h1 => rfl); (case hk => exact c290 s (i + 1) 128 143); (case h2 => rfl); (case h3 => first | exact .inl rfl | exact .inr rfl); simp only [eES,Nat.reduceBEq]) | ((with_reducible apply aops_call (k:=289)); (case hy => rfl); (case h1 => rfl); (case hk => exact c289 s (i + 2) 2 (by omega)); (case h2 => rfl); (case h3 => first | exact .inl rfl | exact .inr rfl); simp only [eES,Nat.reduceBEq]))
 all_goals (refine hQ _ _ ?_ (by first | rfl | exact h0 | simp only [h0,eES,eEX,Nat.reduceBEq,↓reduceIte,reduceCtorEq,Nat.reduceEqDiff]) (by first | rfl | exact h1 | simp only [h1,eES,eEX,Nat.reduceBEq,↓reduceIte,reduceCtorEq,Nat.reduceEqDiff]) (by first | rfl | exact h5 | simp only [h5,eES,eEX,Nat.reduceBEq,↓reduceIte,reduceCtorEq,Nat.reduceEqDiff]) rfl)
 all_goals simp only [beq_iff_eq,beq_eq_false_iff_ne,ne_eq] at *
 all_goals
  constructor
  ·intro hh
   first
    | cases hh
    | (refine ⟨by omega,?_⟩; first | exact hh | (refine ⟨by omega,?_⟩; first | exact hh | (refine ⟨by omega,?_⟩; exact hh)) | exact ⟨by assumption,hh⟩)
  ·intro hh
   first
    | exact hh.2.2.2
    | exact hh.2.2
    | (exfalso; omega)
    | (exfalso; simp_all; done)

end

theorem c264 (s : List UInt8) (i : Nat) (hi : i < s.length) (hs : s.length + 8 ≤ maxLen) : Fn1 Tryz.prog 264 [.str s,.int .i64 (i : Nat)] (.int .i64 (sz s i : Nat)):=by
 refine fn1_of_awp (rc:=r264) (rs:=o264) Tryz.func264 rfl rfl Tryz.ntmps264 k264 q264 (by simp) ?_
 obtain ⟨c,hc⟩ : ∃ c,s[i]? = some c:=⟨s[i],List.getElem?_eq_getElem hi⟩
 have hz : sz s i = szb s i c.toNat:=by simp only [sz,hc]
 unfold szb at hz
 simp only [g264_0,g264_1,g264_2,g264_3,g264_5,g264_7,g264_9,g264_11,g264_13,g264_15,g264_17,g264_18,r264,o264,nneg,Int.toNat_natCast,hc,eES,Nat.reduceBEq,↓reduceIte]
 refine csel_of (fun h => ?_) (fun h => ?_)
 ·have h : c.toNat < 128:=by simp at h; omega
  rw [hz,if_pos h]
  simp only [eES,Nat.reduceBEq]
  rfl
 have h : ¬ c.toNat < 128:=by simp at h; omega
 rw [hz,if_neg h]
 simp only [eES]
 refine stg4 hi hs _ (fun f B hB h0 h1 h5 hd => ?_) _ (by first | rfl | simp only [eES,eEX,Nat.reduceBEq,↓reduceIte,reduceCtorEq,Nat.reduceEqDiff]) (by first | rfl | simp only [eES,eEX,Nat.reduceBEq,↓reduceIte,reduceCtorEq,Nat.reduceEqDiff]) (by first | rfl | simp only [eES,eEX,Nat.reduceBEq,↓reduceIte,reduceCtorEq,Nat.reduceEqDiff])
 by_cases hB1 : B = true
 ·rw [if_pos (hB.1 hB1)]
  subst hB1
  simp only [hd,eES,Nat.reduceBEq]
  rfl
 rw [if_neg (fun hh => hB1 (hB.2 hh))]
 have hB2 : B = false:=by simpa using hB1
 subst hB2
 simp only [hd,eES]
 refine stg6 hi hs _ (fun f B hB h0 h1 h5 hd => ?_) _ (by first | rfl | exact h0 | simp only [h0,eES,eEX,Nat.reduceBEq,↓reduceIte,reduceCtorEq,Nat.reduceEqDiff]) (by first | rfl | exact h1 | simp only [h1,eES,eEX,Nat.reduceBEq,↓reduceIte,reduceCtorEq,Nat.reduceEqDiff]) (by first | rfl | exact h5 | simp only [h5,eES,eEX,Nat.reduceBEq,↓reduceIte,reduceCtorEq,Nat.reduceEqDiff])
 by_cases hB1 : B = true
 ·rw [if_pos (hB.1 hB1)]
  subst hB1
  simp only [hd,eES,Nat.reduceBEq]
  rfl
 rw [if_neg (fun hh => hB1 (hB.2 hh))]
 have hB2 : B = false:=by simpa using hB1
 subst hB2
 simp only [hd,eES]
 refine stg8 hi hs _ (fun f B hB h0 h1 h5 hd => ?_) _ (by first | rfl | exact h0 | simp only [h0,eES,eEX,Nat.reduceBEq,↓reduceIte,reduceCtorEq,Nat.reduceEqDiff]) (by first | rfl | exact h1 | simp only [h1,eES,eEX,Nat.reduceBEq,↓reduceIte,reduceCtorEq,Nat.reduceEqDiff]) (by first | rfl | exact h5 | simp only [h5,eES,eEX,Nat.reduceBEq,↓reduceIte,reduceCtorEq,Nat.reduceEqDiff])
 by_cases hB1 : B = true
 ·rw [if_pos (hB.1 hB1)]
  subst hB1
  simp only [hd,eES,Nat.reduceBEq]
  rfl
 rw [if_neg (fun hh => hB1 (hB.2 hh))]
 have hB2 : B = false:=by simpa using hB1
 subst hB2
 simp only [hd,eES]
 refine stg10 hi hs _ (fun f B hB h0 h1 h5 hd => ?_) _ (by first | rfl | exact h0 | simp only [h0,eES,eEX,Nat.reduceBEq,↓reduceIte,reduceCtorEq,Nat.reduceEqDiff]) (by first | rfl | exact h1 | simp only [h1,eES,eEX,Nat.reduceBEq,↓reduceIte,reduceCtorEq,Nat.reduceEqDiff]) (by first | rfl | exact h5 | simp only [h5,eES,eEX,Nat.reduceBEq,↓reduceIte,reduceCtorEq,Nat.reduceEqDiff])
 by_cases hB1 : B = true
 ·rw [if_pos (hB.1 hB1)]
  subst hB1
  simp only [hd,eES,Nat.reduceBEq]
  rfl
 rw [if_neg (fun hh => hB1 (hB.2 hh))]
 have hB2 : B = false:=by simpa using hB1
 subst hB2
 simp only [hd,eES]
 refine stg12 hi hs _ (fun f B hB h0 h1 h5 hd => ?_) _ (by first | rfl | exact h0 | simp only [h0,eES,eEX,Nat.reduceBEq,↓reduceIte,reduceCtorEq,Nat.reduceEqDiff]) (by first | rfl | exact h1 | simp only [h1,eES,eEX,Nat.reduceBEq,↓reduceIte,reduceCtorEq,Nat.reduceEqDiff]) (by first | rfl | exact h5 | simp only [h5,eES,eEX,Nat.reduceBEq,↓reduceIte,reduceCtorEq,Nat.reduceEqDiff])
 by_cases hB1 : B = true
 ·rw [if_pos (hB.1 hB1)]
  subst hB1
  simp only [hd,eES,Nat.reduceBEq]
  rfl
 rw [if_neg (fun hh => hB1 (hB.2 hh))]
 have hB2 : B = false:=by simpa using hB1
 subst hB2
 simp only [hd,eES]
 refine stg14 hi hs _ (fun f B hB h0 h1 h5 hd => ?_) _ (by first | rfl | exact h0 | simp only [h0,eES,eEX,Nat.reduceBEq,↓reduceIte,reduceCtorEq,Nat.reduceEqDiff]) (by first | rfl | exact h1 | simp only [h1,eES,eEX,Nat.reduceBEq,↓reduceIte,reduceCtorEq,Nat.reduceEqDiff]) (by first | rfl | exact h5 | simp only [h5,eES,eEX,Nat.reduceBEq,↓reduceIte,reduceCtorEq,Nat.reduceEqDiff])
 by_cases hB1 : B = true
 ·rw [if_pos (hB.1 hB1)]
  subst hB1
  simp only [hd,eES,Nat.reduceBEq]
  rfl
 rw [if_neg (fun hh => hB1 (hB.2 hh))]
 have hB2 : B = false:=by simpa using hB1
 subst hB2
 simp only [hd,eES]
 refine stg16 hi hs _ (fun f B hB h0 h1 h5 hd => ?_) _ (by first | rfl | exact h0 | simp only [h0,eES,eEX,Nat.reduceBEq,↓reduceIte,reduceCtorEq,Nat.reduceEqDiff]) (by first | rfl | exact h1 | simp only [h1,eES,eEX,Nat.reduceBEq,↓reduceIte,reduceCtorEq,Nat.reduceEqDiff]) (by first | rfl | exact h5 | simp only [h5,eES,eEX,Nat.reduceBEq,↓reduceIte,reduceCtorEq,Nat.reduceEqDiff])
 by_cases hB1 : B = true
 ·rw [if_pos (hB.1 hB1)]
  subst hB1
  simp only [hd,eES,Nat.reduceBEq]
  rfl
 rw [if_neg (fun hh => hB1 (hB.2 hh))]
 have hB2 : B = false:=by simpa using hB1
 subst hB2
 simp only [hd,eES,Nat.reduceBEq]
 rfl

end Go.Proofs.YtelhohgmmhbahaaGreatDoor.Va

set_option linter.unusedSimpArgs false
namespace Go.Proofs.YtelhohgmmhbahaaGreatDoor.Va
open Go Am Rc Bt

theorem sz_le (s : List UInt8) (i : Nat) (hi : i < s.length) (_h : sz s i ≠ 0) : i + sz s i ≤ s.length:=by
 have tl1 : ∀ n j,tl s j n = true → n ≠ 0 → j + n ≤ s.length:=by
  intro n
  induction n with
  | zero => intro j _ h; exact absurd rfl h
  | succ n ih =>
   intro j hj _
   simp only [tl,Bool.and_eq_true] at hj
   have hb : j < s.length:=by
    have h1:=hj.1
    unfold bt at h1
    split at h1
    ·rename_i b hb
     exact (List.getElem?_eq_some_iff.1 hb).1
    ·cases h1
   by_cases h0 : n = 0
   ·subst h0; omega
   ·have:=ih (j + 1) hj.2 h0
    omega
 obtain ⟨c,hc⟩ : ∃ c,s[i]? = some c:=⟨s[i],List.getElem?_eq_getElem hi⟩
 simp only [sz,hc] at _h ⊢
 unfold szb at _h ⊢
 (repeat' split) <;> first
  | omega
  | (rename_i hh; have:=tl1 _ _ hh.2.2 (by decide); omega)
  | (rename_i hh; have:=tl1 _ _ hh.2.2.2 (by decide); omega)
  | simp_all

def BadI (s : List UInt8) (k : Nat) (st : St) : Prop :=
 ∃ f i,st = ⟨f,[noObs],[]⟩ ∧ i ≤ s.length ∧ s.length - i ≤ k ∧ bad s s.length 0 = bad s k i ∧ f 0 = .str s ∧ f 3 = .int .i64 (i : Nat)

theorem c221 (s : List UInt8) (hs : s.length + 8 ≤ maxLen) : Fn1 Tryz.prog 221 [.str s] (.int .i64 (bad s s.length 0)):=by
 refine fn1_of_awp (rc:=r221) (rs:=o221) Tryz.func221 rfl rfl Tryz.ntmps221 k221 q221 (by simp) ?_
 simp only [g221_0,g221_1,g221_7,r221,o221,eES]
 refine awp_loop (BadI s) s.length ⟨_,0,rfl,Nat.zero_le _,Nat.le_refl _,rfl,rfl,rfl⟩ ?_
 rintro k st ⟨f,i,rfl,hi,hk,hb,h0,h3⟩
 simp only [l221_0,g221_2,g221_3,g221_4,g221_5,g221_6,h0,h3,eES,Nat.reduceBEq,↓reduceIte]
 by_cases hlt : i < s.length
 ·simp only [lt_t hlt,h0,h3,eES,Nat.reduceBEq]
  refine aops_call (c264 s i hlt hs) rfl rfl rfl (.inl rfl) ?_
  obtain ⟨k,rfl⟩ : ∃ n,k = n + 1:=⟨k - 1,by omega⟩
  have hbk : bad s (k + 1) i = if sz s i = 0 then (i : Int) else bad s k (i + sz s i):=by
   show (if i < s.length then _ else _) = _
   rw [if_pos hlt]
  by_cases hz : sz s i = 0
  ·have b0 : ((sz s i : Int) == 0) = true:=by simp [hz]
   simp only [b0,h3,hb,hbk,if_pos hz,eES,Nat.reduceBEq,↓reduceIte]
  ·have b0 : ((sz s i : Int) == 0) = false:=by simp; omega
   have hle:=sz_le s i hlt hz
   have e0:=wadd i (sz s i) (by omega)
   simp only [b0,h3,e0,eES,Nat.reduceBEq,↓reduceIte]
   exact ⟨k,by omega,_,i + sz s i,rfl,hle,by omega,by rw [hb,hbk,if_neg hz],(by first | rfl | exact h0 | simp only [h0,eES,eEX,Nat.reduceBEq,↓reduceIte,reduceCtorEq,Nat.reduceEqDiff]),(by first | rfl | simp only [eES,eEX,Nat.reduceBEq,↓reduceIte,reduceCtorEq,Nat.reduceEqDiff])⟩
 ·have hbk : bad s k i = -1:=by
   cases k with
   | zero => rfl
   | succ k =>
    show (if i < s.length then _ else _) = _
    rw [if_neg hlt]
  simp only [lt_f hlt,hb,hbk,eES,Nat.reduceBEq,↓reduceIte]

theorem c169 (s : List UInt8) (hs : s.length + 8 ≤ maxLen) : Fn1 Tryz.prog 169 [.str s] (.bool (vld s)):=by
 refine fn1_of_awp (rc:=r169) (rs:=o169) Tryz.func169 rfl rfl Tryz.ntmps169 k169 q169 (by simp) ?_
 simp only [g169_0,g169_1,r169,o169,eES,Nat.reduceBEq]
 refine aops_call (c221 s hs) rfl rfl rfl (.inl rfl) ?_
 simp only [eES,Nat.reduceBEq,↓reduceIte]
 rfl

def repl (s : List UInt8) (i : Nat) : Bool:=(s.drop i).take 3 == [239,191,189]

theorem c287 (s t : List UInt8) : Fn1 Tryz.prog 287 [.str s,.str t] (.bool (s.take t.length == t)):=by
 refine fn1_of_awp (rc:=r287) (rs:=o287) Tryz.func287 rfl rfl Tryz.ntmps287 k287 q287 (by simp) ?_
 by_cases h : t.length ≤ s.length
 ·have d0 : decide ((s.length : Int) ≥ (t.length : Int)) = true:=by simp; omega
  have s1 : (0 ≤ t.length ∧ t.length ≤ s.length) = True:=by simp; omega
  simp only [g287_0,g287_1,r287,o287,d0,nneg,s1,Int.toNat_natCast,astr,Nat.sub_zero,List.drop_zero,eES,Nat.reduceBEq,↓reduceIte]
 ·have d0 : decide ((s.length : Int) ≥ (t.length : Int)) = false:=by simp; omega
  have e0 : (s.take t.length == t) = false:=by
   rw [beq_eq_false_iff_ne]
   intro hh
   have:=congrArg List.length hh
   simp at this
   omega
  simp only [g287_0,g287_1,r287,o287,d0,e0,eES,Nat.reduceBEq,↓reduceIte]

theorem c261 (s t : List UInt8) : Fn1 Tryz.prog 261 [.str s,.str t] (.bool (s.take t.length == t)):=by
 refine fn1_of_awp (rc:=r261) (rs:=o261) Tryz.func261 rfl rfl Tryz.ntmps261 k261 q261 (by simp) ?_
 simp only [g261_0,g261_1,r261,o261,eES,Nat.reduceBEq]
 refine aops_call (c287 s t) rfl rfl rfl (.inl rfl) ?_
 simp only [eES,Nat.reduceBEq]

theorem c215 (s : List UInt8) (i : Nat) (hi : i ≤ s.length) (c : Nat) : Fn1 Tryz.prog 215 [.str s,.int .i64 (i : Nat),.int .i32 (c : Nat)] (.bool (decide (c = 65533) && !repl s i)):=by
 refine fn1_of_awp (rc:=r215) (rs:=o215) Tryz.func215 rfl rfl Tryz.ntmps215 k215 q215 (by simp) ?_
 by_cases hc : c = 65533
 ·have b0 : ((c : Int) == 65533) = true:=by simp [hc]
  have s1 : (i ≤ s.length ∧ s.length ≤ s.length) = True:=by simp; omega
  simp only [g215_0,g215_1,r215,o215,b0,nneg,s1,Int.toNat_natCast,eES,Nat.reduceBEq,↓reduceIte]
  refine aops_call (c261 (List.take (s.length - i) (List.drop i s)) [239,191,189]) rfl rfl rfl (.inl rfl) ?_
  have ht : List.take (s.length - i) (List.drop i s) = List.drop i s:=List.take_of_length_le (by simp)
  simp only [ht,repl,hc,eES,Nat.reduceBEq,Nat.reduceAdd]
 ·have b0 : ((c : Int) == 65533) = false:=by simp; omega
  simp only [g215_0,g215_1,r215,o215,b0,hc,eES,Nat.reduceBEq,↓reduceIte]
  simp

end Go.Proofs.YtelhohgmmhbahaaGreatDoor.Va

namespace Go.Proofs.YtelhohgmmhbahaaGreatDoor.Vp

def vput : Nat → Nat → List UInt8
 | 0,u => [UInt8.ofNat u]
 | k + 1,u => if u < 128 then [UInt8.ofNat u] else UInt8.ofNat (u % 128 + 128) :: vput k (u / 128)

def put (u : Nat) : List UInt8:=vput 9 u

def vtk : Nat → Nat → List UInt8 → Nat × Nat × Nat
 | _,_,[] => (0,0,4)
 | i,acc,c :: t =>
  if i = 9 ∧ 1 < c.toNat then (0,0,6)
  else if c.toNat < 128 then (acc + c.toNat * 128 ^ i,i + 1,0)
  else vtk (i + 1) (acc + (c.toNat - 128) * 128 ^ i) t

def take (s : List UInt8) : Nat × Nat × Nat:=vtk 0 0 s

theorem toNat_ofNat (n : Nat) (h : n < 256) : (UInt8.ofNat n).toNat = n:=by
 simp [UInt8.toNat_ofNat']; omega

theorem vtk_append (i acc : Nat) (s t : List UInt8) (h : (vtk i acc s).2.2 ≠ 4) : vtk i acc (s ++ t) = vtk i acc s:=by
 induction s generalizing i acc with
 | nil => simp [vtk] at h
 | cons c r ih =>
  simp only [List.cons_append]
  unfold vtk at h ⊢
  split
  ·rfl
  ·rename_i h1
   rw [if_neg h1] at h
   split
   ·rfl
   ·rename_i h2
    rw [if_neg h2] at h
    exact ih _ _ h

theorem vtk_ten (i acc : Nat) (s : List UInt8) (hi : i ≤ 9) (hl : 10 ≤ i + s.length) : (vtk i acc s).2.2 ≠ 4:=by
 induction s generalizing i acc with
 | nil => simp at hl; omega
 | cons c r ih =>
  unfold vtk
  split
  ·simp
  ·rename_i h1
   split
   ·simp
   ·rename_i h2
    exact ih _ _ (by omega) (by simp at hl; omega)

theorem take_take (s : List UInt8) : take (s.take 10) = take s:=by
 rcases Nat.lt_or_ge s.length 10 with h | h
 ·rw [List.take_of_length_le (by omega)]
 ·have:=vtk_append 0 0 (s.take 10) (s.drop 10) (vtk_ten 0 0 _ (by omega) (by simp; omega))
  rw [List.take_append_drop] at this
  exact this.symm

end Go.Proofs.YtelhohgmmhbahaaGreatDoor.Vp

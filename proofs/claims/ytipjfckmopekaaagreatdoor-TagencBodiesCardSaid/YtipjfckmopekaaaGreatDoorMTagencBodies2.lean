/- Parts of the proof, in order. -/
import Derived.WalkKit
import Derived.Lib.SmallJoins
import Derived.Deep.Slices
import Derived.DataShut
import Derived.Test.YtipjfckmopekaaaGreatDoorRows
import Derived.Test.YtipjfckmopekaaaGreatDoorProg
import Derived.Lib.IndexLaws
import Derived.Test.YtipjfckmopekaaaGreatDoorMTagencBodies1

namespace Go.Proofs.YtipjfckmopekaaaGreatDoor.Rc
open Go Am
abbrev QAP:IL:=[je 1 1 0,jd 2 0]
abbrev QAQ:IL:=[jf 4 2 1,jr 5 43 4,jz 6 5,ja 3 6]
abbrev QAR:IL:=[jd 2 3]
abbrev QAS:IL:=[jf 8 2 1,jr 9 44 8,jz 10 9,ja 7 10]
abbrev QAT:IL:=[jd 2 8]
abbrev QAU:IL:=[jf 12 2 1,jr 13 45 12,jz 14 13,ja 11 14]
abbrev QAV:IL:=[jd 2 11]
abbrev QAW:IL:=[jf 16 2 1,jr 17 46 16,jz 18 17,ja 15 18]
abbrev QAX:IL:=[jd 2 9]
abbrev QAY:IL:=[jf 20 2 1,jr 21 47 20,jz 22 21,ja 19 22]
abbrev QlA:IL:=[jd 2 6]
abbrev QlB:IL:=[jf 24 2 1,jr 25 48 24,jz 26 25,ja 23 26]
abbrev QlC:IL:=[jd 2 1]
abbrev QlD:IL:=[jf 28 2 1,jr 29 49 28,jz 30 29,ja 27 30]
abbrev QlE:IL:=[jd 2 19]
abbrev QlF:IL:=[jd 2 0]
abbrev r22:RC:=jQ QAP (.seq (.block 0 (jQ QAQ (.cond (.t 3) (jQ QAR (.ret)) (jQ QAS (.cond (.t 7) (jQ QAT (.ret)) (jQ QAU (.cond (.t 11) (jQ QAV (.ret)) (jQ QAW (.cond (.t 15) (jQ QAX (.ret)) (jQ QAY (.cond (.t 19) (jQ QlA (.ret)) (jQ QlB (.cond (.t 23) (jQ QlC (.ret)) (jQ QlD (.cond (.t 27) (jQ QlE (.ret)) (.skip)))))))))))))))) (jQ QlF (.ret)))
abbrev o22:List RR:=[.tmp 2]
theorem k22:CT 22 31 r22 o22:=ck Tryz.func22 Tryz.ntmps22 (by decide +kernel)
abbrev QAZ:IL:=[je 4 4 0,je 6 6 2,jd 8 0]
abbrev QA0:IL:=[jb 18 0 6,jc 19 18,yg 20 19 10,ja 21 20,yv 22 7 6 21,zi 23 59 22 21,jo 24 21 23]
abbrev QA1:IL:=[jd 8 12]
abbrev QA2:IL:=[ja 25 3,yq 26 25 16]
abbrev QA3:IL:=[jd 8 17]
abbrev QA4:IL:=[jb 27 0 4,jc 28 27,ja 29 1,jk 30 3 28 29,jf 31 3 30,⟨some 9,.allocN 9 [.str [],.nils,.int .i64 0],none⟩,js 3 9 31]
abbrev QA5:IL:=[jd 10 0]
abbrev QA6:IL:=[ja 32 10,jb 33 5 6,jc 34 33,ji 35 1 34,jn 36 32 35]
abbrev QA7:IL:=[jf 39 3 9,jb 40 5 6,jc 41 40,ja 42 10,yd 43 60 39 41 42,ja 11 43]
abbrev QlG:IL:=[ja 44 11,yg 45 44 0]
abbrev QlH:IL:=[ja 46 11,ja 8 46]
abbrev QlI:IL:=[jw 48 0 9 3 9,jb 49 5 6,yb 50 0 6 49,ja 51 10,jk 52 8 50 51,jb 53 0 52,zx 54 53,jy 55 38 48 54,ja 47 55,jx 56 47 0,jx 57 47 1,zd 12 12,zp 0 12 8 12 56,ja 13 57]
abbrev QlJ:IL:=[jw 58 0 4 2 4,jw 59 0 12 8 12,jb 60 5 6,yb 61 0 6 60,ja 62 10,jk 63 8 61 62,jb 64 1 63,ya 65 7 64,ja 66 3,zj 67 61 58 59 65 66,ja 14 67]
abbrev QlK:IL:=[ja 68 14,yg 69 68 0]
abbrev QlL:IL:=[ja 70 14,ja 8 70]
abbrev QA8:IL:=[ja 37 10,jm 38 37 1,ja 10 38]
abbrev RZ:RC:=.gho (.drop 12) (.seq (jQ QA6 (jX 36 0)) (.seq (.block 1 (.seq (jQ QA7 (jQ QlG (.cond (.t 45) (jQ QlH (.ret)) (.skip)))) (jD QlI (jD QlJ (jQ QlK (.cond (.t 69) (jQ QlL (.ret)) (.skip))))))) (.reg QA8)))
abbrev QlM:IL:=[jd 15 0]
abbrev QlN:IL:=[ja 71 15,jb 72 1 9,jc 73 72,ji 74 1 73,jn 75 71 74]
abbrev QlO:IL:=[jb 78 1 9,yb 79 0 9 78,ja 80 15,jk 81 8 79 80,jb 82 3 81,zx 83 82,jq 84 83 1,ja 85 84,zt 86 0 6 7 6 85,jl 87 1 9 85,zb 88 0 9 87 85,jg 89 15 85,yc 90 8 88 89 85,jl 91 0 90 85,yp 92 91 85,H9 93 62 86 92 85,yx 94 93 85,jj 95 85 94]
abbrev QlP:IL:=[jd 8 14]
abbrev QlQ:IL:=[ja 76 15,jm 77 76 1,ja 15 77]
abbrev R0:RC:=.seq (jQ QlN (jX 75 2)) (.seq (.block 3 (jD QlO (.cond (.t 95) (jQ QlP (.ret)) (.skip)))) (.reg QlQ))
abbrev QlR:IL:=[jd 16 0]
abbrev QlS:IL:=[ja 96 16,jb 97 6 6,jc 98 97,ji 99 1 98,jn 100 96 99]
abbrev QlT:IL:=[jb 103 6 6,jc 104 103,ja 105 16,jk 106 4 104 105,jf 107 4 106,zn 17 17,js 4 17 107]
abbrev QlU:IL:=[jf 108 2 4,jf 109 3 9,jf 110 4 17,yd 111 63 108 109 110,jz 112 111]
abbrev QlV:IL:=[jd 8 1]
abbrev QlW:IL:=[jb 113 1 17,jc 114 113,jq 115 114 3,ja 116 115,jl 117 3 17 116,ju 118 117 116,yt 119 0 118 116,Nn 120 119 4096 116,jj 121 116 120,ja 122 121,jp 123 3 17 122,jt 124 123 122,yf 125 0 124 122,yk 126 125 65536 122,jo 127 122 126]
abbrev QlX:IL:=[jd 8 3]
abbrev QlY:IL:=[ja 101 16,jm 102 101 1,ja 16 102]
abbrev R1:RC:=.gho (.drop 17) (.seq (jQ QlS (jX 100 4)) (.seq (.block 5 (jQ QlT (.seq (jQ QlU (.cond (.t 112) (jQ QlV (.ret)) (.skip))) (jQ QlW (.cond (.t 127) (jQ QlX (.ret)) (.skip)))))) (.reg QlY)))
abbrev QlZ:IL:=[jd 8 0]
abbrev r31:RC:=jQ QAZ (.seq (jQ QA0 (.cond (.t 24) (jQ QA1 (.ret)) (.skip))) (.seq (jQ QA2 (.cond (.t 26) (jQ QA3 (.ret)) (.skip))) (jQ QA4 (.seq (jQ QA5 (.block 0 (.loop RZ))) (.seq (jQ QlM (.block 2 (.loop R0))) (.seq (jQ QlR (.block 4 (.loop R1))) (jQ QlZ (.ret))))))))
abbrev o31:List RR:=[.tmp 8]
theorem k31:CT 31 128 r31 o31:=ck Tryz.func31 Tryz.ntmps31 (by decide +kernel)
abbrev QA9:IL:=[je 1 1 0,jd 2 0]
abbrev QBa:IL:=[jb 7 6 1,jc 8 7,ji 9 1 8,⟨some 10,.val (.bin .num .add (.c (.int .i64 1)) (.t 9)),none⟩,ja 3 10]
abbrev QBb:IL:=[jd 4 0]
abbrev QBc:IL:=[ja 11 4,jb 12 3 1,jc 13 12,ji 14 1 13,jn 15 11 14]
abbrev QBd:IL:=[ja 18 3,jb 19 3 1,jc 20 19,ja 21 4,jk 22 7 20 21,jf 23 7 22,jr 24 32 23,yj 25 18 24,ja 3 25]
abbrev QBe:IL:=[ja 16 4,jm 17 16 1,ja 4 17]
abbrev QBf:RC:=.seq (jQ QBc (jX 15 0)) (.seq (.block 1 (.reg QBd)) (.reg QBe))
abbrev QBg:IL:=[jd 5 0]
abbrev QBh:IL:=[ja 26 5,jb 27 4 1,jc 28 27,ji 29 1 28,jn 30 26 29]
abbrev QBi:IL:=[ja 33 3,jb 34 4 1,yb 35 0 1 34,ja 36 5,jk 37 14 35 36,jb 38 0 37,ya 39 7 38,jr 40 32 39,jb 41 4 1,yb 42 0 1 41,ja 43 5,jk 44 14 42 43,jb 45 7 44,ya 46 7 45,jr 47 32 46,yj 48 40 47,yj 49 33 48,ja 3 49]
abbrev QBj:IL:=[ja 31 5,jm 32 31 1,ja 5 32]
abbrev QBk:RC:=.seq (jQ QBh (jX 30 2)) (.seq (.block 3 (.draw QBi)) (.reg QBj))
abbrev Ql0:IL:=[jd 6 0]
abbrev Ql1:IL:=[ja 50 6,jb 51 5 1,jc 52 51,ji 53 1 52,jn 54 50 53]
abbrev Ql2:IL:=[ja 57 3,jb 58 5 1,jc 59 58,ja 60 6,jk 61 8 59 60,jb 62 1 61,jf 63 7 62,jr 64 32 63,yj 65 57 64,ja 3 65]
abbrev Ql3:IL:=[ja 55 6,jm 56 55 1,ja 6 56]
abbrev QBl:RC:=.seq (jQ Ql1 (jX 54 4)) (.seq (.block 5 (.reg Ql2)) (.reg Ql3))
abbrev Ql4:IL:=[ja 66 3,ja 2 66]
abbrev r32:RC:=jQ QA9 (jQ QBa (.seq (jQ QBb (.block 0 (.loop QBf))) (.seq (jQ QBg (.block 2 (.loop QBk))) (.seq (jQ Ql0 (.block 4 (.loop QBl))) (jQ Ql4 (.ret))))))
abbrev o32:List RR:=[.tmp 2]
theorem k32:CT 32 67 r32 o32:=ck Tryz.func32 Tryz.ntmps32 (by decide +kernel)
abbrev QBm:IL:=[yi 2]
abbrev QBn:IL:=[yi 3]
abbrev QBo:IL:=[jd 4 0]
abbrev QBp:IL:=[ja 8 4,ja 9 0,ji 10 1 9,jn 11 8 10]
abbrev QBq:IL:=[ja 14 0,ja 15 4,jk 16 4 14 15,jf 17 4 16,zn 5 5,js 4 5 17]
abbrev QBr:IL:=[jf 18 4 5,jr 19 64 18,jz 20 19]
abbrev QBs:IL:=[jb 22 0 5,jc 23 22,jb 24 1 5,jc 25 24,jy 26 65 23 25,ja 21 26,jx 27 21 0,jx 28 21 1,ja 6 27,ja 7 28]
abbrev QBt:IL:=[ja 29 3,ja 30 6,DG 31 29 30,ja 3 31]
abbrev QBu:IL:=[jb 32 1 5,jc 33 32,jq 34 33 2]
abbrev Ql5:IL:=[ja 35 3,jb 36 2 5,jc 37 36,jr 38 66 37,DG 39 35 38,ja 3 39]
abbrev Ql6:IL:=[jb 40 1 5,jc 41 40,jr 42 67 41]
abbrev Ql7:IL:=[ja 43 3,jb 44 2 5,jc 45 44,jr 46 68 45,DG 47 43 46,ja 3 47]
abbrev Ql8:IL:=[ja 48 3,jb 49 3 5,yb 50 0 5 49,ji 51 0 50,zo 52 51,jr 53 68 52,jb 54 3 5,yb 55 0 5 54,DG 56 53 55,DG 57 48 56,ja 3 57]
abbrev QBv:IL:=[ja 12 4,jm 13 12 1,ja 4 13]
abbrev QBw:RC:=.gho (.drop 5) (.seq (jQ QBp (jX 11 0)) (.seq (.block 1 (jQ QBq (.seq (jQ QBr (.cond (.t 20) (.exit 1) (.skip))) (jQ QBs (jQ QBt (jQ QBu (.cond (.t 34) (.reg Ql5) (jQ Ql6 (.cond (.t 42) (.reg Ql7) (.draw Ql8)))))))))) (.reg QBv)))
abbrev Ql9:IL:=[ja 58 3,ja 2 58]
abbrev r33:RC:=jQ QBm (jQ QBn (.seq (jQ QBo (.block 0 (.loop QBw))) (jQ Ql9 (.ret))))
abbrev o33:List RR:=[.tmp 2]
theorem k33:CT 33 59 r33 o33:=ck Tryz.func33 Tryz.ntmps33 (by decide +kernel)
abbrev QBx:IL:=[je 3 3 0,je 5 5 2,yu 6 6]
abbrev QBy:IL:=[ja 12 1,yo 13 12 0,ja 14 13,jv 15 1 14,jp 16 0 3 14,jt 17 16 14,yf 18 1 17 14,FF 19 15 18 14,jo 20 14 19]
abbrev QBz:IL:=[⟨some 21,.val (.build [.int .i64 0,.int .u64 0,.str [],.nils,.nils,.nils,.nils] []),none⟩,js 7 6 21]
abbrev QBA:IL:=[jb 22 6 5,jc 23 22,jr 24 69 23,⟨some 25,.val (.build [.int .i64 0,.int .u64 0,.str [],.nils,.nils,.nils,.nils] [(0,1,(.c (.int .i64 10))),(6,1,(.t 24))]),none⟩,yu 7 7,js 7 7 25]
abbrev QBB:IL:=[jd 8 0]
abbrev QBC:IL:=[ja 26 8,jb 27 0 3,jc 28 27,ja 29 1,jk 30 3 28 29,jb 31 1 30,jc 32 31,ji 33 1 32,jn 34 26 33]
abbrev QBD:IL:=[jb 37 0 3,jc 38 37,ja 39 1,jk 40 3 38 39,jb 41 1 40,jc 42 41,ja 43 8,jk 44 8 42 43,jf 45 8 44,zd 9 9,js 8 9 45]
abbrev QBE:IL:=[jd 10 0]
abbrev QBF:IL:=[ja 46 10,jb 47 5 5,jc 48 47,ji 49 1 48,jn 50 46 49]
abbrev Qma:IL:=[jb 53 5 5,yb 54 0 5 53,ja 55 10,jk 56 8 54 55,jb 57 0 56,zx 58 57,jb 59 0 9,yb 60 0 9 59,zs 61 58 60]
abbrev Qmb:IL:=[jw 62 0 3 2 3,jw 63 0 9 8 9,jb 64 5 5,yb 65 0 5 64,ja 66 10,jk 67 8 65 66,jb 68 1 67,ya 69 7 68,yd 70 70 62 63 69,yu 11 11,zp 0 11 7 11 70]
abbrev Qmc:IL:=[jb 71 3 9,jc 72 71,yo 73 72 3,ja 74 73,yv 75 7 11 74,zi 76 71 75 74,ze 77 76 74,jo 78 74 77]
abbrev Qmd:IL:=[jb 79 5 7,jc 80 79,jb 81 0 9,jc 82 81,jf 83 7 11,⟨some 84,.val (.build [.int .i64 0,.int .i64 0,.int .u64 0,.str [],.nils,.nils,.nils,.nils] [(0,1,(.t 82)),(1,7,(.t 83))]),none⟩,⟨some 85,.bsl 8 1 [.int .i64 0,.int .i64 0,.int .u64 0,.str [],.nils,.nils,.nils,.nils] [(0,8,(.t 84))],none⟩,yh 86 8 136 47 80 85,jb 87 5 7,js 1 87 86]
abbrev Qme:IL:=[ja 51 10,jm 52 51 1,ja 10 52]
abbrev R2:RC:=.gho (.drop 11) (.seq (jQ QBF (jX 50 2)) (.seq (.block 3 (.seq (jD Qma (.cond (.t 61) (.exit 3) (.skip))) (jD Qmb (jQ Qmc (.cond (.t 78) (.reg Qmd) (.skip)))))) (.reg Qme)))
abbrev QBG:IL:=[ja 35 8,jm 36 35 1,ja 8 36]
abbrev QBH:RC:=.gho (.drop 11) (.gho (.drop 9) (.seq (jQ QBC (jX 34 0)) (.seq (.block 1 (jQ QBD (jQ QBE (.block 2 (.loop R2))))) (.reg QBG))))
abbrev Qmf:IL:=[jf 88 7 7,js 7 6 88]
abbrev r35:RC:=jQ QBx (.seq (jQ QBy (.cond (.t 20) (jQ QBz (.ret)) (.skip))) (jQ QBA (.gho (.vecc 7 5 1100 8) (.seq (jQ QBB (.block 0 (.loop QBH))) (jQ Qmf (.ret))))))
abbrev o35:List RR:=[.cell 6 (some 7)]
theorem k35:CT 35 89 r35 o35:=ck Tryz.func35 Tryz.ntmps35 (by decide +kernel)
abbrev QBI:IL:=[je 2 2 0,zd 4 4,jh 5]
abbrev QBJ:IL:=[jd 6 0]
abbrev QBK:IL:=[ja 7 6,jb 8 1 2,jc 9 8,ji 10 1 9,jn 11 7 10]
abbrev QBL:IL:=[jb 14 1 2,jc 15 14,ja 16 6,jk 17 8 15 16,jb 18 0 17,jc 19 18,ja 20 1,zm 21 19 20]
abbrev QBM:IL:=[jb 22 1 2,jc 23 22,ja 24 6,jk 25 8 23 24,jf 26 8 25,js 8 4 26,yl 5]
abbrev QBN:IL:=[ja 12 6,jm 13 12 1,ja 6 13]
abbrev QBO:RC:=.seq (jQ QBK (jX 11 0)) (.seq (.block 1 (jQ QBL (.cond (.t 21) (jQ QBM (.ret)) (.skip)))) (.reg QBN))
abbrev QBP:IL:=[⟨some 27,.val (.build [.int .i64 0,.str [],.str [],.int .i64 0,.int .i64 0,.int .i64 0,.int .i64 0,.int .i64 0] []),none⟩,js 8 4 27,jh 5]
abbrev r38:RC:=jQ QBI (.seq (jQ QBJ (.block 0 (.loop QBO))) (jQ QBP (.ret)))
abbrev o38:List RR:=[.cell 4 (some 8),.tmp 5]
theorem k38:CT 38 28 r38 o38:=ck Tryz.func38 Tryz.ntmps38 (by decide +kernel)
abbrev QBQ:IL:=[je 1 1 0,jh 2]
abbrev QBR:IL:=[jb 3 3 1,jc 4 3,jq 5 4 4,ja 6 5,jl 7 5 1 6,ju 8 7 6,U0 9 8 1 6,jg 10 9 6,jl 11 5 1 10,ju 12 11 10,yy 13 12 6 10,⟨some 14,.val (.pick (.t 10) (.t 13) (.c (.bool false))),(some (6,true))⟩,jg 15 14 6,jp 16 5 1 15,jt 17 16 15,ys 18 17 9 15,zf 19 15 18 6,jj 20 6 19,ja 2 20]
abbrev r41:RC:=jQ QBQ (jQ QBR (.ret))
abbrev o41:List RR:=[.tmp 2]
theorem k41:CT 41 21 r41 o41:=ck Tryz.func41 Tryz.ntmps41 (by decide +kernel)
abbrev QBS:IL:=[je 1 1 0,jh 2]
abbrev QBT:IL:=[jb 7 0 1,jc 8 7,ji 9 1 8,⟨some 10,.val (.bin .num .leq (.t 9) (.c (.int .i64 64))),none⟩,ja 11 10,jl 12 1 1 11,ju 13 12 11,yt 14 1 13 11,yy 15 14 64 11,jj 16 11 15,ja 3 16]
abbrev QBU:IL:=[jd 4 0]
abbrev QBV:IL:=[ja 17 4,jb 18 0 1,jc 19 18,ji 20 1 19,jn 21 17 20]
abbrev QBW:IL:=[ja 24 3,ja 25 24,jl 26 0 1 25,ju 27 26 25,jg 28 4 25,yc 29 3 27 28 25,jl 30 1 29 25,ju 31 30 25,yt 32 1 31 25,yy 33 32 64 25,jj 34 25 33,ja 3 34]
abbrev QBX:IL:=[ja 22 4,jm 23 22 1,ja 4 23]
abbrev R3:RC:=.seq (jQ QBV (jX 21 0)) (.seq (.block 1 (.reg QBW)) (.reg QBX))
abbrev QBY:IL:=[jd 5 0]
abbrev QBZ:IL:=[ja 35 5,jb 36 1 1,jc 37 36,ji 38 1 37,jn 39 35 38]
abbrev QB0:IL:=[jb 42 1 1,jc 43 42,ja 44 5,jk 45 5 43 44,jb 46 2 45,jc 47 46,ji 48 1 47,ja 6 48]
abbrev Qmg:IL:=[ja 49 3,ja 50 49,jg 51 6 50,U0 52 51 1 50,jj 53 50 52,ja 54 53,jg 55 6 54,yy 56 55 64 54,jj 57 54 56,ja 58 57,jl 59 1 1 58,ju 60 59 58,jg 61 5 58,yc 62 5 60 61 58,jl 63 3 62 58,ju 64 63 58,yt 65 1 64 58,yy 66 65 16 58,jj 67 58 66,ja 3 67]
abbrev QB1:IL:=[ja 40 5,jm 41 40 1,ja 5 41]
abbrev R4:RC:=.seq (jQ QBZ (jX 39 2)) (.seq (.block 3 (jQ QB0 (.reg Qmg))) (.reg QB1))
abbrev Qmh:IL:=[ja 68 3,ja 2 68]
abbrev r43:RC:=jQ QBS (jQ QBT (.seq (jQ QBU (.block 0 (.loop R3))) (.seq (jQ QBY (.block 2 (.loop R4))) (jQ Qmh (.ret)))))
abbrev o43:List RR:=[.tmp 2]
theorem k43:CT 43 69 r43 o43:=ck Tryz.func43 Tryz.ntmps43 (by decide +kernel)
abbrev QB2:IL:=[je 1 1 0,jh 2]
abbrev QB3:IL:=[yl 3]
abbrev QB4:IL:=[jd 4 0]
abbrev QB5:IL:=[ja 8 4,jb 9 0 1,jc 10 9,ji 11 1 10,jn 12 8 11]
abbrev QB6:IL:=[ja 15 3,ja 16 15,jl 17 0 1 16,ju 18 17 16,jg 19 4 16,yc 20 3 18 19 16,jl 21 0 20 16,ju 22 21 16,zh 23 76 22 16,jj 24 16 23,ja 3 24]
abbrev QB7:IL:=[jd 5 0]
abbrev QB8:IL:=[ja 25 5,jb 26 0 1,jc 27 26,ja 28 4,jk 29 3 27 28,jb 30 1 29,jc 31 30,ji 32 1 31,jn 33 25 32]
abbrev QB9:IL:=[ja 36 3,ja 37 36,jl 38 0 1 37,ju 39 38 37,jg 40 4 37,yc 41 3 39 40 37,jl 42 1 41 37,ju 43 42 37,jg 44 5 37,yc 45 8 43 44 37,jl 46 1 45 37,ju 47 46 37,zh 48 77 47 37,jj 49 37 48,ja 3 49]
abbrev QCa:IL:=[ja 34 5,jm 35 34 1,ja 5 35]
abbrev R5:RC:=.seq (jQ QB8 (jX 33 2)) (.seq (.block 3 (.reg QB9)) (.reg QCa))
abbrev QCb:IL:=[ja 13 4,jm 14 13 1,ja 4 14]
abbrev R6:RC:=.seq (jQ QB5 (jX 12 0)) (.seq (.block 1 (jQ QB6 (jQ QB7 (.block 2 (.loop R5))))) (.reg QCb))
abbrev Qmi:IL:=[jd 6 0]
abbrev Qmj:IL:=[ja 50 6,jb 51 1 1,jc 52 51,ji 53 1 52,jn 54 50 53]
abbrev Qmk:IL:=[ja 57 3,ja 58 57,jl 59 1 1 58,ju 60 59 58,jg 61 6 58,yc 62 5 60 61 58,jl 63 0 62 58,ju 64 63 58,zh 65 76 64 58,jj 66 58 65,ja 3 66]
abbrev Qml:IL:=[jd 7 0]
abbrev Qmm:IL:=[ja 67 7,jb 68 1 1,jc 69 68,ja 70 6,jk 71 5 69 70,jb 72 2 71,jc 73 72,ji 74 1 73,jn 75 67 74]
abbrev Qmn:IL:=[ja 78 3,ja 79 78,jl 80 1 1 79,ju 81 80 79,jg 82 6 79,yc 83 5 81 82 79,jl 84 2 83 79,ju 85 84 79,jg 86 7 79,yc 87 3 85 86 79,jl 88 0 87 79,ju 89 88 79,zh 90 77 89 79,jj 91 79 90,ja 3 91]
abbrev Qmo:IL:=[ja 76 7,jm 77 76 1,ja 7 77]
abbrev R7:RC:=.seq (jQ Qmm (jX 75 6)) (.seq (.block 7 (.reg Qmn)) (.reg Qmo))
abbrev Qmp:IL:=[ja 55 6,jm 56 55 1,ja 6 56]
abbrev R8:RC:=.seq (jQ Qmj (jX 54 4)) (.seq (.block 5 (jQ Qmk (jQ Qml (.block 6 (.loop R7))))) (.reg Qmp))
abbrev Qmq:IL:=[ja 92 3,ja 2 92]
abbrev r44:RC:=jQ QB2 (jQ QB3 (.seq (jQ QB4 (.block 0 (.loop R6))) (.seq (jQ Qmi (.block 4 (.loop R8))) (jQ Qmq (.ret)))))
abbrev o44:List RR:=[.tmp 2]
theorem k44:CT 44 93 r44 o44:=ck Tryz.func44 Tryz.ntmps44 (by decide +kernel)
abbrev QCc:IL:=[je 1 1 0,jh 2]
abbrev QCd:IL:=[yl 3]
abbrev QCe:IL:=[jd 4 0]
abbrev QCf:IL:=[ja 8 4,jb 9 0 1,jc 10 9,ji 11 1 10,jn 12 8 11]
abbrev QCg:IL:=[ja 15 3,ja 16 15,jg 17 4 16,ym 18 17 0 16,jg 19 18 16,jp 20 0 1 19,zl 21 0 1 20 19,jv 22 4 19,⟨some 23,.val (.bin .num .sub (.t 22) (.c (.int .i64 1))),(some (19,false))⟩,yz 24 3 21 23 19,jp 25 0 24 19,Nu 26 25 19,jp 27 0 1 19,zl 28 0 1 27 19,jv 29 4 19,yz 30 3 28 29 19,jp 31 0 30 19,Nu 32 31 19,⟨some 33,.val (.bin .str .lss (.t 26) (.t 32)),(some (19,false))⟩,zf 34 19 33 16,jj 35 16 34,ja 3 35]
abbrev QCh:IL:=[jd 5 1]
abbrev QCi:IL:=[ja 36 5,jb 37 0 1,jc 38 37,ja 39 4,jk 40 3 38 39,jb 41 1 40,jc 42 41,ji 43 1 42,jn 44 36 43]
abbrev QCj:IL:=[ja 47 3,ja 48 47,jl 49 0 1 48,zb 50 0 1 49 48,jg 51 4 48,yc 52 3 50 51 48,jl 53 1 52 48,yp 54 53 48,jg 55 5 48,DE 56 55 1 48,yc 57 8 54 56 48,jl 58 0 57 48,yp 59 58 48,jl 60 0 1 48,zb 61 0 1 60 48,jg 62 4 48,yc 63 3 61 62 48,jl 64 1 63 48,yp 65 64 48,jg 66 5 48,yc 67 8 65 66 48,jl 68 0 67 48,yp 69 68 48,zu 70 59 69 48,jj 71 48 70,ja 3 71]
abbrev QCk:IL:=[ja 45 5,jm 46 45 1,ja 5 46]
abbrev R9:RC:=.seq (jQ QCi (jX 44 2)) (.seq (.block 3 (.draw QCj)) (.reg QCk))
abbrev QCl:IL:=[ja 13 4,jm 14 13 1,ja 4 14]
abbrev Sa:RC:=.seq (jQ QCf (jX 12 0)) (.seq (.block 1 (jD QCg (jQ QCh (.block 2 (.loop R9))))) (.reg QCl))
abbrev Qmr:IL:=[jd 6 0]
abbrev Qms:IL:=[ja 72 6,jb 73 1 1,jc 74 73,ji 75 1 74,jn 76 72 75]
abbrev Qmt:IL:=[ja 79 3,ja 80 79,jg 81 6 80,ym 82 81 0 80,jg 83 82 80,jp 84 1 1 83,zl 85 0 1 84 83,jv 86 6 83,⟨some 87,.val (.bin .num .sub (.t 86) (.c (.int .i64 1))),(some (83,false))⟩,yz 88 5 85 87 83,jp 89 0 88 83,Nu 90 89 83,jp 91 1 1 83,zl 92 0 1 91 83,jv 93 6 83,yz 94 5 92 93 83,jp 95 0 94 83,Nu 96 95 83,⟨some 97,.val (.bin .str .lss (.t 90) (.t 96)),(some (83,false))⟩,zf 98 83 97 80,jj 99 80 98,ja 3 99]
abbrev Qmu:IL:=[jd 7 1]
abbrev Qmv:IL:=[ja 100 7,jb 101 1 1,jc 102 101,ja 103 6,jk 104 5 102 103,jb 105 2 104,jc 106 105,ji 107 1 106,jn 108 100 107]
abbrev Qmw:IL:=[ja 111 3,ja 112 111,jl 113 1 1 112,zb 114 0 1 113 112,jg 115 6 112,yc 116 5 114 115 112,jl 117 2 116 112,yp 118 117 112,jg 119 7 112,DE 120 119 1 112,yc 121 3 118 120 112,jl 122 1 121 112,yp 123 122 112,jl 124 1 1 112,zb 125 0 1 124 112,jg 126 6 112,yc 127 5 125 126 112,jl 128 2 127 112,yp 129 128 112,jg 130 7 112,yc 131 3 129 130 112,jl 132 1 131 112,yp 133 132 112,zu 134 123 133 112,jj 135 112 134,ja 3 135]
abbrev Qmx:IL:=[ja 109 7,jm 110 109 1,ja 7 110]
abbrev Sb:RC:=.seq (jQ Qmv (jX 108 6)) (.seq (.block 7 (.draw Qmw)) (.reg Qmx))
abbrev Qmy:IL:=[ja 77 6,jm 78 77 1,ja 6 78]
abbrev Sc:RC:=.seq (jQ Qms (jX 76 4)) (.seq (.block 5 (jD Qmt (jQ Qmu (.block 6 (.loop Sb))))) (.reg Qmy))
abbrev Qmz:IL:=[ja 136 3,ja 2 136]
abbrev r45:RC:=jQ QCc (jQ QCd (.seq (jQ QCe (.block 0 (.loop Sa))) (.seq (jQ Qmr (.block 4 (.loop Sc))) (jQ Qmz (.ret)))))
abbrev o45:List RR:=[.tmp 2]
theorem k45:CT 45 137 r45 o45:=ck Tryz.func45 Tryz.ntmps45 (by decide +kernel)
abbrev QCm:IL:=[je 1 1 0,jh 2]
abbrev QCn:IL:=[yl 3]
abbrev QCo:IL:=[jd 4 0]
abbrev QCp:IL:=[ja 13 4,jb 14 0 1,jc 15 14,ji 16 1 15,jn 17 13 16]
abbrev QCq:IL:=[jd 5 0]
abbrev QCr:IL:=[ja 20 5,jb 21 1 1,jc 22 21,ji 23 1 22,jn 24 20 23]
abbrev QCs:IL:=[ja 27 3,ja 28 27,jl 29 0 1 28,zb 30 0 1 29 28,jg 31 4 28,yc 32 3 30 31 28,jl 33 0 32 28,yp 34 33 28,jl 35 1 1 28,zb 36 0 1 35 28,jg 37 5 28,yc 38 5 36 37 28,jl 39 0 38 28,yp 40 39 28,⟨some 41,.val (.bin .str .neq (.t 34) (.t 40)),(some (28,true))⟩,jj 42 28 41,ja 3 42]
abbrev QCt:IL:=[ja 25 5,jm 26 25 1,ja 5 26]
abbrev Sd:RC:=.seq (jQ QCr (jX 24 2)) (.seq (.block 3 (.draw QCs)) (.reg QCt))
abbrev QCu:IL:=[jb 43 0 1,jc 44 43,ja 45 4,jk 46 3 44 45,jb 47 1 46,jc 48 47,ja 6 48]
abbrev QmA:IL:=[jd 7 0]
abbrev QmB:IL:=[ja 49 7,ja 50 6,ji 51 1 50,jn 52 49 51]
abbrev QmC:IL:=[jd 8 0]
abbrev QmD:IL:=[ja 55 8,ja 56 7,jn 57 55 56]
abbrev QmE:IL:=[ja 60 3,ja 61 60,jg 62 6 61,jg 63 8 61,yc 64 8 62 63 61,jl 65 1 64 61,yp 66 65 61,jg 67 6 61,jg 68 7 61,yc 69 8 67 68 61,jl 70 1 69 61,yp 71 70 61,⟨some 72,.val (.bin .str .neq (.t 66) (.t 71)),(some (61,true))⟩,jj 73 61 72,ja 3 73]
abbrev QmF:IL:=[ja 58 8,jm 59 58 1,ja 8 59]
abbrev Se:RC:=.seq (jQ QmD (jX 57 6)) (.seq (.block 7 (.draw QmE)) (.reg QmF))
abbrev QmG:IL:=[ja 53 7,jm 54 53 1,ja 7 54]
abbrev Sf:RC:=.seq (jQ QmB (jX 52 4)) (.seq (.block 5 (jQ QmC (.block 6 (.loop Se)))) (.reg QmG))
abbrev QCv:IL:=[ja 18 4,jm 19 18 1,ja 4 19]
abbrev Sg:RC:=.seq (jQ QCp (jX 17 0)) (.seq (.block 1 (.seq (jQ QCq (.block 2 (.loop Sd))) (jQ QCu (jQ QmA (.block 4 (.loop Sf)))))) (.reg QCv))
abbrev QmH:IL:=[jd 9 0]
abbrev QmI:IL:=[ja 74 9,jb 75 1 1,jc 76 75,ji 77 1 76,jn 78 74 77]
abbrev QmJ:IL:=[jb 81 1 1,jc 82 81,ja 83 9,jk 84 5 82 83,jb 85 2 84,jc 86 85,ja 10 86]
abbrev QmK:IL:=[jd 11 0]
abbrev QmL:IL:=[ja 87 11,ja 88 10,ji 89 1 88,jn 90 87 89]
abbrev QmM:IL:=[jd 12 0]
abbrev QmN:IL:=[ja 93 12,ja 94 11,jn 95 93 94]
abbrev QmO:IL:=[ja 98 3,ja 99 98,jg 100 10 99,jg 101 12 99,yc 102 3 100 101 99,jl 103 0 102 99,yp 104 103 99,jg 105 10 99,jg 106 11 99,yc 107 3 105 106 99,jl 108 0 107 99,yp 109 108 99,⟨some 110,.val (.bin .str .neq (.t 104) (.t 109)),(some (99,true))⟩,jj 111 99 110,ja 3 111]
abbrev QmP:IL:=[ja 96 12,jm 97 96 1,ja 12 97]
abbrev Sh:RC:=.seq (jQ QmN (jX 95 12)) (.seq (.block 13 (.draw QmO)) (.reg QmP))
abbrev QmQ:IL:=[ja 91 11,jm 92 91 1,ja 11 92]
abbrev Si:RC:=.seq (jQ QmL (jX 90 10)) (.seq (.block 11 (jQ QmM (.block 12 (.loop Sh)))) (.reg QmQ))
abbrev QmR:IL:=[ja 79 9,jm 80 79 1,ja 9 80]
abbrev Sj:RC:=.seq (jQ QmI (jX 78 8)) (.seq (.block 9 (jQ QmJ (jQ QmK (.block 10 (.loop Si))))) (.reg QmR))
abbrev QmS:IL:=[ja 112 3,ja 2 112]
abbrev r46:RC:=jQ QCm (jQ QCn (.seq (jQ QCo (.block 0 (.loop Sg))) (.seq (jQ QmH (.block 8 (.loop Sj))) (jQ QmS (.ret)))))
abbrev o46:List RR:=[.tmp 2]
theorem k46:CT 46 113 r46 o46:=ck Tryz.func46 Tryz.ntmps46 (by decide +kernel)
abbrev QCw:IL:=[je 1 1 0,jh 2]
abbrev QCx:IL:=[yl 3]
abbrev QCy:IL:=[jd 4 0]
abbrev QCz:IL:=[ja 13 4,jb 14 0 1,jc 15 14,ji 16 1 15,jn 17 13 16]
abbrev QCA:IL:=[jd 5 0]
abbrev QCB:IL:=[ja 20 5,jb 21 0 1,jc 22 21,ja 23 4,jk 24 3 22 23,jb 25 1 24,jc 26 25,ji 27 1 26,jn 28 20 27]
abbrev QCC:IL:=[jb 31 0 1,jc 32 31,ja 33 4,jk 34 3 32 33,jb 35 1 34,jc 36 35,ja 37 5,jk 38 8 36 37,jb 39 0 38,jc 40 39,ja 6 40]
abbrev QCD:IL:=[ja 41 3,ja 42 41,jg 43 6 42,U0 44 43 1 42,jj 45 42 44,ja 46 45,jg 47 6 46,yy 48 47 65535 46,jj 49 46 48,ja 3 49]
abbrev QCE:IL:=[ja 29 5,jm 30 29 1,ja 5 30]
abbrev Sk:RC:=.seq (jQ QCB (jX 28 2)) (.seq (.block 3 (jQ QCC (.reg QCD))) (.reg QCE))
abbrev QCF:IL:=[ja 18 4,jm 19 18 1,ja 4 19]
abbrev Sl:RC:=.seq (jQ QCz (jX 17 0)) (.seq (.block 1 (jQ QCA (.block 2 (.loop Sk)))) (.reg QCF))
abbrev QmT:IL:=[jd 7 0]
abbrev QmU:IL:=[ja 50 7,jb 51 1 1,jc 52 51,ji 53 1 52,jn 54 50 53]
abbrev QmV:IL:=[jb 57 1 1,jc 58 57,ja 59 7,jk 60 5 58 59,jf 61 5 60,⟨some 8,.allocN 8 [.str [],.bool false,.nils,.nils,.nils],none⟩,js 5 8 61]
abbrev QmW:IL:=[jd 9 0]
abbrev QmX:IL:=[ja 62 9,jb 63 2 8,jc 64 63,ji 65 1 64,jn 66 62 65]
abbrev QmY:IL:=[jb 69 2 8,jc 70 69,ja 71 9,jk 72 3 70 71,jb 73 1 72,jc 74 73,ja 10 74]
abbrev QmZ:IL:=[ja 75 3,ja 76 75,jg 77 10 76,yy 78 77 2147483647 76,jj 79 76 78,ja 80 79,jg 81 9 80,Nn 82 81 0 80,jg 83 82 80,jv 84 10 83,ys 85 84 0 83,zf 86 83 85 80,jj 87 80 86,ja 88 87,jl 89 3 8 88,ju 90 89 88,jg 91 10 88,H9 92 78 90 91 88,yx 93 92 88,jj 94 88 93,ja 3 94]
abbrev Qm0:IL:=[ja 67 9,jm 68 67 1,ja 9 68]
abbrev Sm:RC:=.seq (jQ QmX (jX 66 6)) (.seq (.block 7 (jQ QmY (.reg QmZ))) (.reg Qm0))
abbrev Qm1:IL:=[jd 11 0]
abbrev Qm2:IL:=[ja 95 11,jb 96 3 8,jc 97 96,ji 98 1 97,jn 99 95 98]
abbrev Qm3:IL:=[jb 102 3 8,jc 103 102,ja 104 11,jk 105 2 103 104,jf 106 2 105,⟨some 12,.allocN 12 [.int .i64 0,.int .i64 0],none⟩,js 2 12 106]
abbrev Qm4:IL:=[ja 107 3,ja 108 107,jl 109 0 12 108,zb 110 0 12 109 108,U0 111 110 0 108,jj 112 108 111,ja 113 112,jl 114 1 12 113,zb 115 0 12 114 113,yy 116 115 2147483647 113,jj 117 113 116,ja 118 117,jl 119 0 12 118,zb 120 0 12 119 118,jl 121 1 12 118,zb 122 0 12 121 118,C7 123 120 122 118,jj 124 118 123,ja 125 124,jg 126 11 125,ym 127 126 0 125,jg 128 127 125,jp 129 0 12 128,zl 130 0 12 129 128,jp 131 3 8 128,zl 132 0 8 131 128,jv 133 11 128,⟨some 134,.val (.bin .num .sub (.t 133) (.c (.int .i64 1))),(some (128,false))⟩,yz 135 2 132 134 128,jp 136 1 135 128,Nu 137 136 128,⟨some 138,.val (.bin .num .gtr (.t 130) (.t 137)),(some (128,false))⟩,zf 139 128 138 125,jj 140 125 139,ja 3 140]
abbrev Qm5:IL:=[ja 100 11,jm 101 100 1,ja 11 101]
abbrev Sn:RC:=.gho (.drop 12) (.seq (jQ Qm2 (jX 99 8)) (.seq (.block 9 (jQ Qm3 (.draw Qm4))) (.reg Qm5)))
abbrev Qm6:IL:=[ja 55 7,jm 56 55 1,ja 7 56]
abbrev Sp:RC:=.gho (.drop 12) (.gho (.drop 8) (.seq (jQ QmU (jX 54 4)) (.seq (.block 5 (jQ QmV (.seq (jQ QmW (.block 6 (.loop Sm))) (jQ Qm1 (.block 8 (.loop Sn)))))) (.reg Qm6))))
abbrev Qm7:IL:=[ja 141 3,ja 2 141]
abbrev r47:RC:=jQ QCw (jQ QCx (.seq (jQ QCy (.block 0 (.loop Sl))) (.seq (jQ QmT (.block 4 (.loop Sp))) (jQ Qm7 (.ret)))))
abbrev o47:List RR:=[.tmp 2]
theorem k47:CT 47 142 r47 o47:=ck Tryz.func47 Tryz.ntmps47 (by decide +kernel)
abbrev QCG:IL:=[je 1 1 0,jh 2]
abbrev QCH:IL:=[yl 3]
abbrev QCI:IL:=[jd 4 0]
abbrev QCJ:IL:=[ja 9 4,jb 10 1 1,jc 11 10,ji 12 1 11,jn 13 9 12]
abbrev QCK:IL:=[ja 16 3,ja 17 16,jl 18 1 1 17,ju 19 18 17,jg 20 4 17,yc 21 5 19 20 17,jl 22 4 21 17,ju 23 22 17,yt 24 1 23 17,ym 25 24 0 17,jj 26 17 25,ja 3 26]
abbrev QCL:IL:=[jd 5 0]
abbrev QCM:IL:=[ja 27 5,jb 28 1 1,jc 29 28,ja 30 4,jk 31 5 29 30,jb 32 2 31,jc 33 32,ji 34 1 33,jn 35 27 34]
abbrev QCN:IL:=[jb 38 1 1,jc 39 38,ja 40 4,jk 41 5 39 40,jb 42 2 41,jc 43 42,ja 44 5,jk 45 3 43 44,jb 46 2 45,jc 47 46,ja 6 47]
abbrev Qm8:IL:=[ja 48 3,ja 49 48,jg 50 6 49,yt 51 1 50 49,ym 52 51 0 49,jg 53 52 49,jv 54 6 53,yf 55 1 54 53,ys 56 55 1 53,jv 57 56 53,jg 58 6 57,Nq 59 8 58 0 57,jl 60 0 59 57,ju 61 60 57,⟨some 62,.val (.bin .str .eql (.t 61) (.c (.str [97,108,105,97,115]))),(some (57,true))⟩,yw 63 57 62 53,jv 64 63 53,jg 65 6 64,⟨some 66,.call (.f 79) [(.t 65),(.c (.int .i64 4))],(some (64,true))⟩,ym 67 66 0 64,yw 68 64 67 53,zf 69 53 68 49,jj 70 49 69,ja 3 70]
abbrev QCO:IL:=[ja 36 5,jm 37 36 1,ja 5 37]
abbrev Sq:RC:=.seq (jQ QCM (jX 35 2)) (.seq (.block 3 (jQ QCN (.reg Qm8))) (.reg QCO))
abbrev QCP:IL:=[ja 14 4,jm 15 14 1,ja 4 15]
abbrev Sr:RC:=.seq (jQ QCJ (jX 13 0)) (.seq (.block 1 (jQ QCK (jQ QCL (.block 2 (.loop Sq))))) (.reg QCP))
abbrev Qm9:IL:=[jd 7 0]
abbrev Qna:IL:=[ja 71 7,jb 72 0 1,jc 73 72,ji 74 1 73,jn 75 71 74]
abbrev Qnb:IL:=[ja 78 3,ja 79 78,jl 80 0 1 79,ju 81 80 79,jg 82 7 79,yc 83 3 81 82 79,zk 84 3 83 79,zh 85 80 84 79,jj 86 79 85,ja 3 86]
abbrev Qnc:IL:=[jd 8 0]
abbrev Qnd:IL:=[ja 87 8,jb 88 0 1,jc 89 88,ja 90 7,jk 91 3 89 90,jb 92 1 91,jc 93 92,ji 94 1 93,jn 95 87 94]
abbrev Qne:IL:=[ja 98 3,ja 99 98,zt 100 0 1 2 1 99,jl 101 0 1 99,zb 102 0 1 101 99,jg 103 7 99,yc 104 3 102 103 99,jl 105 1 104 99,yp 106 105 99,jg 107 8 99,yc 108 8 106 107 99,H8 109 8 108 99,H9 110 81 100 109 99,jj 111 99 110,ja 3 111]
abbrev Qnf:IL:=[ja 96 8,jm 97 96 1,ja 8 97]
abbrev Ss:RC:=.seq (jQ Qnd (jX 95 6)) (.seq (.block 7 (.draw Qne)) (.reg Qnf))
abbrev Qng:IL:=[ja 76 7,jm 77 76 1,ja 7 77]
abbrev Su:RC:=.seq (jQ Qna (jX 75 4)) (.seq (.block 5 (jQ Qnb (jQ Qnc (.block 6 (.loop Ss))))) (.reg Qng))
abbrev Qnh:IL:=[ja 112 3,ja 2 112]
abbrev r48:RC:=jQ QCG (jQ QCH (.seq (jQ QCI (.block 0 (.loop Sr))) (.seq (jQ Qm9 (.block 4 (.loop Su))) (jQ Qnh (.ret)))))
abbrev o48:List RR:=[.tmp 2]
theorem k48:CT 48 113 r48 o48:=ck Tryz.func48 Tryz.ntmps48 (by decide +kernel)
abbrev QCQ:IL:=[je 1 1 0,jh 2]
abbrev QCR:IL:=[jb 9 0 1,jc 10 9,ji 11 1 10,⟨some 12,.mk 12 4 1 1 [.bool false] (.t 11) (.t 11),none⟩,ja 3 12]
abbrev QCS:IL:=[jb 13 0 1,jc 14 13,ji 15 1 14,jq 16 15 0,ja 4 16]
abbrev QCT:IL:=[jb 17 0 1,jc 18 17,ji 19 1 18,jd 20 0]
abbrev QCU:IL:=[jn 21 20 19]
abbrev QCV:IL:=[yl 4]
abbrev QCW:IL:=[jd 5 0]
abbrev QCX:IL:=[ja 22 5,jb 23 0 1,jc 24 23,ji 25 1 24,jn 26 22 25]
abbrev QCY:IL:=[yl 6]
abbrev Qni:IL:=[jd 7 0]
abbrev Qnj:IL:=[ja 29 7,jb 30 0 1,jc 31 30,ja 32 5,jk 33 3 31 32,jb 34 1 33,jc 35 34,ji 36 1 35,jn 37 29 36]
abbrev Qnk:IL:=[jb 40 0 1,jc 41 40,ja 42 5,jk 43 3 41 42,jb 44 1 43,jc 45 44,ja 46 7,jk 47 8 45 46,jf 48 8 47,zd 8 8,js 8 8 48]
abbrev Qnl:IL:=[ja 49 6,ja 50 49,jl 51 3 8 50,ju 52 51 50,zv 53 52 1 50,jg 54 53 50,jp 55 5 8 54,jt 56 55 54,Nt 57 56 10 54,zf 58 54 57 50,jg 59 58 50,jv 60 3 59,jp 61 6 8 59,jt 62 61 59,yz 63 1 60 62 59,jt 64 63 59,zf 65 59 64 50,jj 66 50 65,ja 6 66]
abbrev Qnm:IL:=[ja 38 7,jm 39 38 1,ja 7 39]
abbrev Sv:RC:=.gho (.drop 8) (.seq (jQ Qnj (jX 37 4)) (.seq (.block 5 (jQ Qnk (.reg Qnl))) (.reg Qnm)))
abbrev Qnn:IL:=[ja 67 3,ja 68 5,ja 69 6,jk 70 1 67 68,js 1 70 69]
abbrev Qno:IL:=[ja 71 4,ja 72 71,jg 73 6 72,jj 74 72 73,ja 4 74]
abbrev QCZ:IL:=[ja 27 5,jm 28 27 1,ja 5 28]
abbrev Sw:RC:=.gho (.drop 8) (.seq (jQ QCX (jX 26 2)) (.seq (.block 3 (jQ QCY (.seq (jQ Qni (.block 4 (.loop Sv))) (jQ Qnn (.reg Qno))))) (.reg QCZ)))
abbrev Qnp:IL:=[jm 75 20 1,ja 20 75]
abbrev QC0:RC:=.gho (.drop 8) (jQ QCU (.seq (jX 21 0) (.seq (.block 1 (jQ QCV (jQ QCW (.block 2 (.loop Sw))))) (.reg Qnp))))
abbrev Qnq:IL:=[ja 76 4,ja 2 76]
abbrev r49:RC:=jQ QCQ (jQ QCR (jQ QCS (.seq (jQ QCT (.block 0 (.loop QC0))) (jQ Qnq (.ret)))))
abbrev o49:List RR:=[.tmp 2]
theorem k49:CT 49 77 r49 o49:=ck Tryz.func49 Tryz.ntmps49 (by decide +kernel)
abbrev QC1:IL:=[je 1 1 0,jh 2]
abbrev QC2:IL:=[jb 5 0 1,jc 6 5,jq 7 6 7,ja 8 7,jp 9 0 1 8,jt 10 9 8,ys 11 10 8 8,jo 12 8 11,ja 3 12]
abbrev QC3:IL:=[jb 13 0 1,jc 14 13,jq 15 14 10,ja 4 15]
abbrev QC4:IL:=[jb 16 3 1,jc 17 16,ji 18 1 17,yq 19 18 0,ja 20 19,jl 21 0 1 20,ju 22 21 20,zv 23 22 11 20,jj 24 20 23,ja 25 24,jp 26 4 1 25,jt 27 26 25,yf 28 1 27 25,yk 29 28 0 25,jv 30 29 25,jl 31 0 1 30,ju 32 31 30,zv 33 32 12 30,yw 34 30 33 25,jo 35 25 34,ja 36 35,jp 37 5 1 36,jt 38 37 36,yf 39 1 38 36,jp 40 6 1 36,jt 41 40 36,yf 42 1 41 36,⟨some 43,.val (.bin .num .add (.t 39) (.t 42)),(some (36,false))⟩,yk 44 43 0 36,jv 45 44 36,jg 46 4 45,yx 47 46 45,yw 48 45 47 36,jo 49 36 48]
abbrev QC5:IL:=[yl 2]
abbrev QC6:IL:=[jb 50 1 1,jc 51 50,⟨some 52,.val (.bin .num .neq (.t 51) (.c (.int .u64 0))),none⟩,ja 53 52,jg 54 3 53,jg 55 54 53,jp 56 0 1 55,jt 57 56 55,ys 58 57 11 55,zf 59 55 58 53,jg 60 59 53,jp 61 0 1 60,jt 62 61 60,ys 63 62 12 60,zf 64 60 63 53,jg 65 64 53,jv 66 4 65,zf 67 65 66 53,jj 68 53 67,ja 69 68,jp 70 2 1 69,jt 71 70 69,⟨some 72,.val (.bin .str .neq (.t 71) (.c (.str []))),(some (69,false))⟩,jv 73 72 69,jg 74 3 73,yx 75 74 73,yw 76 73 75 69,jo 77 69 76,ja 2 77]
abbrev r59:RC:=jQ QC1 (jQ QC2 (jQ QC3 (.seq (jQ QC4 (.cond (.t 49) (jQ QC5 (.ret)) (.skip))) (jQ QC6 (.ret)))))
abbrev o59:List RR:=[.tmp 2]
theorem k59:CT 59 78 r59 o59:=ck Tryz.func59 Tryz.ntmps59 (by decide +kernel)
abbrev QC7:IL:=[je 3 3 0,jd 6 0]
abbrev QC8:IL:=[jw 14 0 3 3 3,ja 15 1,ja 16 2,jk 17 8 15 16,jb 18 0 17,zx 19 18,jy 20 38 14 19,ja 13 20,jx 21 13 0,jx 22 13 1,zd 7 7,zp 0 7 8 7 21,ja 8 22]
abbrev QC9:IL:=[ja 23 8,jz 24 23]
abbrev QDa:IL:=[jd 6 8]
abbrev QDb:IL:=[jh 9]
abbrev QDc:IL:=[jd 10 0]
abbrev QDd:IL:=[ja 25 10,ja 26 2,jn 27 25 26]
abbrev QDe:IL:=[ja 30 1,ja 31 10,jk 32 8 30 31,jb 33 0 32,zx 34 33,ja 35 1,ja 36 2,jk 37 8 35 36,jb 38 0 37,zx 39 38,zm 40 34 39]
abbrev QDf:IL:=[jd 6 9]
abbrev Qnr:IL:=[jw 42 0 3 3 3,ja 43 1,ja 44 10,jk 45 8 43 44,jb 46 0 45,zx 47 46,jy 48 38 42 47,ja 41 48,jx 49 41 0,jx 50 41 1,zd 11 11,zp 0 11 8 11 49,ja 12 50]
abbrev Qns:IL:=[ja 51 9,ja 52 51,jp 53 7 7 52,jt 54 53 52,Nt 55 54 (-1) 52,jv 56 55 52,jl 57 7 11 56,ju 58 57 56,jl 59 7 7 56,ju 60 59 56,C4 61 58 60 56,yw 62 56 61 52,jo 63 52 62,ja 9 63]
abbrev QDg:IL:=[ja 28 10,jm 29 28 1,ja 10 29]
abbrev QDh:RC:=.gho (.drop 11) (.seq (jQ QDd (jX 27 0)) (.seq (.block 1 (.seq (jD QDe (.cond (.t 40) (jQ QDf (.ret)) (.skip))) (jD Qnr (.reg Qns)))) (.reg QDg)))
abbrev Qnt:IL:=[ja 64 9]
abbrev Qnu:IL:=[jd 6 15]
abbrev Qnv:IL:=[jd 6 0]
abbrev r60:RC:=jQ QC7 (jD QC8 (.seq (jQ QC9 (.cond (.t 24) (jQ QDa (.ret)) (.skip))) (jQ QDb (.seq (jQ QDc (.block 0 (.loop QDh))) (.seq (jQ Qnt (.cond (.t 64) (jQ Qnu (.ret)) (.skip))) (jQ Qnv (.ret)))))))
abbrev o60:List RR:=[.tmp 6]
theorem k60:CT 60 65 r60 o60:=ck Tryz.func60 Tryz.ntmps60 (by decide +kernel)
abbrev QDi:IL:=[je 4 4 0,je 5 5 1,je 6 6 2,jd 8 0]
abbrev QDj:IL:=[jb 11 3 5,jc 12 11]
abbrev QDk:IL:=[jq 14 12 5,ja 13 14]
abbrev QDl:IL:=[jb 15 0 6,jc 16 15,yg 17 16 12,ja 18 17,yv 19 7 6 18,zi 20 59 19 18,jo 21 18 20]
abbrev QDm:IL:=[jd 8 12]
abbrev QDn:IL:=[jf 22 2 4,jf 23 8 5,jb 24 4 6,jc 25 24,ja 26 3,zj 27 110 22 23 25 26,ja 8 27]
abbrev QDo:IL:=[jq 29 12 4,ja 28 29]
abbrev QDp:IL:=[jb 30 0 6,jc 31 30,yg 32 31 11,ja 33 32,yv 34 7 6 33,zi 35 59 34 33,jo 36 33 35]
abbrev QDq:IL:=[jd 8 12]
abbrev QDr:IL:=[jd 9 0]
abbrev Qnw:IL:=[ja 37 9,jb 38 3 6,jc 39 38,ji 40 1 39,jn 41 37 40]
abbrev Qnx:IL:=[jw 44 0 4 2 4,jw 45 0 5 8 5,jb 46 3 6,yb 47 0 6 46,ja 48 9,jk 49 7 47 48,ya 50 7 49,ja 51 3,zj 52 111 44 45 50 51,ja 10 52]
abbrev Qny:IL:=[ja 53 10,yg 54 53 0]
abbrev Qnz:IL:=[ja 55 10,ja 8 55]
abbrev QnA:IL:=[ja 42 9,jm 43 42 1,ja 9 43]
abbrev QDs:RC:=.seq (jQ Qnw (jX 41 1)) (.seq (.block 2 (jD Qnx (jQ Qny (.cond (.t 54) (jQ Qnz (.ret)) (.skip))))) (.reg QnA))
abbrev QnB:IL:=[jd 8 0]
abbrev QnC:IL:=[jf 56 2 4,jf 57 8 5,jf 58 7 6,ja 59 3,zj 60 111 56 57 58 59,ja 8 60]
abbrev r61:RC:=jQ QDi (.seq (jQ QDj (.block 0 (jQ QDk (.cond (.t 13) (.seq (jQ QDl (.cond (.t 21) (jQ QDm (.ret)) (.skip))) (jQ QDn (.ret))) (jQ QDo (.cond (.t 28) (.seq (jQ QDp (.cond (.t 36) (jQ QDq (.ret)) (.skip))) (.seq (jQ QDr (.block 1 (.loop QDs))) (jQ QnB (.ret)))) (.skip))))))) (jQ QnC (.ret)))
abbrev o61:List RR:=[.tmp 8]
theorem k61:CT 61 61 r61 o61:=ck Tryz.func61 Tryz.ntmps61 (by decide +kernel)
abbrev QDt:IL:=[je 2 2 0,jh 4]
abbrev QDu:IL:=[jd 5 0]
abbrev QDv:IL:=[ja 6 5,jb 7 5 2,jc 8 7,ji 9 1 8,jn 10 6 9]
abbrev QDw:IL:=[jb 13 5 2,jc 14 13,ja 15 5,jk 16 8 14 15,jb 17 0 16,jc 18 17,ja 19 1,zm 20 18 19]
abbrev QDx:IL:=[yl 4]
abbrev QDy:IL:=[ja 11 5,jm 12 11 1,ja 5 12]
abbrev QDz:RC:=.seq (jQ QDv (jX 10 0)) (.seq (.block 1 (jQ QDw (.cond (.t 20) (jQ QDx (.ret)) (.skip)))) (.reg QDy))
abbrev QDA:IL:=[jh 4]
abbrev r62:RC:=jQ QDt (.seq (jQ QDu (.block 0 (.loop QDz))) (jQ QDA (.ret)))
abbrev o62:List RR:=[.tmp 4]
theorem k62:CT 62 21 r62 o62:=ck Tryz.func62 Tryz.ntmps62 (by decide +kernel)
abbrev QDB:IL:=[je 3 3 0,je 4 4 1,je 5 5 2,jh 6]
abbrev QDC:IL:=[jb 9 0 5,jc 10 9,yo 11 10 1,ja 12 11,jp 13 0 5 12,jt 14 13 12,yk 15 14 65535 12,jo 16 12 15,ja 17 16,jp 18 1 5 17,jt 19 18 17,No 20 19 0 17,jo 21 17 20,ja 22 21,jp 23 1 5 22,jt 24 23 22,yk 25 24 6 22,jo 26 22 25]
abbrev QDD:IL:=[jh 6]
abbrev QDE:IL:=[jb 27 1 5,jc 28 27,⟨some 29,.val (.bin .num .leq (.t 28) (.c (.int .i64 2))),none⟩,ja 30 29,jl 31 3 5 30,ju 32 31 30,⟨some 33,.val (.bin .str .neq (.t 32) (.c (.str []))),(some (30,true))⟩,jj 34 30 33,ja 35 34,jp 36 1 5 35,jt 37 36 35,yk 38 37 2 35,jv 39 38 35,jl 40 2 5 39,ju 41 40 39,⟨some 42,.val (.bin .num .neq (.t 41) (.c (.int .u64 0))),(some (39,true))⟩,yw 43 39 42 35,jo 44 35 43]
abbrev QDF:IL:=[jh 6]
abbrev QDG:IL:=[jf 46 3 4,jb 47 0 5,jc 48 47,jy 49 38 46 48,ja 45 49,jx 50 45 0,jx 51 45 1,zd 7 7,js 8 7 50,ja 8 51]
abbrev QDH:IL:=[ja 52 8,jz 53 52]
abbrev QDI:IL:=[yl 6]
abbrev QDJ:IL:=[jb 54 5 7,jc 55 54,jq 56 55 9,ja 57 56,jl 58 1 3 57,ju 59 58 57,jl 60 6 7 57,ju 61 60 57,yc 62 5 59 61 57,jl 63 1 62 57,ju 64 63 57,yx 65 64 57,jj 66 57 65,ja 67 66,jl 68 3 7 67,ju 69 68 67,zv 70 69 5 67,jj 71 67 70,ja 72 71,jl 73 1 5 72,ju 74 73 72,ym 75 74 0 72,jj 76 72 75,ja 77 76,jl 78 2 5 77,ju 79 78 77,⟨some 80,.val (.bin .num .leq (.t 79) (.c (.int .u64 2147483647))),(some (77,true))⟩,jj 81 77 80,ja 82 81,zk 83 2 3 82,jl 84 6 7 82,ju 85 84 82,jl 86 2 5 82,ju 87 86 82,FI 88 112 83 85 87 82,yx 89 88 82,jj 90 82 89,ja 6 90]
abbrev r63:RC:=jQ QDB (.seq (jQ QDC (.cond (.t 26) (jQ QDD (.ret)) (.skip))) (.seq (jQ QDE (.cond (.t 44) (jQ QDF (.ret)) (.skip))) (jQ QDG (.seq (jQ QDH (.cond (.t 53) (jQ QDI (.ret)) (.skip))) (jQ QDJ (.ret))))))
abbrev o63:List RR:=[.tmp 6]
theorem k63:CT 63 91 r63 o63:=ck Tryz.func63 Tryz.ntmps63 (by decide +kernel)
abbrev QDK:IL:=[je 1 1 0,jh 2]
abbrev QDL:IL:=[jb 6 0 1,jc 7 6,jb 8 1 1,jc 9 8,jy 10 65 7 9,ja 5 10,jx 11 5 0,jx 12 5 1,ja 3 11,ja 4 12]
abbrev QDM:IL:=[jb 13 1 1,jc 14 13,jr 15 67 14]
abbrev QDN:IL:=[ja 16 4,jq 17 16 0,ja 18 17,jl 19 3 1 18,ju 20 19 18,⟨some 21,.val (.bin .str .eql (.t 20) (.c (.str []))),(some (18,true))⟩,jj 22 18 21,ja 2 22]
abbrev QDO:IL:=[ja 23 4,jq 24 23 0,ja 25 24,jl 26 2 1 25,ju 27 26 25,C2 28 27 0 25,jj 29 25 28,ja 2 29]
abbrev r64:RC:=jQ QDK (jQ QDL (.seq (jQ QDM (.cond (.t 15) (jQ QDN (.ret)) (.skip))) (jQ QDO (.ret))))
abbrev o64:List RR:=[.tmp 2]
theorem k64:CT 64 30 r64 o64:=ck Tryz.func64 Tryz.ntmps64 (by decide +kernel)
abbrev QDP:IL:=[yi 4,jd 5 0]
abbrev QDQ:IL:=[ja 6 0,yo 7 6 1,ja 8 7,jv 9 0 8,yk 10 9 65535 8,jo 11 8 10,ja 12 11,jv 13 1 12,No 14 13 0 12,jo 15 12 14,ja 16 15,jv 17 1 16,yk 18 17 6 16,jo 19 16 18]
abbrev QDR:IL:=[yi 4,jd 5 6]
abbrev QDS:IL:=[ja 20 0,⟨some 21,.val (.bin .num .mul (.t 20) (.c (.int .i64 8))),none⟩,ja 22 1,yj 23 21 22,zo 24 23,jr 25 68 24,ja 4 25,jd 5 0]
abbrev r65:RC:=jQ QDP (.seq (jQ QDQ (.cond (.t 19) (jQ QDR (.ret)) (.skip))) (jQ QDS (.ret)))
abbrev o65:List RR:=[.tmp 4,.tmp 5]
theorem k65:CT 65 26 r65 o65:=ck Tryz.func65 Tryz.ntmps65 (by decide +kernel)
abbrev QDT:IL:=[yi 2]
abbrev QDU:IL:=[ye 3]
abbrev QDV:IL:=[jd 4 0]
abbrev QDW:IL:=[ja 5 4,yo 6 5 8]
abbrev QDX:IL:=[ja 9 3,ja 10 0,⟨some 11,.val (.bin .num .rem (.t 10) (.c (.int .u64 256))),none⟩,DD 12 11,Nv 13 1 1 0 1 12,yh 14 1 1 5 9 13,ja 3 14]
abbrev QDY:IL:=[ja 15 0,⟨some 16,.val (.bin .num .quo (.t 15) (.c (.int .u64 256))),none⟩,ja 0 16]
abbrev QDZ:IL:=[ja 7 4,jm 8 7 1,ja 4 8]
abbrev QD0:RC:=.seq (jQ QDW (jX 6 0)) (.seq (.block 1 (jQ QDX (.reg QDY))) (.reg QDZ))
abbrev QD1:IL:=[ja 17 3,Nw 18 17,ja 2 18]
abbrev r66:RC:=jQ QDT (jQ QDU (.gho (.vec 3 3 1) (.seq (jQ QDV (.block 0 (.loop QD0))) (jQ QD1 (.ret)))))
abbrev o66:List RR:=[.tmp 2]
theorem k66:CT 66 19 r66 o66:=ck Tryz.func66 Tryz.ntmps66 (by decide +kernel)
abbrev QD2:IL:=[jh 2]
abbrev QD3:IL:=[ja 3 0,jq 4 3 0,ja 5 4,jv 6 0 5,ys 7 6 1 5,jo 8 5 7,ja 9 8,jv 10 0 9,ys 11 10 2 9,jo 12 9 11,ja 2 12]
abbrev r67:RC:=jQ QD2 (jQ QD3 (.ret))
abbrev o67:List RR:=[.tmp 2]
theorem k67:CT 67 13 r67 o67:=ck Tryz.func67 Tryz.ntmps67 (by decide +kernel)
abbrev QD4:IL:=[yi 2]
abbrev QD5:IL:=[ye 3]
abbrev QD6:IL:=[ja 4 0,⟨some 5,.val (.bin .num .geq (.t 4) (.c (.int .u64 128))),none⟩]
abbrev QD7:IL:=[ja 6 3,ja 7 0,⟨some 8,.val (.bin .num .rem (.t 7) (.c (.int .u64 128))),none⟩,⟨some 9,.val (.bin .num .add (.t 8) (.c (.int .u64 128))),none⟩,DD 10 9,Nv 11 1 1 0 1 10,yh 12 1 1 5 6 11,ja 3 12]
abbrev QD8:IL:=[ja 13 0,⟨some 14,.val (.bin .num .quo (.t 13) (.c (.int .u64 128))),none⟩,ja 0 14]
abbrev QD9:RC:=.seq (jQ QD6 (jX 5 0)) (.block 1 (jQ QD7 (.reg QD8)))
abbrev QEa:IL:=[ja 15 3,ja 16 0,DD 17 16,Nv 18 1 1 0 1 17,yh 19 1 1 5 15 18,Nw 20 19,ja 2 20]
abbrev r68:RC:=jQ QD4 (jQ QD5 (.gho (.vec 3 3 1) (.seq (.block 0 (.loop QD9)) (jQ QEa (.ret)))))
abbrev o68:List RR:=[.tmp 2]
theorem k68:CT 68 21 r68 o68:=ck Tryz.func68 Tryz.ntmps68 (by decide +kernel)
abbrev QEb:IL:=[ye 2]
abbrev QEc:IL:=[ye 3]
abbrev QEd:IL:=[jd 4 0]
abbrev QEe:IL:=[ja 7 4,ja 8 0,ji 9 1 8,jn 10 7 9]
abbrev QEf:IL:=[ja 13 3,ji 14 1 13,ja 5 14]
abbrev QEg:IL:=[ja 15 5,yq 16 15 0,ja 17 16,jg 18 3 17,jg 19 5 17,DE 20 19 1 17,yc 21 4 18 20 17,jl 22 0 21 17,yp 23 22 17,jg 24 0 17,jg 25 4 17,yc 26 4 24 25 17,jl 27 0 26 17,yp 28 27 17,⟨some 29,.val (.bin .num .gtr (.t 23) (.t 28)),(some (17,true))⟩,jj 30 17 29]
abbrev QEh:IL:=[ja 31 5,za 32 31 1,ja 5 32]
abbrev Sx:RC:=.seq (jD QEg (jX 30 2)) (.block 3 (.reg QEh))
abbrev QEi:IL:=[ja 33 0,ja 34 4,jk 35 4 33 34,ya 36 4 35,⟨some 37,.bslv 37 4 1 [.int .i64 0,.int .i64 0,.int .u64 0,.str []] [(0,4,(.t 36))],none⟩,ja 38 3,ja 39 5,⟨some 40,.val (.slcp (some 4) (.t 38) (some (.t 39)) none none),none⟩,yh 41 4 40 52 37 40,ja 6 41]
abbrev QEj:IL:=[⟨some 42,.bsl0 42 4,none⟩,ja 43 3,ja 44 5,FH 45 4 43 44,yh 46 4 40 52 42 45,ja 47 6,yh 48 4 40 52 46 47,ja 3 48]
abbrev QEk:IL:=[ja 11 4,jm 12 11 1,ja 4 12]
abbrev QEl:RC:=.seq (jQ QEe (jX 10 0)) (.seq (.block 1 (jQ QEf (.seq (.block 2 (.loop Sx)) (jD QEi (.reg QEj))))) (.gho (.pub 3 42) (.reg QEk)))
abbrev QnF:IL:=[ja 49 3,ja 2 49]
abbrev r69:RC:=jQ QEb (jQ QEc (.gho (.lst 3) (.seq (jQ QEd (.block 0 (.loop QEl))) (jQ QnF (.ret)))))
abbrev o69:List RR:=[.tmp 2]
theorem k69:CT 69 50 r69 o69:=ck Tryz.func69 Tryz.ntmps69 (by decide +kernel)
abbrev QEm:IL:=[je 3 3 0,je 4 4 1,je 5 5 2,yu 6 6]
abbrev QEn:IL:=[jb 12 3 4,jc 13 12]
abbrev QEo:IL:=[jq 15 13 4,ja 14 15]
abbrev QEp:IL:=[⟨some 16,.val (.build [.int .i64 0,.int .u64 0,.str [],.nils,.nils,.nils,.nils] [(0,1,(.c (.int .i64 11)))]),none⟩,yu 7 7,js 7 7 16]
abbrev QEq:IL:=[jd 8 0]
abbrev QEr:IL:=[ja 17 8,jb 18 3 5,jc 19 18,ji 20 1 19,jn 21 17 20]
abbrev QEs:IL:=[jb 24 3 7,yb 25 0 7 24,jw 26 0 3 2 3,jw 27 0 4 8 4,jb 28 3 5,yb 29 0 5 28,ja 30 8,jk 31 7 29 30,ya 32 7 31,yd 33 113 26 27 32,⟨some 34,.bsl 7 1 [.int .i64 0,.int .u64 0,.str [],.nils,.nils,.nils,.nils] [(0,7,(.t 33))],none⟩,yh 35 7 128 32 25 34,jb 36 3 7,zp 0 7 1 36 35]
abbrev QEt:IL:=[ja 22 8,jm 23 22 1,ja 8 23]
abbrev QEu:RC:=.seq (jQ QEr (jX 21 1)) (.seq (.block 2 (.draw QEs)) (.reg QEt))
abbrev QEv:IL:=[jf 37 7 7,js 7 6 37]
abbrev QEw:IL:=[jq 39 13 5,ja 38 39]
abbrev QnG:IL:=[⟨some 40,.val (.build [.int .i64 0,.int .u64 0,.str [],.nils,.nils,.nils,.nils] [(0,1,(.c (.int .i64 12)))]),none⟩,yu 9 9,js 7 9 40]
abbrev QnH:IL:=[jb 41 4 5,jc 42 41,jr 43 114 42,ja 10 43]
abbrev QnI:IL:=[jd 11 0]
abbrev QnJ:IL:=[ja 44 11,ja 45 10,ji 46 1 45,jn 47 44 46]
abbrev QnK:IL:=[jb 50 4 9,yb 51 0 9 50,ja 52 10,ja 53 11,jk 54 14 52 53,jb 55 0 54,ya 56 7 55,jr 57 75 56,jw 58 0 3 2 3,jw 59 0 4 8 4,ja 60 10,ja 61 11,jk 62 14 60 61,jb 63 7 62,ya 64 7 63,yd 65 113 58 59 64,⟨some 66,.val (.build [.int .i64 0,.int .u64 0,.str [],.nils,.nils,.nils,.nils,.int .i64 0,.int .u64 0,.str [],.nils,.nils,.nils,.nils] [(0,7,(.t 57)),(7,7,(.t 65))]),none⟩,⟨some 67,.bsl 14 1 [.int .i64 0,.int .u64 0,.str [],.nils,.nils,.nils,.nils,.int .i64 0,.int .u64 0,.str [],.nils,.nils,.nils,.nils] [(0,14,(.t 66))],none⟩,yh 68 14 256 75 51 67,jb 69 4 9,zp 0 9 1 69 68]
abbrev QnL:IL:=[ja 48 11,jm 49 48 1,ja 11 49]
abbrev QEx:RC:=.seq (jQ QnJ (jX 47 3)) (.seq (.block 4 (.draw QnK)) (.reg QnL))
abbrev QnM:IL:=[jf 70 7 9,js 7 6 70]
abbrev QnN:IL:=[jf 71 2 3,jf 72 8 4,jf 73 7 5,yd 74 113 71 72 73,js 7 6 74]
abbrev r70:RC:=jQ QEm (.seq (jQ QEn (.block 0 (jQ QEo (.cond (.t 14) (jQ QEp (.gho (.vecc 7 3 1100 7) (.seq (jQ QEq (.block 1 (.loop QEu))) (jQ QEv (.ret))))) (jQ QEw (.cond (.t 38) (jQ QnG (.gho (.vecc 9 4 1101 14) (jQ QnH (.seq (jQ QnI (.block 3 (.loop QEx))) (jQ QnM (.ret)))))) (.skip))))))) (jQ QnN (.ret)))
abbrev o70:List RR:=[.cell 6 (some 7)]
theorem k70:CT 70 75 r70 o70:=ck Tryz.func70 Tryz.ntmps70 (by decide +kernel)
abbrev QEy:IL:=[je 1 1 0,jh 2]
abbrev QEz:IL:=[jb 3 0 1,jc 4 3]
abbrev QEA:IL:=[jq 6 4 11,ja 5 6]
abbrev QEB:IL:=[jb 7 3 1,jc 8 7,ji 9 1 8,jq 10 9 0,ja 2 10]
abbrev QEC:IL:=[jq 12 4 12,ja 11 12]
abbrev QED:IL:=[jb 13 4 1,jc 14 13,ji 15 1 14,jq 16 15 0,ja 2 16]
abbrev QEE:IL:=[jf 17 7 1,jr 18 115 17,ja 2 18]
abbrev r71:RC:=jQ QEy (.seq (jQ QEz (.block 0 (jQ QEA (.cond (.t 5) (jQ QEB (.ret)) (jQ QEC (.cond (.t 11) (jQ QED (.ret)) (.skip))))))) (jQ QEE (.ret)))
abbrev o71:List RR:=[.tmp 2]
theorem k71:CT 71 19 r71 o71:=ck Tryz.func71 Tryz.ntmps71 (by decide +kernel)
abbrev QEF:IL:=[Nr 2 0]
abbrev QEG:IL:=[ja 3 0,yn 4 3 0]
abbrev QEH:IL:=[ja 5 0,zo 6 5,⟨some 7,.val (.bin .num .mul (.c (.int .u64 2)) (.t 6)),none⟩,ja 2 7]
abbrev QEI:IL:=[ja 8 0,jm 9 8 1,⟨some 10,.val (.un .neg (.t 9)),none⟩,zo 11 10,⟨some 12,.val (.bin .num .mul (.c (.int .u64 2)) (.t 11)),none⟩,⟨some 13,.val (.bin .num .add (.t 12) (.c (.int .u64 1))),none⟩,ja 2 13]
abbrev r74:RC:=jQ QEF (.seq (jQ QEG (.cond (.t 4) (jQ QEH (.ret)) (.skip))) (jQ QEI (.ret)))
abbrev o74:List RR:=[.tmp 2]
theorem k74:CT 74 14 r74 o74:=ck Tryz.func74 Tryz.ntmps74 (by decide +kernel)
abbrev QEJ:IL:=[je 1 1 0,yu 2 2]
abbrev QEK:IL:=[jb 3 0 1,jc 4 3,jq 5 4 6,ja 6 5,jl 7 1 1 6,ju 8 7 6,zh 9 123 8 6,ym 10 9 0 6,jj 11 6 10]
abbrev QEL:IL:=[jb 12 1 1,⟨none,.store 1 (.t 12) (.c (.int .u64 9221120237041090560)),none⟩]
abbrev QEM:IL:=[jf 13 7 1,js 7 2 13]
abbrev r75:RC:=jQ QEJ (.seq (jQ QEK (.cond (.t 11) (.reg QEL) (.skip))) (jQ QEM (.ret)))
abbrev o75:List RR:=[.cell 2 (some 7)]
theorem k75:CT 75 14 r75 o75:=ck Tryz.func75 Tryz.ntmps75 (by decide +kernel)
abbrev QEN:IL:=[jh 2]
abbrev QEO:IL:=[ja 5 0,jr 6 124 5,jz 7 6]
abbrev QEP:IL:=[jh 2]
abbrev QEQ:IL:=[ja 8 0,⟨some 9,.val (.bin .str .neq (.t 8) (.c (.str []))),none⟩]
abbrev QER:IL:=[ja 11 0,jr 12 125 11,ja 10 12,jx 13 10 0,jx 14 10 1,ja 3 13,ja 4 14]
abbrev QES:IL:=[ja 15 4,jr 16 126 15]
abbrev QET:IL:=[jh 2]
abbrev QEU:IL:=[ja 17 3,ja 0 17]
abbrev QEV:RC:=.seq (jQ QEQ (jX 9 0)) (.block 1 (jQ QER (.seq (jQ QES (.cond (.t 16) (jQ QET (.ret)) (.skip))) (.reg QEU))))
abbrev QEW:IL:=[yl 2]
abbrev r76:RC:=jQ QEN (.seq (jQ QEO (.cond (.t 7) (jQ QEP (.ret)) (.skip))) (.seq (.block 0 (.loop QEV)) (jQ QEW (.ret))))
abbrev o76:List RR:=[.tmp 2]
theorem k76:CT 76 18 r76 o76:=ck Tryz.func76 Tryz.ntmps76 (by decide +kernel)
abbrev QEX:IL:=[jh 2]
abbrev QEY:IL:=[ja 3 0,jr 4 127 3,ja 5 4,jg 6 0 5,zh 7 126 6 5,yx 8 7 5,jj 9 5 8,ja 2 9]
abbrev r77:RC:=jQ QEX (jQ QEY (.ret))
abbrev o77:List RR:=[.tmp 2]
theorem k77:CT 77 10 r77 o77:=ck Tryz.func77 Tryz.ntmps77 (by decide +kernel)
abbrev QEZ:IL:=[jh 4]
abbrev QE0:IL:=[jd 5 0]
abbrev QE1:IL:=[ja 6 5,ja 7 0,ji 8 1 7,jn 9 6 8]
abbrev QE2:IL:=[ja 12 0,ja 13 5,jk 14 2 12 13,jb 15 0 14,jc 16 15,ja 17 1,FL 18 16 17,ja 19 18,jg 20 1 19,jg 21 0 19,jg 22 5 19,yc 23 2 21 22 19,jl 24 1 23 19,ju 25 24 19,C7 26 20 25 19,jj 27 19 26]
abbrev QE3:IL:=[yl 4]
abbrev QE4:IL:=[ja 10 5,jm 11 10 1,ja 5 11]
abbrev QE5:RC:=.seq (jQ QE1 (jX 9 0)) (.seq (.block 1 (jQ QE2 (.cond (.t 27) (jQ QE3 (.ret)) (.skip)))) (.reg QE4))
abbrev QE6:IL:=[jh 4]
abbrev r78:RC:=jQ QEZ (.seq (jQ QE0 (.block 0 (.loop QE5))) (jQ QE6 (.ret)))
abbrev o78:List RR:=[.tmp 4]
theorem k78:CT 78 28 r78 o78:=ck Tryz.func78 Tryz.ntmps78 (by decide +kernel)
abbrev QE7:IL:=[jd 4 0]
abbrev QE8:IL:=[ja 6 0,ji 7 1 6,yq 8 7 8]
abbrev QE9:IL:=[jd 4 3]
abbrev QFa:IL:=[jd 5 0]
abbrev QFb:IL:=[ja 9 5,ja 10 0,ji 11 1 10,jn 12 9 11]
abbrev QFc:IL:=[ja 15 0,ja 16 5,jk 17 8 15 16,jb 18 0 17,jc 19 18,jr 20 128 19,jq 21 20 0]
abbrev QFd:IL:=[jd 4 8]
abbrev QFe:IL:=[ja 22 0,ja 23 5,jk 24 8 22 23,jb 25 0 24,jc 26 25,ja 27 1,jy 28 129 26 27,jz 29 28]
abbrev QFf:IL:=[jd 4 1]
abbrev QnP:IL:=[ja 30 0,ja 31 5,jk 32 8 30 31,jf 33 8 32,jr 34 130 33,jz 35 34]
abbrev QnQ:IL:=[jd 4 12]
abbrev QnR:IL:=[ja 36 5,yq 37 36 0,ja 38 37,jg 39 0 38,jg 40 5 38,yc 41 8 39 40 38,jl 42 0 41 38,yp 43 42 38,jg 44 0 38,jg 45 5 38,DE 46 45 1 38,yc 47 8 44 46 38,jl 48 0 47 38,yp 49 48 38,⟨some 50,.val (.bin .str .lss (.t 43) (.t 49)),(some (38,true))⟩,jj 51 38 50]
abbrev QnS:IL:=[jd 4 11]
abbrev QnT:IL:=[ja 52 5,yq 53 52 0,ja 54 53,jg 55 0 54,jg 56 5 54,yc 57 8 55 56 54,jl 58 0 57 54,yp 59 58 54,jg 60 0 54,jg 61 5 54,DE 62 61 1 54,yc 63 8 60 62 54,jl 64 0 63 54,yp 65 64 54,C1 66 59 65 54,jj 67 54 66]
abbrev QnU:IL:=[jd 4 9]
abbrev QFg:IL:=[ja 13 5,jm 14 13 1,ja 5 14]
abbrev QFh:RC:=.seq (jQ QFb (jX 12 0)) (.seq (.block 1 (.seq (jQ QFc (.cond (.t 21) (jQ QFd (.ret)) (.skip))) (.seq (jQ QFe (.cond (.t 29) (jQ QFf (.ret)) (.skip))) (.seq (jQ QnP (.cond (.t 35) (jQ QnQ (.ret)) (.skip))) (.seq (jD QnR (.cond (.t 51) (jQ QnS (.ret)) (.skip))) (jD QnT (.cond (.t 67) (jQ QnU (.ret)) (.skip)))))))) (.reg QFg))
abbrev QnV:IL:=[jd 4 0]
abbrev r79:RC:=jQ QE7 (.seq (jQ QE8 (.cond (.t 8) (jQ QE9 (.ret)) (.skip))) (.seq (jQ QFa (.block 0 (.loop QFh))) (jQ QnV (.ret))))
abbrev o79:List RR:=[.tmp 4]
theorem k79:CT 79 68 r79 o79:=ck Tryz.func79 Tryz.ntmps79 (by decide +kernel)
abbrev QFi:IL:=[je 1 1 0,jh 2]
abbrev QFj:IL:=[jd 3 0]
abbrev QFk:IL:=[jd 4 0]
abbrev QFl:IL:=[ja 6 4,jb 7 1 1,jc 8 7,ji 9 1 8,jn 10 6 9]
abbrev QFm:IL:=[jb 13 1 1,jc 14 13,ja 15 4,jk 16 8 14 15,jb 17 7 16,jc 18 17,ja 5 18]
abbrev QFn:IL:=[ja 20 5,ja 21 3,zm 22 20 21,ja 19 22]
abbrev QFo:IL:=[ja 23 3,jm 24 23 1,ja 3 24]
abbrev QFp:IL:=[ja 26 5,yg 27 26 (-1),ja 28 27,jg 29 4 28,ym 30 29 0 28,jg 31 30 28,jp 32 1 1 31,jt 33 32 31,jv 34 4 31,⟨some 35,.val (.bin .num .sub (.t 34) (.c (.int .i64 1))),(some (31,false))⟩,yz 36 8 33 35 31,jp 37 7 36 31,jt 38 37 31,jv 39 5 31,C0 40 38 39 31,zf 41 31 40 28,jj 42 28 41,ja 25 42]
abbrev QFq:IL:=[jh 2]
abbrev QFr:IL:=[ja 11 4,jm 12 11 1,ja 4 12]
abbrev QFs:RC:=.seq (jQ QFl (jX 10 0)) (.seq (.block 1 (jQ QFm (.block 2 (jQ QFn (.cond (.t 19) (.reg QFo) (jQ QFp (.cond (.t 25) (jQ QFq (.ret)) (.skip)))))))) (.reg QFr))
abbrev QnW:IL:=[jb 43 2 1,jc 44 43,ja 45 3,zm 46 44 45,ja 2 46]
abbrev r80:RC:=jQ QFi (jQ QFj (.seq (jQ QFk (.block 0 (.loop QFs))) (jQ QnW (.ret))))
abbrev o80:List RR:=[.tmp 2]
theorem k80:CT 80 47 r80 o80:=ck Tryz.func80 Tryz.ntmps80 (by decide +kernel)
def Sy:IL:=[je 2 2 0,je 3 3 1,jh 4]
def Sz:IL:=[jb 6 2 3,jc 7 6,jr 8 131 7,jz 9 8,ja 10 9,jp 11 2 3 10,jt 12 11 10,yf 13 0 12 10,yk 14 13 4096 10,jo 15 10 14,ja 16 15,jp 17 3 3 16,jt 18 17 16,No 19 18 1 16,jo 20 16 19,ja 21 20,jp 22 3 3 21,jt 23 22 21,yk 24 23 5 21,jo 25 21 24,ja 26 25,jp 27 5 3 26,jt 28 27 26,No 29 28 1 26,jo 30 26 29,ja 31 30,jp 32 5 3 31,jt 33 32 31,yk 34 33 10 31,jo 35 31 34]
def SA:IL:=[jh 4]
def SB:IL:=[jb 36 4 3,jc 37 36,yn 38 37 1,ja 39 38,jl 40 4 3 39,ju 41 40 39,yy 42 41 5 39,jj 43 39 42,ja 44 43,jp 45 4 3 44,jt 46 45 44,ys 47 46 7 44,jo 48 44 47,ja 5 48]
def SC:IL:=[jb 49 3 3,jc 50 49,yg 51 50 5]
def SD:IL:=[jb 52 4 3,jc 53 52,jq 54 53 0,ja 5 54]
def VC:IL:=[ja 55 5,ja 56 55,zk 57 2 2 56,zk 58 8 3 56,H9 59 132 57 58 56,jj 60 56 59,ja 61 60,jl 62 7 3 61,ju 63 62 61,ym 64 63 (-1) 61,jg 65 64 61,jp 66 3 3 65,jt 67 66 65,ys 68 67 2 65,zf 69 65 68 61,jj 70 61 69,ja 4 70]
def r81:RC:=jQ Sy (.seq (jQ Sz (.cond (.t 35) (jQ SA (.ret)) (.skip))) (jQ SB (.seq (jQ SC (.cond (.t 51) (.reg SD) (.skip))) (jQ VC (.ret)))))
def o81:List RR:=[.tmp 4]
theorem k81:CT 81 71 r81 o81:=ck Tryz.func81 Tryz.ntmps81 (by decide +kernel)
abbrev QFt:IL:=[jd 2 0]
abbrev QFu:IL:=[ja 5 0,⟨some 6,.val (.bin .num .and (.t 5) (.c (.int .u64 9218868437227405312))),none⟩,ja 7 0,⟨some 8,.val (.bin .num .and (.t 7) (.c (.int .u64 4503599627370495))),none⟩,ja 3 6,ja 4 8]
abbrev QFv:IL:=[ja 10 3,H7 11 10 9218868437227405312,ja 12 11,jg 13 4 12,⟨some 14,.val (.bin .num .neq (.t 13) (.c (.int .u64 0))),(some (12,true))⟩,jj 15 12 14,ja 9 15]
abbrev QFw:IL:=[jd 2 0]
abbrev QFx:IL:=[ja 17 3,H7 18 17 9218868437227405312,ja 16 18]
abbrev QFy:IL:=[jd 2 1]
abbrev QFz:IL:=[ja 20 3,H7 21 20 0,ja 22 21,jg 23 4 22,C2 24 23 0 22,jj 25 22 24,ja 19 25]
abbrev QFA:IL:=[jd 2 2]
abbrev QFB:IL:=[ja 27 3,H7 28 27 0,ja 26 28]
abbrev QFC:IL:=[jd 2 3]
abbrev QnX:IL:=[jd 2 4]
abbrev r82:RC:=jQ QFt (.seq (jQ QFu (.block 0 (jQ QFv (.cond (.t 9) (jQ QFw (.ret)) (jQ QFx (.cond (.t 16) (jQ QFy (.ret)) (jQ QFz (.cond (.t 19) (jQ QFA (.ret)) (jQ QFB (.cond (.t 26) (jQ QFC (.ret)) (.skip))))))))))) (jQ QnX (.ret)))
abbrev o82:List RR:=[.tmp 2]
theorem k82:CT 82 29 r82 o82:=ck Tryz.func82 Tryz.ntmps82 (by decide +kernel)
abbrev QnY:IL:=[je 2 2 0,je 3 3 1,jd 4 0]
abbrev QnZ:IL:=[jb 5 0 2,jc 6 5,jb 7 0 3,jc 8 7,jy 9 102 6 8,ja 4 9]
abbrev QJ0:RC:=jQ QnY (jQ QnZ (.ret))
abbrev QJ1:List RR:=[.tmp 4]
theorem QJ2:CT 101 10 QJ0 QJ1:=ck Tryz.func101 Tryz.ntmps101 (by decide +kernel)
abbrev Qn0:IL:=[yi 2]
abbrev Qn1:IL:=[⟨some 5,.mk 5 5 1 1 [.int .u8 0] (.c (.int .i64 8)) (.c (.int .i64 8)),none⟩,ja 3 5]
abbrev Qn2:IL:=[ja 6 3,ji 7 1 6,jd 8 0]
abbrev Qn3:IL:=[jn 9 8 7]
abbrev Qn4:IL:=[ja 10 8,ja 4 10]
abbrev Qn5:IL:=[ja 11 3,ja 12 4,ja 13 0,ja 14 4,C5 15 8 14,⟨some 16,.val (.bin .num .shr (.t 13) (.t 15)),none⟩,DD 17 16,jk 18 1 11 12,js 1 18 17]
abbrev Qn6:IL:=[jm 19 8 1,ja 8 19]
abbrev Qn7:RC:=jQ Qn3 (.seq (jX 9 0) (.seq (.block 1 (jQ Qn4 (.reg Qn5))) (.reg Qn6)))
abbrev Qn8:IL:=[ja 20 3,Nw 21 20,ja 2 21]
abbrev QJ3:RC:=jQ Qn0 (jQ Qn1 (.seq (jQ Qn2 (.block 0 (.loop Qn7))) (jQ Qn8 (.ret))))
abbrev QJ4:List RR:=[.tmp 2]
theorem QJ5:CT 106 22 QJ3 QJ4:=ck Tryz.func106 Tryz.ntmps106 (by decide +kernel)
abbrev Qn9:IL:=[je 4 4 0,je 5 5 1,jd 8 0]
abbrev Qoa:IL:=[jd 9 0]
abbrev Qob:IL:=[ja 13 9,ja 14 2,ji 15 1 14,jn 16 13 15]
abbrev Qoc:IL:=[jw 19 0 4 2 4,jb 20 4 5,yb 21 0 5 20,ja 22 2,ja 23 9,jk 24 14 22 23,jb 25 0 24,ya 26 7 25,⟨some 27,.call (.f 190) [(.t 19),(.t 21),(.c (.int .i64 (-1))),(.t 26)],none⟩,ja 10 27]
abbrev Qod:IL:=[ja 28 10,yg 29 28 0]
abbrev Qoe:IL:=[ja 30 10,ja 8 30]
abbrev Qof:IL:=[jd 11 0]
abbrev Qog:IL:=[ja 31 11,ja 32 9,jn 33 31 32]
abbrev EO:IL:=[ja 36 2,ja 37 11,jk 38 14 36 37,jb 39 0 38,ya 40 7 39,ja 41 2,ja 42 9,jk 43 14 41 42,jb 44 0 43,ya 45 7 44,jy 46 191 40 45]
abbrev EP:IL:=[jd 8 9]
abbrev Qoh:IL:=[ja 34 11,jm 35 34 1,ja 11 35]
abbrev Mq:RC:=.seq (jQ Qog (jX 33 2)) (.seq (.block 3 (jD EO (.cond (.t 46) (jQ EP (.ret)) (.skip)))) (.reg Qoh))
abbrev EQ:IL:=[jw 47 0 4 2 4,jw 48 0 5 8 5,ja 49 2,ja 50 9,jk 51 14 49 50,jb 52 7 51,ya 53 7 52,ja 54 3,zj 55 111 47 48 53 54,ja 12 55]
abbrev ER:IL:=[ja 56 12,yg 57 56 0]
abbrev ES:IL:=[ja 58 12,ja 8 58]
abbrev Qoi:IL:=[ja 17 9,jm 18 17 1,ja 9 18]
abbrev Qoj:RC:=.seq (jQ Qob (jX 16 0)) (.seq (.block 1 (.seq (jD Qoc (jQ Qod (.cond (.t 29) (jQ Qoe (.ret)) (.skip)))) (.seq (jQ Qof (.block 2 (.loop Mq))) (jD EQ (jQ ER (.cond (.t 57) (jQ ES (.ret)) (.skip))))))) (.reg Qoi))
abbrev ET:IL:=[jd 8 0]
abbrev QJ6:RC:=jQ Qn9 (.seq (jQ Qoa (.block 0 (.loop Qoj))) (jQ ET (.ret)))
abbrev QJ7:List RR:=[.tmp 8]
theorem QJ8:CT 110 59 QJ6 QJ7:=ck Tryz.func110 Tryz.ntmps110 (by decide +kernel)
abbrev Qok:IL:=[je 4 4 0,je 5 5 1,je 6 6 2,jd 8 0]
abbrev Qol:IL:=[jb 9 5 5,jc 10 9,jq 11 10 10]
abbrev Qom:IL:=[jf 12 2 4,jb 13 6 5,jc 14 13,jf 15 7 6,ja 16 3,jm 17 16 1,zj 18 31 12 14 15 17,ja 8 18]
abbrev Qon:IL:=[jf 19 2 4,jb 20 5 5,jc 21 20,jb 22 6 5,jc 23 22,jf 24 7 6,zj 25 190 19 21 23 24,ja 8 25]
abbrev QJ9:RC:=jQ Qok (.seq (jQ Qol (.cond (.t 11) (jQ Qom (.ret)) (.skip))) (jQ Qon (.ret)))
abbrev QKa:List RR:=[.tmp 8]
theorem QKb:CT 111 26 QJ9 QKa:=ck Tryz.func111 Tryz.ntmps111 (by decide +kernel)
abbrev Qoo:IL:=[je 3 3 0,jh 6]
abbrev Qop:IL:=[ja 9 1,yo 10 9 0,ja 11 10,jv 12 1 11,jp 13 1 3 11,jt 14 13 11,yf 15 1 14 11,FF 16 12 15 11,jo 17 11 16,ja 18 17,jv 19 2 18,⟨some 20,.val (.bin .num .gtr (.t 19) (.c (.int .u64 2147483647))),(some (18,false))⟩,jo 21 18 20]
abbrev Qoq:IL:=[jh 6]
abbrev Qor:IL:=[jb 22 1 3,jc 23 22,ja 24 1,jk 25 5 23 24,jb 26 1 25,jc 27 26,ja 7 27]
abbrev Qos:IL:=[jd 8 0]
abbrev Qot:IL:=[ja 28 8,jb 29 1 3,jc 30 29,ja 31 1,jk 32 5 30 31,jb 33 2 32,jc 34 33,ji 35 1 34,jn 36 28 35]
abbrev Qou:IL:=[ja 39 7,ja 40 39,jp 41 1 3 40,jt 42 41 40,jv 43 1 40,yz 44 5 42 43 40,jp 45 2 44 40,jt 46 45 40,jv 47 8 40,yz 48 3 46 47 40,jp 49 1 48 40,jt 50 49 40,jv 51 2 40,⟨some 52,.val (.cvi .i64 (.t 51)),(some (40,false))⟩,⟨some 53,.val (.bin .num .eql (.t 50) (.t 52)),(some (40,false))⟩,jo 54 40 53,ja 7 54]
abbrev Qov:IL:=[ja 37 8,jm 38 37 1,ja 8 38]
abbrev Qow:RC:=.seq (jQ Qot (jX 36 0)) (.seq (.block 1 (.reg Qou)) (.reg Qov))
abbrev Qox:IL:=[ja 55 7,ja 6 55]
abbrev QKc:RC:=jQ Qoo (.seq (jQ Qop (.cond (.t 21) (jQ Qoq (.ret)) (.skip))) (jQ Qor (.seq (jQ Qos (.block 0 (.loop Qow))) (jQ Qox (.ret)))))
abbrev QKd:List RR:=[.tmp 6]
theorem QKe:CT 112 56 QKc QKd:=ck Tryz.func112 Tryz.ntmps112 (by decide +kernel)
abbrev Qoy:IL:=[je 3 3 0,je 4 4 1,je 5 5 2,yu 6 6]
abbrev Qoz:IL:=[jb 7 5 4,jc 8 7,jq 9 8 10]
abbrev QoA:IL:=[jf 10 2 3,jb 11 6 4,jc 12 11,jf 13 7 5,yd 14 35 10 12 13,js 7 6 14]
abbrev QoB:IL:=[jf 15 7 5,jr 16 75 15,js 7 6 16]
abbrev QKf:RC:=jQ Qoy (.seq (jQ Qoz (.cond (.t 9) (jQ QoA (.ret)) (.skip))) (jQ QoB (.ret)))
abbrev QKg:List RR:=[.cell 6 (some 7)]
theorem QoC:CT 113 17 QKf QKg:=ck Tryz.func113 Tryz.ntmps113 (by decide +kernel)
abbrev QoD:IL:=[ye 2]
abbrev QoE:IL:=[ye 3]
abbrev QoF:IL:=[jd 4 0]
abbrev QoG:IL:=[ja 9 4,ja 10 0,ji 11 1 10,jn 12 9 11]
abbrev QoH:IL:=[yl 5]
abbrev QoI:IL:=[ja 15 4,jm 16 15 1,ja 6 16]
abbrev QoJ:IL:=[ja 17 6,ja 18 0,ji 19 1 18,jn 20 17 19]
abbrev QoK:IL:=[ja 23 5,ja 24 23,jg 25 0 24,jg 26 4 24,yc 27 14 25 26 24,jl 28 0 27 24,H8 29 7 28 24,jg 30 0 24,jg 31 6 24,yc 32 14 30 31 24,jl 33 0 32 24,H8 34 7 33 24,H9 35 192 29 34 24,zv 36 35 0 24,jj 37 24 36,ja 5 37]
abbrev QoL:IL:=[ja 21 6,jm 22 21 1,ja 6 22]
abbrev Mr:RC:=.seq (jQ QoJ (jX 20 2)) (.seq (.block 3 (.draw QoK)) (.reg QoL))
abbrev EU:IL:=[ja 38 5]
abbrev EV:IL:=[jd 7 0]
abbrev EX:IL:=[ja 39 7,ja 40 3,ji 41 1 40,jn 42 39 41,ja 43 42,jg 44 3 43,jg 45 7 43,yc 46 14 44 45 43,jl 47 0 46 43,H8 48 7 47 43,jg 49 0 43,jg 50 4 43,yc 51 14 49 50 43,jl 52 0 51 43,H8 53 7 52 43,H9 54 192 48 53 43,⟨some 55,.val (.bin .num .lss (.t 54) (.c (.int .i64 0))),(some (43,true))⟩,jj 56 43 55]
abbrev EY:IL:=[ja 57 7,jm 58 57 1,ja 7 58]
abbrev Ms:RC:=.seq (jD EX (jX 56 4)) (.block 5 (.reg EY))
abbrev EZ:IL:=[ja 59 0,ja 60 4,jk 61 14 59 60,ya 62 14 61,⟨some 63,.bslv 63 14 1 [.int .i64 0,.int .u64 0,.str [],.nils,.nils,.nils,.nils,.int .i64 0,.int .u64 0,.str [],.nils,.nils,.nils,.nils] [(0,14,(.t 62))],none⟩,ja 64 3,ja 65 7,⟨some 66,.val (.slcp (some 14) (.t 64) (some (.t 65)) none none),none⟩,yh 67 14 256 75 63 66,ja 8 67]
abbrev E0:IL:=[⟨some 68,.bsl0 68 14,none⟩,ja 69 3,ja 70 7,FH 71 14 69 70,yh 72 14 256 75 68 71,ja 73 8,yh 74 14 256 75 72 73,ja 3 74]
abbrev QoM:IL:=[ja 13 4,jm 14 13 1,ja 4 14]
abbrev QoN:RC:=.seq (jQ QoG (jX 12 0)) (.seq (.block 1 (jQ QoH (.seq (jQ QoI (.block 2 (.loop Mr))) (jQ EU (.cond (.t 38) (jQ EV (.seq (.block 4 (.loop Ms)) (jD EZ (.reg E0)))) (.skip)))))) (.gho (.pub 3 68) (.reg QoM)))
abbrev E1:IL:=[ja 75 3,ja 2 75]
abbrev QKh:RC:=jQ QoD (jQ QoE (.gho (.lst 3) (.seq (jQ QoF (.block 0 (.loop QoN))) (jQ E1 (.ret)))))
abbrev QKi:List RR:=[.tmp 2]
theorem QKj:CT 114 76 QKh QKi:=ck Tryz.func114 Tryz.ntmps114 (by decide +kernel)
abbrev QoO:IL:=[je 1 1 0,jh 2]
abbrev QoP:IL:=[jb 3 0 1,jc 4 3,jr 5 193 4,ja 6 5,jl 7 1 1 6,ju 8 7 6,C2 9 8 0 6,jj 10 6 9,ja 11 10,jl 12 2 1 11,ju 13 12 11,⟨some 14,.val (.bin .str .eql (.t 13) (.c (.str []))),(some (11,true))⟩,jj 15 11 14,ja 16 15,zk 17 7 1 16,zh 18 194 17 16,jj 19 16 18,ja 2 19]
abbrev QKk:RC:=jQ QoO (jQ QoP (.ret))
abbrev QKl:List RR:=[.tmp 2]
theorem QKm:CT 115 20 QKk QKl:=ck Tryz.func115 Tryz.ntmps115 (by decide +kernel)
abbrev QoQ:IL:=[je 3 3 0,je 4 4 1,je 5 5 2,ye 6]
abbrev QoR:IL:=[ye 7]
abbrev QoS:IL:=[jb 11 4 5,jc 12 11,ji 13 1 12,jd 14 0]
abbrev QoT:IL:=[jn 15 14 13]
abbrev QoU:IL:=[jk 16 14 12 14,jf 17 14 16,RT 9 9,js 14 9 17]
abbrev QoV:IL:=[jb 18 0 9,jw 19 0 9 7 18,jr 20 25 19,⟨some 21,.call (.f 196) [(.c (.int .i64 1)),(.t 20)],none⟩,jw 22 0 3 2 3,jw 23 0 4 8 4,jb 24 7 9,jw 25 0 9 7 24,yd 26 197 22 23 25,⟨some 27,.call (.f 196) [(.c (.int .i64 2)),(.t 26)],none⟩,⟨some 28,.bsl 4 2 [.int .i64 0,.int .i64 0,.int .u64 0,.str []] [(0,4,(.t 21)),(4,4,(.t 27))],none⟩,ja 10 28]
abbrev QoW:IL:=[ja 29 7,jb 30 0 4,yb 31 0 4 30,ja 32 10,jr 33 58 32,⟨some 34,.val (.build [.int .i64 0,.int .i64 0,.int .u64 0,.str []] [(0,1,(.t 31)),(1,1,(.c (.int .i64 6))),(3,1,(.t 33))]),none⟩,zw 35 4 1 0 4 34,yh 36 4 40 52 29 35,ja 7 36]
abbrev QoX:IL:=[jm 37 14 1,ja 14 37]
abbrev QoY:RC:=.gho (.drop 9) (jQ QoT (.seq (jX 15 0) (.seq (.block 1 (jQ QoU (jD QoV (.draw QoW)))) (.reg QoX))))
abbrev QoZ:IL:=[ja 38 7,ja 6 38]
abbrev QKn:RC:=jQ QoQ (jQ QoR (.gho (.vec 7 7 4) (.seq (jQ QoS (.block 0 (.loop QoY))) (jQ QoZ (.ret)))))
abbrev QKo:List RR:=[.tmp 6]
theorem QKp:CT 118 39 QKn QKo:=ck Tryz.func118 Tryz.ntmps118 (by decide +kernel)
abbrev Qo0:IL:=[je 3 3 0,je 4 4 1,je 5 5 2,ye 6]
abbrev Qo1:IL:=[ye 7]
abbrev Qo2:IL:=[jb 10 3 5,jc 11 10,ji 12 1 11,jd 13 0]
abbrev Qo3:IL:=[jn 14 13 12]
abbrev Qo4:IL:=[jk 15 7 11 13,jf 16 7 15,yu 9 9,js 7 9 16]
abbrev Qo5:IL:=[ja 17 7,jb 18 0 4,yb 19 0 4 18,jw 20 0 3 2 3,jw 21 0 4 8 4,jw 22 0 9 7 9,yd 23 197 20 21 22,jy 24 196 19 23,zw 25 4 1 0 4 24,yh 26 4 40 52 17 25,ja 7 26]
abbrev Qo6:IL:=[jm 27 13 1,ja 13 27]
abbrev Qo7:RC:=.gho (.drop 9) (jQ Qo3 (.seq (jX 14 0) (.seq (.block 1 (jQ Qo4 (.draw Qo5))) (.reg Qo6))))
abbrev Qo8:IL:=[ja 28 7,ja 6 28]
abbrev QKq:RC:=jQ Qo0 (jQ Qo1 (.gho (.vec 7 7 4) (.seq (jQ Qo2 (.block 0 (.loop Qo7))) (jQ Qo8 (.ret)))))
abbrev QKr:List RR:=[.tmp 6]
theorem QKs:CT 121 29 QKq QKr:=ck Tryz.func121 Tryz.ntmps121 (by decide +kernel)
abbrev Qo9:IL:=[jd 2 0]
abbrev Qpa:IL:=[ja 4 0,⟨some 5,.val (.bin .num .rem (.t 4) (.c (.int .u64 9223372036854775808))),none⟩,ja 3 5]
abbrev Qpb:IL:=[ja 7 3,⟨some 8,.val (.bin .num .gtr (.t 7) (.c (.int .u64 9218868437227405312))),none⟩,ja 6 8]
abbrev Qpc:IL:=[jd 2 0]
abbrev Qpd:IL:=[ja 10 3,H7 11 10 9218868437227405312,ja 9 11]
abbrev Qpe:IL:=[jd 2 1]
abbrev Qpf:IL:=[ja 13 3,H7 14 13 0,ja 12 14]
abbrev Qpg:IL:=[jd 2 2]
abbrev Qph:IL:=[ja 16 3,⟨some 17,.val (.bin .num .lss (.t 16) (.c (.int .u64 4503599627370496))),none⟩,ja 15 17]
abbrev Qpi:IL:=[jd 2 3]
abbrev E2:IL:=[jd 2 4]
abbrev QKt:RC:=jQ Qo9 (jQ Qpa (.seq (.block 0 (jQ Qpb (.cond (.t 6) (jQ Qpc (.ret)) (jQ Qpd (.cond (.t 9) (jQ Qpe (.ret)) (jQ Qpf (.cond (.t 12) (jQ Qpg (.ret)) (jQ Qph (.cond (.t 15) (jQ Qpi (.ret)) (.skip)))))))))) (jQ E2 (.ret))))
abbrev QKu:List RR:=[.tmp 2]
theorem Qpj:CT 123 18 QKt QKu:=ck Tryz.func123 Tryz.ntmps123 (by decide +kernel)
abbrev Qpk:IL:=[jh 2]
abbrev Qpl:IL:=[ja 5 0,ji 6 0 5,yq 7 6 120]
abbrev Qpm:IL:=[jh 2]
abbrev Qpn:IL:=[yi 3]
abbrev Qpo:IL:=[jd 4 0]
abbrev Qpp:IL:=[ja 8 4,ja 9 0,ji 10 0 9,jn 11 8 10]
abbrev Qpq:IL:=[ja 14 0,ja 15 4,Nx 16 14 15,⟨some 17,.val (.bin .num .neq (.t 16) (.c (.int .u8 46))),none⟩]
abbrev Qpr:IL:=[ja 18 3,ja 19 0,ja 20 4,ja 21 4,jm 22 21 1,⟨some 23,.val (.slc none (.t 19) (some (.t 20)) (some (.t 22)) none),none⟩,DG 24 18 23,ja 3 24]
abbrev Qps:IL:=[ja 25 3,jr 26 127 25,jz 27 26]
abbrev E3:IL:=[jh 2]
abbrev E4:IL:=[yi 3]
abbrev Qpt:IL:=[ja 12 4,jm 13 12 1,ja 4 13]
abbrev Qpu:RC:=.seq (jQ Qpp (jX 11 0)) (.seq (.block 1 (.seq (jQ Qpq (.cond (.t 17) (jQ Qpr (.exit 1)) (.skip))) (.seq (jQ Qps (.cond (.t 27) (jQ E3 (.ret)) (.skip))) (.reg E4)))) (.reg Qpt))
abbrev E5:IL:=[ja 28 3,jr 29 127 28,ja 2 29]
abbrev QKv:RC:=jQ Qpk (.seq (jQ Qpl (.cond (.t 7) (jQ Qpm (.ret)) (.skip))) (jQ Qpn (.seq (jQ Qpo (.block 0 (.loop Qpu))) (jQ E5 (.ret)))))
abbrev QKw:List RR:=[.tmp 2]
theorem QKx:CT 124 30 QKv QKw:=ck Tryz.func124 Tryz.ntmps124 (by decide +kernel)
abbrev Qpv:IL:=[yi 2,yi 3]
abbrev Qpw:IL:=[ja 5 0,ji 6 0 5,za 7 6 1,ja 4 7]
abbrev Qpx:IL:=[ja 8 4,yn 9 8 0]
abbrev Qpy:IL:=[ja 12 0,ja 13 4,Nx 14 12 13,C8 15 14 46]
abbrev Qpz:IL:=[ja 16 0,ja 17 4,⟨some 18,.val (.slc none (.t 16) none (some (.t 17)) none),none⟩,ja 19 0,ja 20 4,jm 21 20 1,C6 22 19 21,ja 2 18,ja 3 22]
abbrev QpA:IL:=[ja 10 4,za 11 10 1,ja 4 11]
abbrev QpB:RC:=.seq (jQ Qpx (jX 9 0)) (.seq (.block 1 (jQ Qpy (.cond (.t 15) (jD Qpz (.ret)) (.skip)))) (.reg QpA))
abbrev QpC:IL:=[ja 23 0,yi 2,ja 3 23]
abbrev QKy:RC:=jQ Qpv (.seq (jQ Qpw (.block 0 (.loop QpB))) (jQ QpC (.ret)))
abbrev QKz:List RR:=[.tmp 2,.tmp 3]
theorem QKA:CT 125 24 QKy QKz:=ck Tryz.func125 Tryz.ntmps125 (by decide +kernel)
abbrev QpD:IL:=[jh 2]
abbrev QpE:IL:=[ja 3 0]
abbrev QpF:IL:=[⟨some 5,.val (.bin .str .eql (.t 3) (.c (.str [109,101,115,115,97,103,101]))),none⟩,ja 4 5]
abbrev QpG:IL:=[⟨some 6,.val (.bin .str .eql (.t 3) (.c (.str [101,110,117,109]))),none⟩,ja 4 6]
abbrev QpH:IL:=[⟨some 7,.val (.bin .str .eql (.t 3) (.c (.str [115,101,114,118,105,99,101]))),none⟩,ja 4 7]
abbrev QpI:IL:=[⟨some 8,.val (.bin .str .eql (.t 3) (.c (.str [117,110,105,111,110]))),none⟩,ja 4 8]
abbrev QpJ:IL:=[⟨some 9,.val (.bin .str .eql (.t 3) (.c (.str [109,97,112]))),none⟩,ja 4 9]
abbrev QpK:IL:=[⟨some 10,.val (.bin .str .eql (.t 3) (.c (.str [108,105,115,116]))),none⟩,ja 4 10]
abbrev QpL:IL:=[⟨some 11,.val (.bin .str .eql (.t 3) (.c (.str [114,101,113,117,105,114,101,100]))),none⟩,ja 4 11]
abbrev QpM:IL:=[⟨some 12,.val (.bin .str .eql (.t 3) (.c (.str [111,112,116,105,111,110,97,108]))),none⟩,ja 4 12]
abbrev E6:IL:=[⟨some 13,.val (.bin .str .eql (.t 3) (.c (.str [112,108,97,105,110]))),none⟩,ja 4 13]
abbrev E7:IL:=[⟨some 14,.val (.bin .str .eql (.t 3) (.c (.str [100,101,102,97,117,108,116]))),none⟩,ja 4 14]
abbrev E8:IL:=[⟨some 15,.val (.bin .str .eql (.t 3) (.c (.str [114,101,115,101,114,118,101,100]))),none⟩,ja 4 15]
abbrev E9:IL:=[⟨some 16,.val (.bin .str .eql (.t 3) (.c (.str [105,109,112,111,114,116]))),none⟩,ja 4 16]
abbrev Ia:IL:=[⟨some 17,.val (.bin .str .eql (.t 3) (.c (.str [115,112,97,99,101]))),none⟩,ja 4 17]
abbrev Ib:IL:=[⟨some 18,.val (.bin .str .eql (.t 3) (.c (.str [114,112,99]))),none⟩,ja 4 18]
abbrev Ic:IL:=[⟨some 19,.val (.bin .str .eql (.t 3) (.c (.str [115,116,114,101,97,109]))),none⟩,ja 4 19]
abbrev Id:IL:=[⟨some 20,.val (.bin .str .eql (.t 3) (.c (.str [114,101,116,117,114,110,115]))),none⟩,ja 4 20]
abbrev Ie:IL:=[⟨some 21,.val (.bin .str .eql (.t 3) (.c (.str [111,112,101,110]))),none⟩,ja 4 21]
abbrev Ig:IL:=[⟨some 22,.val (.bin .str .eql (.t 3) (.c (.str [116,114,117,101]))),none⟩,ja 4 22]
abbrev Ih:IL:=[⟨some 23,.val (.bin .str .eql (.t 3) (.c (.str [102,97,108,115,101]))),none⟩,ja 4 23]
abbrev Ii:IL:=[⟨some 24,.val (.bin .str .eql (.t 3) (.c (.str [110,97,110]))),none⟩,ja 4 24]
abbrev Ij:IL:=[⟨some 25,.val (.bin .str .eql (.t 3) (.c (.str [105,110,102]))),none⟩,ja 4 25]
abbrev Ik:IL:=[yl 2]
abbrev Il:IL:=[jh 2]
abbrev QKB:RC:=jQ QpD (.seq (jQ QpE (.block 0 (.seq (jQ QpF (.cond (.t 4) (.skip) (jQ QpG (.cond (.t 4) (.skip) (jQ QpH (.cond (.t 4) (.skip) (jQ QpI (.cond (.t 4) (.skip) (jQ QpJ (.cond (.t 4) (.skip) (jQ QpK (.cond (.t 4) (.skip) (jQ QpL (.cond (.t 4) (.skip) (jQ QpM (.cond (.t 4) (.skip) (jQ E6 (.cond (.t 4) (.skip) (jQ E7 (.cond (.t 4) (.skip) (jQ E8 (.cond (.t 4) (.skip) (jQ E9 (.cond (.t 4) (.skip) (jQ Ia (.cond (.t 4) (.skip) (jQ Ib (.cond (.t 4) (.skip) (jQ Ic (.cond (.t 4) (.skip) (jQ Id (.cond (.t 4) (.skip) (jQ Ie (.cond (.t 4) (.skip) (jQ Ig (.cond (.t 4) (.skip) (jQ Ih (.cond (.t 4) (.skip) (jQ Ii (.cond (.t 4) (.skip) (.reg Ij))))))))))))))))))))))))))))))))))))))))) (.cond (.t 4) (jQ Ik (.ret)) (.skip))))) (jQ Il (.ret)))
abbrev QKC:List RR:=[.tmp 2]
theorem QKD:CT 126 26 QKB QKC:=ck Tryz.func126 Tryz.ntmps126 (by decide +kernel)
abbrev QpN:IL:=[jh 2]
abbrev QpO:IL:=[ja 4 0,ji 5 0 4,jq 6 5 0,ja 7 6,jv 8 0 7,yf 9 0 8 7,yk 10 9 40 7,jo 11 7 10,ja 12 11,jv 13 0 12,⟨some 14,.val (.idx (.t 13) (.c (.int .i64 0))),(some (12,false))⟩,zi 15 199 14 12,ze 16 15 12,jv 17 16 12,jg 18 0 17,⟨some 19,.val (.idx (.t 18) (.c (.int .i64 0))),(some (17,true))⟩,zh 20 200 19 17,yx 21 20 17,yw 22 17 21 12,jo 23 12 22]
abbrev QpP:IL:=[jh 2]
abbrev QpQ:IL:=[jd 3 1]
abbrev QpR:IL:=[ja 24 3,ja 25 0,ji 26 0 25,jn 27 24 26]
abbrev QpS:IL:=[ja 30 0,ja 31 3,Nx 32 30 31,jr 33 199 32,jz 34 33,ja 35 34,jg 36 0 35,jg 37 3 35,C9 38 36 37 35,zh 39 200 38 35,yx 40 39 35,jj 41 35 40,ja 42 41,jg 43 0 42,jg 44 3 42,C9 45 43 44 42,⟨some 46,.val (.bin .num .neq (.t 45) (.c (.int .u8 95))),(some (42,true))⟩,jj 47 42 46,ja 48 47,jg 49 0 48,jg 50 3 48,C9 51 49 50 48,⟨some 52,.val (.bin .num .lss (.t 51) (.c (.int .u8 48))),(some (48,true))⟩,jg 53 52 48,jv 54 0 53,jv 55 3 53,⟨some 56,.val (.idx (.t 54) (.t 55)),(some (53,false))⟩,⟨some 57,.val (.bin .num .gtr (.t 56) (.c (.int .u8 57))),(some (53,false))⟩,zf 58 53 57 48,jj 59 48 58]
abbrev QpT:IL:=[jh 2]
abbrev QpU:IL:=[ja 28 3,jm 29 28 1,ja 3 29]
abbrev Mt:RC:=.seq (jQ QpR (jX 27 0)) (.seq (.block 1 (jQ QpS (.cond (.t 59) (jQ QpT (.ret)) (.skip)))) (.reg QpU))
abbrev QpV:IL:=[yl 2]
abbrev QKE:RC:=jQ QpN (.seq (jQ QpO (.cond (.t 23) (jQ QpP (.ret)) (.skip))) (.seq (jQ QpQ (.block 0 (.loop Mt))) (jQ QpV (.ret))))
abbrev QKF:List RR:=[.tmp 2]
theorem QKG:CT 127 60 QKE QKF:=ck Tryz.func127 Tryz.ntmps127 (by decide +kernel)
abbrev QpW:IL:=[jd 2 0]
abbrev QpX:IL:=[ja 3 0]
abbrev QpY:IL:=[⟨some 5,.val (.bin .str .eql (.t 3) (.c (.str [100,101,112,114,101,99,97,116,101,100]))),none⟩,ja 4 5]
abbrev QpZ:IL:=[⟨some 6,.val (.bin .str .eql (.t 3) (.c (.str [115,101,99,114,101,116]))),none⟩,ja 4 6]
abbrev Qp0:IL:=[⟨some 7,.val (.bin .str .eql (.t 3) (.c (.str [105,100,101,109,112,111,116,101,110,116]))),none⟩,ja 4 7]
abbrev Qp1:IL:=[jd 2 1]
abbrev Qp2:IL:=[⟨some 9,.val (.bin .str .eql (.t 3) (.c (.str [100,111,99]))),none⟩,ja 8 9]
abbrev Qp3:IL:=[⟨some 10,.val (.bin .str .eql (.t 3) (.c (.str [97,108,105,97,115]))),none⟩,ja 8 10]
abbrev Qp4:IL:=[⟨some 11,.val (.bin .str .eql (.t 3) (.c (.str [114,111,117,116,101]))),none⟩,ja 8 11]
abbrev Qp5:IL:=[⟨some 12,.val (.bin .str .eql (.t 3) (.c (.str [111,119,110,101,114]))),none⟩,ja 8 12]
abbrev Im:IL:=[jd 2 7]
abbrev Io:IL:=[⟨some 14,.val (.bin .str .eql (.t 3) (.c (.str [115,105,110,99,101]))),none⟩,ja 13 14]
abbrev Ip:IL:=[⟨some 15,.val (.bin .str .eql (.t 3) (.c (.str [117,110,116,105,108]))),none⟩,ja 13 15]
abbrev Iq:IL:=[⟨some 16,.val (.bin .str .eql (.t 3) (.c (.str [108,101,110,103,116,104]))),none⟩,ja 13 16]
abbrev Ir:IL:=[⟨some 17,.val (.bin .str .eql (.t 3) (.c (.str [116,105,109,101,111,117,116]))),none⟩,ja 13 17]
abbrev Is:IL:=[jd 2 4]
abbrev It:IL:=[⟨some 19,.val (.bin .str .eql (.t 3) (.c (.str [109,105,110]))),none⟩,ja 18 19]
abbrev Iu:IL:=[⟨some 20,.val (.bin .str .eql (.t 3) (.c (.str [109,97,120]))),none⟩,ja 18 20]
abbrev Iv:IL:=[jd 2 3]
abbrev Iw:IL:=[jd 2 0]
abbrev QKH:RC:=jQ QpW (.seq (jQ QpX (.block 0 (.seq (jQ QpY (.cond (.t 4) (.skip) (jQ QpZ (.cond (.t 4) (.skip) (.reg Qp0))))) (.cond (.t 4) (jQ Qp1 (.ret)) (.seq (jQ Qp2 (.cond (.t 8) (.skip) (jQ Qp3 (.cond (.t 8) (.skip) (jQ Qp4 (.cond (.t 8) (.skip) (.reg Qp5))))))) (.cond (.t 8) (jQ Im (.ret)) (.seq (jQ Io (.cond (.t 13) (.skip) (jQ Ip (.cond (.t 13) (.skip) (jQ Iq (.cond (.t 13) (.skip) (.reg Ir))))))) (.cond (.t 13) (jQ Is (.ret)) (.seq (jQ It (.cond (.t 18) (.skip) (.reg Iu))) (.cond (.t 18) (jQ Iv (.ret)) (.skip))))))))))) (jQ Iw (.ret)))
abbrev QKI:List RR:=[.tmp 2]
theorem QKJ:CT 128 21 QKH QKI:=ck Tryz.func128 Tryz.ntmps128 (by decide +kernel)
abbrev Qp6:IL:=[jh 4]
abbrev Qp7:IL:=[ja 5 0]
abbrev Qp8:IL:=[⟨some 7,.val (.bin .str .eql (.t 5) (.c (.str [100,101,112,114,101,99,97,116,101,100]))),none⟩,ja 6 7]
abbrev Qp9:IL:=[⟨some 8,.val (.bin .str .eql (.t 5) (.c (.str [100,111,99]))),none⟩,ja 6 8]
abbrev Qqa:IL:=[ja 9 1,yn 10 9 1,ja 11 10,jg 12 1 11,yy 13 12 6 11,jj 14 11 13,ja 4 14]
abbrev Qqb:IL:=[⟨some 16,.val (.bin .str .eql (.t 5) (.c (.str [97,108,105,97,115]))),none⟩,ja 15 16]
abbrev Qqc:IL:=[⟨some 17,.val (.bin .str .eql (.t 5) (.c (.str [115,105,110,99,101]))),none⟩,ja 15 17]
abbrev Qqd:IL:=[⟨some 18,.val (.bin .str .eql (.t 5) (.c (.str [117,110,116,105,108]))),none⟩,ja 15 18]
abbrev Qqe:IL:=[ja 19 1,jq 20 19 2,ja 21 20,jv 22 1 21,ys 23 22 4 21,jo 24 21 23,ja 25 24,jv 26 1 25,ys 27 26 6 25,jo 28 25 27,ja 4 28]
abbrev Qqf:IL:=[⟨some 30,.val (.bin .str .eql (.t 5) (.c (.str [109,105,110]))),none⟩,ja 29 30]
abbrev Ix:IL:=[⟨some 31,.val (.bin .str .eql (.t 5) (.c (.str [109,97,120]))),none⟩,ja 29 31]
abbrev Iy:IL:=[⟨some 32,.val (.bin .str .eql (.t 5) (.c (.str [108,101,110,103,116,104]))),none⟩,ja 29 32]
abbrev Iz:IL:=[⟨some 33,.val (.bin .str .eql (.t 5) (.c (.str [115,101,99,114,101,116]))),none⟩,ja 29 33]
abbrev IA:IL:=[ja 34 1,jq 35 34 2,ja 4 35]
abbrev IB:IL:=[⟨some 37,.val (.bin .str .eql (.t 5) (.c (.str [105,100,101,109,112,111,116,101,110,116]))),none⟩,ja 36 37]
abbrev IC:IL:=[⟨some 38,.val (.bin .str .eql (.t 5) (.c (.str [116,105,109,101,111,117,116]))),none⟩,ja 36 38]
abbrev ID:IL:=[⟨some 39,.val (.bin .str .eql (.t 5) (.c (.str [114,111,117,116,101]))),none⟩,ja 36 39]
abbrev IE:IL:=[ja 40 1,jq 41 40 6,ja 4 41]
abbrev IF:IL:=[ja 42 1,jq 43 42 1,ja 44 43,jv 45 1 44,ys 46 45 5 44,jo 47 44 46,ja 4 47]
abbrev QKK:RC:=jQ Qp6 (.seq (jQ Qp7 (.block 0 (.seq (jQ Qp8 (.cond (.t 6) (.skip) (.reg Qp9))) (.cond (.t 6) (jQ Qqa (.ret)) (.seq (jQ Qqb (.cond (.t 15) (.skip) (jQ Qqc (.cond (.t 15) (.skip) (.reg Qqd))))) (.cond (.t 15) (jQ Qqe (.ret)) (.seq (jQ Qqf (.cond (.t 29) (.skip) (jQ Ix (.cond (.t 29) (.skip) (jQ Iy (.cond (.t 29) (.skip) (.reg Iz))))))) (.cond (.t 29) (jQ IA (.ret)) (.seq (jQ IB (.cond (.t 36) (.skip) (jQ IC (.cond (.t 36) (.skip) (.reg ID))))) (.cond (.t 36) (jQ IE (.ret)) (.skip))))))))))) (jQ IF (.ret)))
abbrev QKL:List RR:=[.tmp 4]
theorem QKM:CT 129 48 QKK QKL:=ck Tryz.func129 Tryz.ntmps129 (by decide +kernel)
abbrev Qqg:IL:=[je 1 1 0,jh 2]
abbrev Qqh:IL:=[jb 4 0 1,jc 5 4,jr 6 128 5,ja 3 6]
abbrev Qqi:IL:=[ja 7 3,yg 8 7 0,ja 9 8,jl 10 1 1 9,jl 11 0 10 9,ju 12 11 9,jg 13 3 9,C4 14 12 13 9,jj 15 9 14,ja 16 15,jg 17 3 16,jl 18 1 1 16,zk 19 7 18 16,H9 20 201 17 19 16,jj 21 16 20,ja 2 21]
abbrev QKN:RC:=jQ Qqg (jQ Qqh (jQ Qqi (.ret)))
abbrev QKO:List RR:=[.tmp 2]
theorem QKP:CT 130 22 QKN QKO:=ck Tryz.func130 Tryz.ntmps130 (by decide +kernel)
abbrev Qqj:IL:=[jh 2]
abbrev Qqk:IL:=[ja 3 0,jr 4 202 3,yo 5 4 0,ja 2 5]
abbrev QKQ:RC:=jQ Qqj (jQ Qqk (.ret))
abbrev QKR:List RR:=[.tmp 2]
theorem QKS:CT 131 6 QKQ QKR:=ck Tryz.func131 Tryz.ntmps131 (by decide +kernel)
abbrev Qql:IL:=[je 2 2 0,je 3 3 1,jh 4]
abbrev Qqm:IL:=[jb 5 5 3,jc 6 5]
abbrev Qqn:IL:=[jq 8 6 10,ja 7 8]
abbrev Qqo:IL:=[jb 9 6 3,jc 10 9,yn 11 10 0,ja 12 11,jl 13 6 3 12,ju 14 13 12,jl 15 0 2 12,ju 16 15 12,yt 17 1 16 12,zu 18 14 17 12,jj 19 12 18,ja 20 19,jl 21 3 3 20,ju 22 21 20,zv 23 22 3 20,jj 24 20 23,ja 4 24]
abbrev Qqp:IL:=[jq 26 6 9,ja 25 26]
abbrev Qqq:IL:=[jb 27 6 3,jc 28 27,yn 29 28 0,ja 30 29,jl 31 6 3 30,ju 32 31 30,jl 33 1 2 30,ju 34 33 30,yt 35 1 34 30,zu 36 32 35 30,jj 37 30 36,ja 4 37]
abbrev Qqr:IL:=[jb 38 6 3,jc 39 38,jq 40 39 (-1),ja 4 40]
abbrev QKT:RC:=jQ Qql (.seq (jQ Qqm (.block 0 (jQ Qqn (.cond (.t 7) (jQ Qqo (.ret)) (jQ Qqp (.cond (.t 25) (jQ Qqq (.ret)) (.skip))))))) (jQ Qqr (.ret)))
abbrev QKU:List RR:=[.tmp 4]
theorem QKV:CT 132 41 QKT QKU:=ck Tryz.func132 Tryz.ntmps132 (by decide +kernel)
abbrev Qqs:IL:=[je 1 1 0,jh 2]
abbrev Qqt:IL:=[jb 3 2 1,jc 4 3,ji 5 1 4,yo 6 5 1,ja 7 6,jp 8 2 1 7,jt 9 8 7,yf 10 1 9 7,yk 11 10 64 7,jo 12 7 11,ja 13 12,jp 14 3 1 13,jt 15 14 13,yf 16 1 15 13,yk 17 16 16 13,jo 18 13 17,ja 2 18]
abbrev QKW:RC:=jQ Qqs (jQ Qqt (.ret))
abbrev QKX:List RR:=[.tmp 2]
theorem QKY:CT 136 19 QKW QKX:=ck Tryz.func136 Tryz.ntmps136 (by decide +kernel)
abbrev Qqu:IL:=[je 1 1 0,jh 2]
abbrev Qqv:IL:=[jb 3 0 1,jc 4 3,jr 5 138 4,jz 6 5,ja 7 6,jp 8 2 1 7,jt 9 8 7,zq 10 143 9 144 7,jo 11 7 10,ja 2 11]
abbrev QKZ:RC:=jQ Qqu (jQ Qqv (.ret))
abbrev QK0:List RR:=[.tmp 2]
theorem QK1:CT 142 12 QKZ QK0:=ck Tryz.func142 Tryz.ntmps142 (by decide +kernel)
abbrev Qqw:IL:=[jh 4]
abbrev Qqx:IL:=[ja 5 0,ja 6 1,yr 7 211 5 6,ja 4 7]
abbrev QK2:RC:=jQ Qqw (jQ Qqx (.ret))
abbrev QK3:List RR:=[.tmp 4]
theorem QK4:CT 143 8 QK2 QK3:=ck Tryz.func143 Tryz.ntmps143 (by decide +kernel)
abbrev Qqy:IL:=[je 1 1 0,jh 2]
abbrev Qqz:IL:=[jb 3 0 1,jc 4 3,jr 5 141 4,jz 6 5,ja 2 6]
abbrev QK5:RC:=jQ Qqy (jQ Qqz (.ret))
abbrev QK6:List RR:=[.tmp 2]
theorem QK7:CT 144 7 QK5 QK6:=ck Tryz.func144 Tryz.ntmps144 (by decide +kernel)
abbrev QqA:IL:=[je 2 2 0,je 3 3 1,jh 4]
abbrev QqB:IL:=[jb 5 0 2,jc 6 5,jb 7 0 3,jc 8 7,⟨some 9,.val (.bin .str .lss (.t 6) (.t 8)),none⟩,ja 4 9]
abbrev QK8:RC:=jQ QqA (jQ QqB (.ret))
abbrev QK9:List RR:=[.tmp 4]
theorem QLa:CT 146 10 QK8 QK9:=ck Tryz.func146 Tryz.ntmps146 (by decide +kernel)
abbrev QqC:IL:=[je 2 2 0,je 3 3 1,jh 4]
abbrev QqD:IL:=[jb 5 0 2,jc 6 5,jb 7 0 3,jc 8 7,⟨some 9,.val (.bin .str .lss (.t 6) (.t 8)),none⟩,ja 4 9]
abbrev QLb:RC:=jQ QqC (jQ QqD (.ret))
abbrev QLc:List RR:=[.tmp 4]
theorem QLd:CT 148 10 QLb QLc:=ck Tryz.func148 Tryz.ntmps148 (by decide +kernel)
abbrev QqE:IL:=[je 1 1 0,jh 2]
abbrev QqF:IL:=[jb 3 2 1,jc 4 3,UZ 5 153 4 154,jz 6 5,ja 2 6]
abbrev QLe:RC:=jQ QqE (jQ QqF (.ret))
abbrev QLf:List RR:=[.tmp 2]
theorem QLg:CT 152 7 QLe QLf:=ck Tryz.func152 Tryz.ntmps152 (by decide +kernel)
abbrev QqG:IL:=[jh 4]
abbrev QqH:IL:=[jd 5 1]
abbrev QqI:IL:=[ja 6 5,ja 7 0,ji 8 1 7,jn 9 6 8]
abbrev QqJ:IL:=[ja 12 1,ja 13 0,ja 14 5,za 15 14 1,jk 16 3 13 15,ya 17 3 16,ja 18 0,ja 19 5,jk 20 3 18 19,ya 21 3 20,⟨some 22,.callF (.t 12) [(.t 17),(.t 21)],none⟩,jz 23 22]
abbrev QqK:IL:=[jh 4]
abbrev QqL:IL:=[ja 10 5,jm 11 10 1,ja 5 11]
abbrev QqM:RC:=.seq (jQ QqI (jX 9 0)) (.seq (.block 1 (jD QqJ (.cond (.t 23) (jQ QqK (.ret)) (.skip)))) (.reg QqL))
abbrev QqN:IL:=[yl 4]
abbrev QLh:RC:=jQ QqG (.seq (jQ QqH (.block 0 (.loop QqM))) (jQ QqN (.ret)))
abbrev QLi:List RR:=[.tmp 4]
theorem QLj:CT 153 24 QLh QLi:=ck Tryz.func153 Tryz.ntmps153 (by decide +kernel)
abbrev QqO:IL:=[je 2 2 0,je 3 3 1,jh 4]
abbrev QqP:IL:=[jb 5 1 2,jc 6 5,jb 7 1 3,jc 8 7,jn 9 6 8,ja 4 9]
abbrev QLk:RC:=jQ QqO (jQ QqP (.ret))
abbrev QLl:List RR:=[.tmp 4]
theorem QLm:CT 154 10 QLk QLl:=ck Tryz.func154 Tryz.ntmps154 (by decide +kernel)
abbrev QqQ:IL:=[je 2 2 0,jh 3]
abbrev QqR:IL:=[jb 4 0 2,jc 5 4,jb 6 0 1,jc 7 6,Nm 8 5 7,ja 3 8]
abbrev QLn:RC:=jQ QqQ (jQ QqR (.ret))
abbrev QLo:List RR:=[.tmp 3]
theorem QLp:CT 156 9 QLn QLo:=ck Tryz.func156 Tryz.ntmps156 (by decide +kernel)
abbrev QqS:IL:=[je 1 1 0,jh 2]
abbrev QqT:IL:=[jb 3 2 1,jc 4 3,UZ 5 160 4 161,ja 2 5]
abbrev QLq:RC:=jQ QqS (jQ QqT (.ret))
abbrev QLr:List RR:=[.tmp 2]
theorem QLs:CT 159 6 QLq QLr:=ck Tryz.func159 Tryz.ntmps159 (by decide +kernel)
abbrev QqU:IL:=[je 3 3 1,jh 4]
abbrev QqV:IL:=[ja 7 0,ji 8 1 7,jd 9 0]
abbrev QqW:IL:=[jn 10 9 8]
abbrev QqX:IL:=[ja 11 9,jk 12 3 7 9,jf 13 3 12,⟨some 6,.allocN 6 [.str [],.int .i64 0,.nils],none⟩,ja 5 11,js 3 6 13]
abbrev QqY:IL:=[ja 14 0,ja 15 5,FH 16 3 14 15,⟨some 17,.val (.mkfn (.func 213) [] [(.t 3),(.t 6)]),none⟩,yr 18 143 16 17]
abbrev QqZ:IL:=[yl 4]
abbrev Qq0:IL:=[jm 19 9 1,ja 9 19]
abbrev Qq1:RC:=.gho (.drop 6) (jQ QqW (.seq (jX 10 0) (.seq (.block 1 (jQ QqX (jQ QqY (.cond (.t 18) (jQ QqZ (.ret)) (.skip))))) (.reg Qq0))))
abbrev Qq2:IL:=[jh 4]
abbrev QLt:RC:=jQ QqU (.seq (jQ QqV (.block 0 (.loop Qq1))) (jQ Qq2 (.ret)))
abbrev QLu:List RR:=[.tmp 4]
theorem QLv:CT 160 20 QLt QLu:=ck Tryz.func160 Tryz.ntmps160 (by decide +kernel)
abbrev Qq3:IL:=[je 1 1 0,yi 2]
abbrev Qq4:IL:=[jb 3 0 1,jc 4 3,ja 2 4]
abbrev QLw:RC:=jQ Qq3 (jQ Qq4 (.ret))
abbrev QLx:List RR:=[.tmp 2]
theorem QLy:CT 161 5 QLw QLx:=ck Tryz.func161 Tryz.ntmps161 (by decide +kernel)
abbrev Qq5:IL:=[je 1 1 0,jh 2]
abbrev Qq6:IL:=[jb 5 3 1,jc 6 5,ji 7 1 6,jd 8 0]
abbrev Qq7:IL:=[jn 9 8 7]
abbrev Qq8:IL:=[ja 10 8,jk 11 2 6 8,jf 12 2 11,⟨some 4,.allocN 4 [.int .i64 0,.int .i64 0],none⟩,ja 3 10,js 2 4 12]
abbrev Qq9:IL:=[jb 13 0 4,yb 14 0 4 13,yo 15 14 0,ja 16 15,jp 17 1 4 16,zl 18 0 4 17 16,yk 19 18 2147483647 16,jo 20 16 19,ja 21 20,jp 22 1 4 21,zl 23 0 4 22 21,jp 24 0 4 21,zl 25 0 4 24 21,⟨some 26,.val (.bin .num .lss (.t 23) (.t 25)),(some (21,false))⟩,jo 27 21 26,ja 28 27,jv 29 3 28,yk 30 29 0 28,jv 31 30 28,jl 32 0 4 31,zb 33 0 4 32 31,jl 34 3 1 31,zb 35 0 1 34 31,jg 36 3 31,DE 37 36 1 31,yc 38 2 35 37 31,jl 39 1 38 31,yp 40 39 31,C7 41 33 40 31,yw 42 31 41 28,jo 43 28 42]
abbrev Qra:IL:=[yl 2]
abbrev Qrb:IL:=[jm 44 8 1,ja 8 44]
abbrev Qrc:RC:=.gho (.drop 4) (jQ Qq7 (.seq (jX 9 0) (.seq (.block 1 (jQ Qq8 (jD Qq9 (.cond (.t 43) (jQ Qra (.ret)) (.skip))))) (.reg Qrb))))
abbrev Qrd:IL:=[jb 45 2 1,jc 46 45,⟨some 47,.val (.iaddr 3 none (.t 46) (.c (.int .i64 0))),none⟩,jb 48 1 47,jc 49 48,yg 50 49 0,ja 51 50,jp 52 2 1 51,jt 53 52 51,⟨some 54,.val (.mkfn (.func 214) [] [(.t 1)]),(some (51,false))⟩,⟨some 55,.callF (.f 143) [(.t 53),(.t 54)],(some (51,false))⟩,jo 56 51 55,ja 2 56]
abbrev QLz:RC:=jQ Qq5 (.seq (jQ Qq6 (.block 0 (.loop Qrc))) (jQ Qrd (.ret)))
abbrev QLA:List RR:=[.tmp 2]
theorem QLB:CT 164 57 QLz QLA:=ck Tryz.func164 Tryz.ntmps164 (by decide +kernel)
abbrev Qre:IL:=[je 1 1 0,jh 2]
abbrev Qrf:IL:=[jb 3 4 1,jc 4 3,ji 5 1 4,yq 6 5 0,ja 7 6,jp 8 2 1 7,jt 9 8 7,zq 10 143 9 172 7,jo 11 7 10,ja 2 11]
abbrev QLC:RC:=jQ Qre (jQ Qrf (.ret))
abbrev QLD:List RR:=[.tmp 2]
theorem QLE:CT 171 12 QLC QLD:=ck Tryz.func171 Tryz.ntmps171 (by decide +kernel)
abbrev Qrg:IL:=[je 1 1 0,jh 2]
abbrev Qrh:IL:=[jb 3 2 1,jc 4 3,ji 5 1 4,yq 6 5 1,ja 7 6,jp 8 2 1 7,jt 9 8 7,yf 10 1 9 7,ys 11 10 1 7,jv 12 11 7,jl 13 2 1 12,ju 14 13 12,Nq 15 8 14 0 12,jl 16 0 15 12,ju 17 16 12,⟨some 18,.val (.bin .str .neq (.t 17) (.c (.str [97,108,105,97,115]))),(some (12,true))⟩,jg 19 18 12,jp 20 2 1 19,jt 21 20 19,⟨some 22,.call (.f 173) [(.t 21),(.c (.int .i64 4))],(some (19,false))⟩,Nt 23 22 0 19,zf 24 19 23 12,yw 25 12 24 7,jo 26 7 25,ja 2 26]
abbrev QLF:RC:=jQ Qrg (jQ Qrh (.ret))
abbrev QLG:List RR:=[.tmp 2]
theorem QLH:CT 172 27 QLF QLG:=ck Tryz.func172 Tryz.ntmps172 (by decide +kernel)
abbrev Qri:IL:=[jd 4 0]
abbrev Qrj:IL:=[ja 9 0,ji 10 1 9,yq 11 10 8]
abbrev Qrk:IL:=[jd 4 3]
abbrev Qrl:IL:=[yi 5]
abbrev Qrm:IL:=[ja 12 0,ji 13 1 12,jd 14 0]
abbrev Qrn:IL:=[jn 15 14 13]
abbrev Qro:IL:=[ja 16 14,jk 17 8 12 14,jf 18 8 17,⟨some 7,.allocN 7 [.str [],.int .i64 0,.int .u64 0,.str [],.nils,.nils,.nils,.nils],none⟩,ja 6 16,js 8 7 18]
abbrev Qrp:IL:=[jf 19 8 7,ja 20 1,ja 21 5,ja 22 6,yq 23 22 0,zj 24 218 19 20 21 23,ja 8 24]
abbrev Qrq:IL:=[ja 25 8,yg 26 25 0]
abbrev Qrr:IL:=[ja 27 8,ja 4 27]
abbrev IG:IL:=[jb 28 0 7,jc 29 28,ja 5 29]
abbrev IH:IL:=[jm 30 14 1,ja 14 30]
abbrev Qrs:RC:=.gho (.drop 7) (jQ Qrn (.seq (jX 15 0) (.seq (.block 1 (jQ Qro (.seq (jQ Qrp (jQ Qrq (.cond (.t 26) (jQ Qrr (.ret)) (.skip)))) (.reg IG)))) (.reg IH))))
abbrev II:IL:=[jd 4 0]
abbrev QLI:RC:=jQ Qri (.seq (jQ Qrj (.cond (.t 11) (jQ Qrk (.ret)) (.skip))) (jQ Qrl (.seq (jQ Qrm (.block 0 (.loop Qrs))) (jQ II (.ret)))))
abbrev QLJ:List RR:=[.tmp 4]
theorem QLK:CT 173 31 QLI QLJ:=ck Tryz.func173 Tryz.ntmps173 (by decide +kernel)
abbrev Qrt:IL:=[ye 2]
abbrev Qru:IL:=[ja 7 0,Ns 8 224 7,ja 3 8]
abbrev Qrv:IL:=[ja 9 3,UZ 10 225 9 226]
abbrev Qrw:IL:=[ye 4]
abbrev Qrx:IL:=[ja 11 3,ji 12 1 11,jd 13 0]
abbrev Qry:IL:=[jn 14 13 12]
abbrev Qrz:IL:=[ja 15 13,jk 16 14 11 13,jf 17 14 16,RT 6 6,ja 5 15,js 14 6 17]
abbrev QrA:IL:=[ja 18 5,jm 19 18 1,ja 20 3,ji 21 1 20,zm 22 19 21,ja 23 22,jp 24 0 6 23,⟨some 25,.val (.loadv 0 6 (some 7) (.t 24)),(some (23,false))⟩,jv 26 3 23,jv 27 5 23,⟨some 28,.val (.bin .num .add (.t 27) (.c (.int .i64 1))),(some (23,false))⟩,yz 29 14 26 28 23,jp 30 0 29 23,jbq 31 7 30 23,RS 32 228 25 31 23,ze 33 32 23,jo 34 23 33]
abbrev QrB:IL:=[ja 35 4,jf 36 14 6,⟨some 37,.bsl 14 1 [.int .i64 0,.int .u64 0,.str [],.nils,.nils,.nils,.nils,.int .i64 0,.int .u64 0,.str [],.nils,.nils,.nils,.nils] [(0,14,(.t 36))],none⟩,yh 38 14 256 75 35 37,ja 4 38]
abbrev QrC:IL:=[jm 39 13 1,ja 13 39]
abbrev QrD:RC:=.gho (.drop 6) (jQ Qry (.seq (jX 14 0) (.seq (.block 1 (jQ Qrz (jD QrA (.cond (.t 34) (.reg QrB) (.skip))))) (.reg QrC))))
abbrev IJ:IL:=[ja 40 4,ja 2 40]
abbrev QLL:RC:=jQ Qrt (jQ Qru (jQ Qrv (jQ Qrw (.gho (.vec 4 4 14) (.seq (jQ Qrx (.block 0 (.loop QrD))) (jQ IJ (.ret)))))))
abbrev QLM:List RR:=[.tmp 2]
theorem QLN:CT 185 41 QLL QLM:=ck Tryz.func185 Tryz.ntmps185 (by decide +kernel)
abbrev QrE:IL:=[je 4 4 0,je 7 7 3,jd 8 0]
abbrev QrF:IL:=[jb 10 0 7,jc 11 10,ja 12 1,zs 13 11 12,ja 14 13,yv 15 7 7 14,zi 16 59 15 14,jo 17 14 16,ja 9 17]
abbrev QrG:IL:=[jd 8 12]
abbrev QrH:IL:=[jb 19 2 7,jc 20 19,ji 21 0 20,yq 22 21 4096,ja 18 22]
abbrev QrI:IL:=[jd 8 3]
abbrev QrJ:IL:=[ja 24 1,jq 25 24 7,ja 26 25,jl 27 2 7 26,ju 28 27 26,zh 29 131 28 26,yx 30 29 26,jj 31 26 30,ja 23 31]
abbrev QrK:IL:=[jd 8 7]
abbrev QrL:IL:=[ja 33 1,jf 34 7 7,jy 35 201 33 34,jz 36 35,ja 32 36]
abbrev QrM:IL:=[jd 8 12]
abbrev QrN:IL:=[ja 38 1,jq 39 38 9,ja 40 39,zk 41 2 4 40,jg 42 2 40,jl 43 1 7 40,ju 44 43 40,FI 45 112 41 42 44 40,yx 46 45 40,jj 47 40 46,ja 37 47]
abbrev IK:IL:=[jd 8 16]
abbrev IM:IL:=[jd 8 0]
abbrev QLO:RC:=jQ QrE (.seq (.block 0 (jQ QrF (.cond (.t 9) (jQ QrG (.ret)) (jQ QrH (.cond (.t 18) (jQ QrI (.ret)) (jQ QrJ (.cond (.t 23) (jQ QrK (.ret)) (jQ QrL (.cond (.t 32) (jQ QrM (.ret)) (jQ QrN (.cond (.t 37) (jQ IK (.ret)) (.skip)))))))))))) (jQ IM (.ret)))
abbrev QLP:List RR:=[.tmp 8]
theorem QLQ:CT 190 48 QLO QLP:=ck Tryz.func190 Tryz.ntmps190 (by decide +kernel)
abbrev QrO:IL:=[je 2 2 0,je 3 3 1,jh 4]
abbrev QrP:IL:=[jf 5 7 2,jf 6 7 3,jy 7 192 5 6,jq 8 7 0,ja 4 8]
abbrev QLR:RC:=jQ QrO (jQ QrP (.ret))
abbrev QLS:List RR:=[.tmp 4]
theorem QLT:CT 191 9 QLR QLS:=ck Tryz.func191 Tryz.ntmps191 (by decide +kernel)
abbrev QrQ:IL:=[je 2 2 0,je 3 3 1,jd 4 0]
abbrev QrR:IL:=[jb 6 0 2,jc 7 6,jb 8 0 3,jc 9 8,zs 10 7 9]
abbrev QrS:IL:=[jb 11 0 2,jc 12 11,jb 13 0 3,jc 14 13,jy 15 233 12 14,ja 4 15]
abbrev QrT:IL:=[jb 16 0 2,jc 17 16]
abbrev QrU:IL:=[jq 19 17 11,ja 18 19]
abbrev QrV:IL:=[jb 20 3 2,jc 21 20,jb 22 3 3,jc 23 22,jy 24 234 21 23,ja 4 24]
abbrev QrW:IL:=[jq 26 17 12,ja 25 26]
abbrev QrX:IL:=[jb 27 4 2,jc 28 27,jb 29 4 3,jc 30 29,jy 31 235 28 30,ja 4 31]
abbrev QrY:IL:=[jq 33 17 10,ja 32 33]
abbrev QrZ:IL:=[jb 34 5 2,jc 35 34,jb 36 5 3,jc 37 36,jy 38 236 35 37,ja 5 38]
abbrev IN:IL:=[ja 39 5,yg 40 39 0]
abbrev IP:IL:=[ja 41 5,ja 4 41]
abbrev IQ:IL:=[jb 42 6 2,jc 43 42,jb 44 6 3,jc 45 44,jy 46 237 43 45,ja 4 46]
abbrev IR:IL:=[jf 47 7 2,jf 48 7 3,jy 49 238 47 48,ja 4 49]
abbrev QLU:RC:=jQ QrQ (.seq (jQ QrR (.cond (.t 10) (jQ QrS (.ret)) (.skip))) (.seq (jQ QrT (.block 0 (jQ QrU (.cond (.t 18) (jQ QrV (.ret)) (jQ QrW (.cond (.t 25) (jQ QrX (.ret)) (jQ QrY (.cond (.t 32) (.seq (jQ QrZ (jQ IN (.cond (.t 40) (jQ IP (.ret)) (.skip)))) (jQ IQ (.ret))) (.skip))))))))) (jQ IR (.ret))))
abbrev QLV:List RR:=[.tmp 4]
theorem QLW:CT 192 50 QLU QLV:=ck Tryz.func192 Tryz.ntmps192 (by decide +kernel)
abbrev Qr0:IL:=[jh 2]
abbrev Qr1:IL:=[ja 3 0,yn 4 3 1,ja 5 4,jg 6 0 5,yy 7 6 9 5,jj 8 5 7,ja 2 8]
abbrev QLX:RC:=jQ Qr0 (jQ Qr1 (.ret))
abbrev QLY:List RR:=[.tmp 2]
theorem QLZ:CT 193 9 QLX QLY:=ck Tryz.func193 Tryz.ntmps193 (by decide +kernel)
abbrev Qr2:IL:=[je 1 1 0,jh 2]
abbrev Qr3:IL:=[jb 3 3 1,jc 4 3,ji 5 1 4,jq 6 5 0,ja 7 6,jl 8 4 1 7,ju 9 8 7,yt 10 1 9 7,ym 11 10 0 7,jj 12 7 11,ja 13 12,jl 14 5 1 13,ju 15 14 13,yt 16 1 15 13,ym 17 16 0 13,jj 18 13 17,ja 19 18,jl 20 6 1 19,ju 21 20 19,yt 22 1 21 19,ym 23 22 0 19,jj 24 19 23,ja 2 24]
abbrev QL0:RC:=jQ Qr2 (jQ Qr3 (.ret))
abbrev QL1:List RR:=[.tmp 2]
theorem QL2:CT 194 25 QL0 QL1:=ck Tryz.func194 Tryz.ntmps194 (by decide +kernel)
abbrev Qr4:IL:=[jh 2]
abbrev Qr5:IL:=[ja 3 0,Ma 4 3 97,ja 5 4,jg 6 0 5,Mb 7 6 122 5,jj 8 5 7,ja 2 8]
abbrev QL3:RC:=jQ Qr4 (jQ Qr5 (.ret))
abbrev QL4:List RR:=[.tmp 2]
theorem QL5:CT 199 9 QL3 QL4:=ck Tryz.func199 Tryz.ntmps199 (by decide +kernel)
abbrev Qr6:IL:=[jh 2]
abbrev Qr7:IL:=[ja 3 0,Ma 4 3 65,ja 5 4,jg 6 0 5,Mb 7 6 90 5,jj 8 5 7,ja 2 8]
abbrev QL6:RC:=jQ Qr6 (jQ Qr7 (.ret))
abbrev QL7:List RR:=[.tmp 2]
theorem QL8:CT 200 9 QL6 QL7:=ck Tryz.func200 Tryz.ntmps200 (by decide +kernel)
abbrev Qr8:IL:=[je 3 3 1,jh 4]
abbrev Qr9:IL:=[ja 6 0,jr 7 193 6,jz 8 7,ja 9 8,jp 10 0 3 9,jt 11 10 9,jv 12 0 9,C0 13 11 12 9,jo 14 9 13,ja 15 14,yv 16 7 3 15,zi 17 194 16 15,ze 18 17 15,jo 19 15 18]
abbrev Qsa:IL:=[jh 4]
abbrev Qsb:IL:=[ja 20 0,jr 21 239 20]
abbrev Qsc:IL:=[jb 22 1 3,jc 23 22,H7 24 23 0,ja 25 24,jl 26 2 3 25,ju 27 26 25,yt 28 0 27 25,yy 29 28 4096 25,jj 30 25 29,ja 31 30,jg 32 0 31,ym 33 32 8 31,jg 34 33 31,jp 35 2 3 34,jt 36 35 34,zi 37 131 36 34,zf 38 34 37 31,jj 39 31 38,ja 4 39]
abbrev Qsd:IL:=[jb 40 2 3,jc 41 40,⟨some 42,.val (.bin .str .neq (.t 41) (.c (.str []))),none⟩]
abbrev Qse:IL:=[jh 4]
abbrev Qsf:IL:=[ja 43 0]
abbrev Qsg:IL:=[jq 45 43 1,ja 44 45]
abbrev Qsh:IL:=[jb 46 1 3,jc 47 46,⟨some 48,.val (.bin .num .leq (.t 47) (.c (.int .u64 1))),none⟩,ja 4 48]
abbrev IS:IL:=[jq 50 43 2,ja 49 50]
abbrev IU:IL:=[jb 51 1 3,jc 52 51,Nl 53 52,ja 5 53]
abbrev IV:IL:=[ja 54 5,yn 55 54 (-2147483648),ja 56 55,jg 57 5 56,yy 58 57 2147483647 56,jj 59 56 58,ja 4 59]
abbrev IW:IL:=[jq 61 43 4,ja 60 61]
abbrev IX:IL:=[jb 62 1 3,jc 63 62,⟨some 64,.val (.bin .num .lss (.t 63) (.c (.int .u64 4294967296))),none⟩,ja 4 64]
abbrev IY:IL:=[jq 66 43 9,ja 65 66]
abbrev IZ:IL:=[jb 67 1 3,jc 68 67,⟨some 69,.val (.bin .num .lss (.t 68) (.c (.int .u64 2147483648))),none⟩,ja 4 69]
abbrev I0:IL:=[yl 4]
abbrev QL9:RC:=jQ Qr8 (.seq (jQ Qr9 (.cond (.t 19) (jQ Qsa (.ret)) (.skip))) (.seq (jQ Qsb (.cond (.t 21) (jQ Qsc (.ret)) (.skip))) (.seq (jQ Qsd (.cond (.t 42) (jQ Qse (.ret)) (.skip))) (.seq (jQ Qsf (.block 0 (jQ Qsg (.cond (.t 44) (jQ Qsh (.ret)) (jQ IS (.cond (.t 49) (jQ IU (jQ IV (.ret))) (jQ IW (.cond (.t 60) (jQ IX (.ret)) (jQ IY (.cond (.t 65) (jQ IZ (.ret)) (.skip))))))))))) (jQ I0 (.ret))))))
abbrev QMa:List RR:=[.tmp 4]
theorem Qsi:CT 201 70 QL9 QMa:=ck Tryz.func201 Tryz.ntmps201 (by decide +kernel)
abbrev Qsj:IL:=[jd 2 0]
abbrev Qsk:IL:=[jd 3 0]
abbrev Qsl:IL:=[ja 5 3,ja 6 0,ji 7 0 6,jn 8 5 7]
abbrev Qsm:IL:=[ja 9 0,ja 10 3,jy 11 240 9 10,ja 4 11]
abbrev Qsn:IL:=[ja 12 4,jq 13 12 0]
abbrev Qso:IL:=[ja 14 3,ja 2 14]
abbrev Qsp:IL:=[ja 15 3,ja 16 4,yj 17 15 16,ja 3 17]
abbrev Qsq:RC:=.seq (jQ Qsl (jX 8 0)) (.block 1 (jQ Qsm (.seq (jQ Qsn (.cond (.t 13) (jQ Qso (.ret)) (.skip))) (.reg Qsp))))
abbrev Qsr:IL:=[jd 2 (-1)]
abbrev QMb:RC:=jQ Qsj (.seq (jQ Qsk (.block 0 (.loop Qsq))) (jQ Qsr (.ret)))
abbrev QMc:List RR:=[.tmp 2]
theorem QMd:CT 202 18 QMb QMc:=ck Tryz.func202 Tryz.ntmps202 (by decide +kernel)
abbrev Qss:IL:=[jh 4]
abbrev Qst:IL:=[ja 5 0,ja 6 1,yr 7 245 5 6,yn 8 7 0,ja 4 8]
abbrev QMe:RC:=jQ Qss (jQ Qst (.ret))
abbrev QMf:List RR:=[.tmp 4]
theorem QMg:CT 211 9 QMe QMf:=ck Tryz.func211 Tryz.ntmps211 (by decide +kernel)
abbrev Qsu:IL:=[je 3 3 0,jh 4]
abbrev Qsv:IL:=[jc 5 1,jw 6 0 3 3 3,⟨some 7,.call (.t 5) [(.t 6)],none⟩,jc 8 1,jf 9 3 2,⟨some 10,.call (.t 8) [(.t 9)],none⟩,Nm 11 7 10,ja 4 11]
abbrev QMh:RC:=jQ Qsu (jD Qsv (.ret))
abbrev QMi:List RR:=[.tmp 4]
theorem QMj:CT 213 12 QMh QMi:=ck Tryz.func213 Tryz.ntmps213 (by decide +kernel)
abbrev Qsw:IL:=[je 2 2 0,jh 3]
abbrev Qsx:IL:=[jb 4 1 2,jc 5 4,yq 6 5 2147483647,ja 7 6,jp 8 3 1 7,jt 9 8 7,jp 10 1 2 7,jt 11 10 7,RS 12 215 9 11 7,jo 13 7 12,ja 3 13]
abbrev QMk:RC:=jQ Qsw (jQ Qsx (.ret))
abbrev QMl:List RR:=[.tmp 3]
theorem QMm:CT 214 14 QMk QMl:=ck Tryz.func214 Tryz.ntmps214 (by decide +kernel)
abbrev Qsy:IL:=[je 3 3 1,jh 4]
abbrev Qsz:IL:=[ja 5 0,FE 6 247 3,yr 7 246 5 6,ja 4 7]
abbrev QMn:RC:=jQ Qsy (jQ Qsz (.ret))
abbrev QMo:List RR:=[.tmp 4]
theorem QMp:CT 215 8 QMn QMo:=ck Tryz.func215 Tryz.ntmps215 (by decide +kernel)
abbrev QsA:IL:=[je 4 4 0,jd 8 0]
abbrev QsB:IL:=[zz 12 249,jb 13 0 4,yb 14 0 4 13,⟨some 15,.val (.mgetp true (.agg [.int .i64 0,.int .i64 0]) (.t 12) (.t 14)),none⟩,ja 11 15,jx 16 11 0,jx 17 11 1,⟨some 9,.allocN 9 [.int .i64 0,.int .i64 0],none⟩,zp 0 9 2 9 16,ja 10 17]
abbrev QsC:IL:=[ja 19 10,jz 20 19,ja 18 20]
abbrev QsD:IL:=[jd 8 8]
abbrev QsE:IL:=[ja 22 1,yo 23 22 1,ja 24 23,jv 25 1 24,yk 26 25 6 24,jo 27 24 26,ja 28 27,jp 29 1 9 28,jt 30 29 28,jv 31 1 28,⟨some 32,.val (.bin .num .shr (.t 30) (.t 31)),(some (28,false))⟩,⟨some 33,.val (.bin .num .and (.t 32) (.c (.int .i64 1))),(some (28,false))⟩,ys 34 33 0 28,jo 35 28 34,ja 21 35]
abbrev QsF:IL:=[jd 8 1]
abbrev QsG:IL:=[jf 37 8 4,jr 38 250 37,jz 39 38,ja 36 39]
abbrev QsH:IL:=[jd 8 12]
abbrev QsI:IL:=[ja 41 3,ja 42 41,jl 43 0 4 42,ju 44 43 42,jg 45 2 42,⟨some 46,.val (.bin .str .lss (.t 44) (.t 45)),(some (42,true))⟩,jj 47 42 46,ja 40 47]
abbrev QsJ:IL:=[jd 8 11]
abbrev I1:IL:=[ja 49 3,ja 50 49,jl 51 0 4 50,ju 52 51 50,jg 53 2 50,C1 54 52 53 50,jj 55 50 54,ja 48 55]
abbrev I2:IL:=[jd 8 9]
abbrev I3:IL:=[jd 8 0]
abbrev QMq:RC:=jQ QsA (jD QsB (.seq (.block 0 (jQ QsC (.cond (.t 18) (jQ QsD (.ret)) (jQ QsE (.cond (.t 21) (jQ QsF (.ret)) (jQ QsG (.cond (.t 36) (jQ QsH (.ret)) (jQ QsI (.cond (.t 40) (jQ QsJ (.ret)) (jQ I1 (.cond (.t 48) (jQ I2 (.ret)) (.skip)))))))))))) (jQ I3 (.ret))))
abbrev QMr:List RR:=[.tmp 8]
theorem QMs:CT 218 56 QMq QMr:=ck Tryz.func218 Tryz.ntmps218 (by decide +kernel)
def Mu:IL:=[ye 2]
def Mv:IL:=[ja 3 0,⟨some 4,.isnil false (.t 3),none⟩]
def Mw:IL:=[ye 2]
def Mx:IL:=[⟨some 5,.bsl0 5 14,none⟩,ja 6 0,yh 7 14 256 75 5 6,ja 2 7]
def QsK:RC:=jQ Mu (.seq (jQ Mv (.cond (.t 4) (jQ Mw (.gho (.vec 2 2 14) (.gho (.give 2 2 1 1000) (.ret)))) (.skip))) (jQ Mx (.gho (.give 2 5 1 1000) (.ret))))
def PZ:List RR:=[.tmp 2]
theorem QMt:CT 224 8 QsK PZ:=ck Tryz.func224 Tryz.ntmps224 (by decide +kernel)
abbrev QsL:IL:=[je 2 2 0,je 3 3 1,jd 4 0]
abbrev QsM:IL:=[jb 5 0 2,jf 6 7 5,jb 7 0 3,jf 8 7 7,jy 9 227 6 8,ja 4 9]
abbrev QMu:RC:=jQ QsL (jQ QsM (.ret))
abbrev QMv:List RR:=[.tmp 4]
theorem QMw:CT 226 10 QMu QMv:=ck Tryz.func226 Tryz.ntmps226 (by decide +kernel)
abbrev QsN:IL:=[je 2 2 0,je 3 3 1,jd 4 0]
abbrev QsO:IL:=[jb 11 0 2,jc 12 11,jb 13 0 3,jc 14 13,zs 15 12 14]
abbrev QsP:IL:=[jb 16 0 2,jc 17 16,jb 18 0 3,jc 19 18,jy 20 102 17 19,ja 4 20]
abbrev QsQ:IL:=[jf 21 7 3,jr 22 257 21,ja 5 22]
abbrev QsR:IL:=[jf 23 7 2,jr 24 257 23]
abbrev QsS:IL:=[⟨some 25,.val (.tas 218 true (.agg [.int .i64 0,.int .u64 0,.str [],.nils,.nils,.nils,.nils]) (.t 24)),none⟩,jx 26 25 1,jx 27 25 0]
abbrev QsT:IL:=[yu 6 6,js 7 6 27]
abbrev QsU:IL:=[jf 28 7 6,jf 29 7 3,jy 30 258 28 29,ja 4 30]
abbrev QsV:IL:=[⟨some 31,.val (.tas 219 true (.nils) (.t 24)),none⟩,jx 32 31 1,jx 33 31 0]
abbrev QsW:IL:=[ja 7 33]
abbrev I4:IL:=[ja 34 7,ja 35 5,⟨some 36,.val (.tas 219 false (.nils) (.t 35)),none⟩,⟨some 37,.callF (.f 259) [(.t 34),(.t 36),(.f 227)],none⟩,ja 4 37]
abbrev I5:IL:=[⟨some 38,.val (.tas 221 true (.nils) (.t 24)),none⟩,jx 39 38 1,jx 40 38 0]
abbrev I6:IL:=[ja 8 40]
abbrev I7:IL:=[ja 41 8,ja 42 5,⟨some 43,.val (.tas 221 false (.nils) (.t 42)),none⟩,⟨some 44,.callF (.f 260) [(.t 41),(.t 43),(.f 261)],none⟩,ja 4 44]
abbrev I8:IL:=[⟨some 45,.val (.tas 224 true (.agg [.nils,.nils]) (.t 24)),none⟩,jx 46 45 1,jx 47 45 0]
abbrev I9:IL:=[⟨some 9,.allocN 9 [.nils,.nils],none⟩,js 2 9 47]
abbrev La:IL:=[ja 48 5,⟨some 49,.val (.tas 224 false (.agg [.nils,.nils]) (.t 48)),none⟩,⟨some 10,.allocN 10 [.nils,.nils],none⟩,js 2 10 49]
abbrev Lb:IL:=[jd 4 0]
abbrev QMx:RC:=jQ QsN (.seq (jQ QsO (.cond (.t 15) (jQ QsP (.ret)) (.skip))) (jQ QsQ (.seq (jQ QsR (.block 0 (jQ QsS (.cond (.t 26) (jQ QsT (jQ QsU (.ret))) (jQ QsV (.cond (.t 32) (jQ QsW (jQ I4 (.ret))) (jQ I5 (.cond (.t 39) (jQ I6 (jQ I7 (.ret))) (jQ I8 (.cond (.t 46) (jQ I9 (jQ La (.seq (.no) (.ret)))) (.skip))))))))))) (jQ Lb (.ret)))))
abbrev QMy:List RR:=[.tmp 4]
theorem QMz:CT 227 62 QMx QMy:=ck Tryz.func227 Tryz.ntmps227 (by decide +kernel)
abbrev QsX:IL:=[je 2 2 0,je 3 3 1,jh 4]
abbrev QsY:IL:=[jf 5 7 2,jf 6 7 3,jy 7 227 5 6,jq 8 7 0,ja 4 8]
abbrev QMA:RC:=jQ QsX (jQ QsY (.ret))
abbrev QMB:List RR:=[.tmp 4]
theorem QMC:CT 228 9 QMA QMB:=ck Tryz.func228 Tryz.ntmps228 (by decide +kernel)
abbrev QsZ:IL:=[je 2 2 0,je 3 3 1,jd 4 0]
abbrev Qs0:IL:=[jb 6 0 2,jc 7 6,jb 8 0 3,jc 9 8,jn 10 7 9,ja 5 10]
abbrev Qs1:IL:=[jd 4 (-1)]
abbrev Qs2:IL:=[jb 12 0 2,jc 13 12,jb 14 0 3,jc 15 14,FD 16 13 15,ja 11 16]
abbrev Qs3:IL:=[jd 4 1]
abbrev Qs4:IL:=[jb 18 0 2,jc 19 18,jr 20 193 19,jz 21 20,ja 17 21]
abbrev Qs5:IL:=[jd 4 0]
abbrev Qs6:IL:=[jb 23 0 2,jc 24 23,jr 25 239 24,ja 26 25,jl 27 2 2 26,ju 28 27 26,jl 29 2 3 26,ju 30 29 26,⟨some 31,.val (.bin .str .lss (.t 28) (.t 30)),(some (26,true))⟩,jj 32 26 31,ja 22 32]
abbrev Qs7:IL:=[jd 4 (-1)]
abbrev Qs8:IL:=[jb 34 0 2,jc 35 34,jr 36 239 35,ja 37 36,jl 38 2 2 37,ju 39 38 37,jl 40 2 3 37,ju 41 40 37,⟨some 42,.val (.bin .str .gtr (.t 39) (.t 41)),(some (37,true))⟩,jj 43 37 42,ja 33 43]
abbrev Lc:IL:=[jd 4 1]
abbrev Ld:IL:=[jb 45 0 2,jc 46 45,jr 47 239 46,ja 44 47]
abbrev Le:IL:=[jd 4 0]
abbrev Lf:IL:=[jw 49 0 2 7 2,jr 50 270 49,jw 51 0 3 7 3,jr 52 270 51,jn 53 50 52,ja 48 53]
abbrev Lg:IL:=[jd 4 (-1)]
abbrev Lh:IL:=[jw 55 0 2 7 2,jr 56 270 55,jw 57 0 3 7 3,jr 58 270 57,FD 59 56 58,ja 54 59]
abbrev Li:IL:=[jd 4 1]
abbrev Lj:IL:=[jd 4 0]
abbrev QMD:RC:=jQ QsZ (.seq (.block 0 (jQ Qs0 (.cond (.t 5) (jQ Qs1 (.ret)) (jQ Qs2 (.cond (.t 11) (jQ Qs3 (.ret)) (jQ Qs4 (.cond (.t 17) (jQ Qs5 (.ret)) (jQ Qs6 (.cond (.t 22) (jQ Qs7 (.ret)) (jQ Qs8 (.cond (.t 33) (jQ Lc (.ret)) (jQ Ld (.cond (.t 44) (jQ Le (.ret)) (jD Lf (.cond (.t 48) (jQ Lg (.ret)) (jD Lh (.cond (.t 54) (jQ Li (.ret)) (.skip)))))))))))))))))) (jQ Lj (.ret)))
abbrev QME:List RR:=[.tmp 4]
theorem QMF:CT 238 60 QMD QME:=ck Tryz.func238 Tryz.ntmps238 (by decide +kernel)
abbrev Qs9:IL:=[jh 2]
abbrev Qta:IL:=[ja 3 0,jq 4 3 7,ja 5 4,jv 6 0 5,ys 7 6 8 5,jo 8 5 7,ja 2 8]
abbrev QMG:RC:=jQ Qs9 (jQ Qta (.ret))
abbrev QMH:List RR:=[.tmp 2]
theorem QMI:CT 239 9 QMG QMH:=ck Tryz.func239 Tryz.ntmps239 (by decide +kernel)
def My:IL:=[jd 4 0]
def Mz:IL:=[ja 6 0,ja 7 1,Nx 8 6 7,ja 5 8]
def MA:IL:=[ja 10 5,⟨some 11,.val (.bin .num .lss (.t 10) (.c (.int .u8 128))),none⟩,ja 9 11]
def MB:IL:=[jd 4 1]
def FR:IL:=[ja 13 5,Ma 14 13 194,ja 15 14,jg 16 5 15,Mb 17 16 223 15,jj 18 15 17,ja 19 18,jg 20 0 19,jg 21 1 19,zy 22 21 1 19,FM 23 271 20 22 1 19,jj 24 19 23,ja 12 24]
def MD:IL:=[jd 4 2]
def FS:IL:=[ja 26 5,C8 27 26 224,ja 28 27,jg 29 0 28,jg 30 1 28,zy 31 30 1 28,⟨some 32,.call (.f 272) [(.t 29),(.t 31),(.c (.int .u8 160)),(.c (.int .u8 191))],(some (28,true))⟩,jj 33 28 32,ja 34 33,jg 35 0 34,jg 36 1 34,zy 37 36 2 34,FM 38 271 35 37 1 34,jj 39 34 38,ja 25 39]
def ME:IL:=[jd 4 3]
def FT:IL:=[ja 41 5,C8 42 41 237,ja 43 42,jg 44 0 43,jg 45 1 43,zy 46 45 1 43,⟨some 47,.call (.f 272) [(.t 44),(.t 46),(.c (.int .u8 128)),(.c (.int .u8 159))],(some (43,true))⟩,jj 48 43 47,ja 49 48,jg 50 0 49,jg 51 1 49,zy 52 51 2 49,FM 53 271 50 52 1 49,jj 54 49 53,ja 40 54]
def MF:IL:=[jd 4 3]
def G3:IL:=[ja 56 5,Ma 57 56 225,ja 58 57,jg 59 5 58,Mb 60 59 239 58,jj 61 58 60,ja 62 61,jg 63 5 62,⟨some 64,.val (.bin .num .neq (.t 63) (.c (.int .u8 237))),(some (62,true))⟩,jj 65 62 64,ja 66 65,jg 67 0 66,jg 68 1 66,zy 69 68 1 66,FM 70 271 67 69 2 66,jj 71 66 70,ja 55 71]
def Nz:IL:=[jd 4 3]
def G4:IL:=[ja 73 5,C8 74 73 240,ja 75 74,jg 76 0 75,jg 77 1 75,zy 78 77 1 75,⟨some 79,.call (.f 272) [(.t 76),(.t 78),(.c (.int .u8 144)),(.c (.int .u8 191))],(some (75,true))⟩,jj 80 75 79,ja 81 80,jg 82 0 81,jg 83 1 81,zy 84 83 2 81,FM 85 271 82 84 2 81,jj 86 81 85,ja 72 86]
def NA:IL:=[jd 4 4]
def G5:IL:=[ja 88 5,Ma 89 88 241,ja 90 89,jg 91 5 90,Mb 92 91 243 90,jj 93 90 92,ja 94 93,jg 95 0 94,jg 96 1 94,zy 97 96 1 94,FM 98 271 95 97 3 94,jj 99 94 98,ja 87 99]
def NB:IL:=[jd 4 4]
def G6:IL:=[ja 101 5,C8 102 101 244,ja 103 102,jg 104 0 103,jg 105 1 103,zy 106 105 1 103,⟨some 107,.call (.f 272) [(.t 104),(.t 106),(.c (.int .u8 128)),(.c (.int .u8 143))],(some (103,true))⟩,jj 108 103 107,ja 109 108,jg 110 0 109,jg 111 1 109,zy 112 111 2 109,FM 113 271 110 112 2 109,jj 114 109 113,ja 100 114]
def NC:IL:=[jd 4 4]
def ND:IL:=[jd 4 0]
def Qtb:RC:=jQ My (jQ Mz (.seq (.block 0 (jQ MA (.cond (.t 9) (jQ MB (.ret)) (jQ FR (.cond (.t 12) (jQ MD (.ret)) (jQ FS (.cond (.t 25) (jQ ME (.ret)) (jQ FT (.cond (.t 40) (jQ MF (.ret)) (jQ G3 (.cond (.t 55) (jQ Nz (.ret)) (jQ G4 (.cond (.t 72) (jQ NA (.ret)) (jQ G5 (.cond (.t 87) (jQ NB (.ret)) (jQ G6 (.cond (.t 100) (jQ NC (.ret)) (.skip)))))))))))))))))) (jQ ND (.ret))))
def Qtc:List RR:=[.tmp 4]
theorem QMJ:CT 240 115 Qtb Qtc:=ck Tryz.func240 Tryz.ntmps240 (by decide +kernel)
abbrev Qtd:IL:=[jd 4 0]
abbrev Qte:IL:=[ja 6 0,ji 7 1 6,jd 8 0]
abbrev Qtf:IL:=[jn 9 8 7]
abbrev Qtg:IL:=[ja 10 8,ja 5 10]
abbrev Qth:IL:=[ja 11 1,ja 12 0,ja 13 5,jk 14 3 12 13,jf 15 3 14,FG 16 11 15]
abbrev Qti:IL:=[ja 17 5,ja 4 17]
abbrev Qtj:IL:=[jm 18 8 1,ja 8 18]
abbrev Qtk:RC:=jQ Qtf (.seq (jX 9 0) (.seq (.block 1 (jQ Qtg (jQ Qth (.cond (.t 16) (jQ Qti (.ret)) (.skip))))) (.reg Qtj)))
abbrev Qtl:IL:=[jd 4 (-1)]
abbrev QMK:RC:=jQ Qtd (.seq (jQ Qte (.block 0 (.loop Qtk))) (jQ Qtl (.ret)))
abbrev QML:List RR:=[.tmp 4]
theorem QMM:CT 245 19 QMK QML:=ck Tryz.func245 Tryz.ntmps245 (by decide +kernel)
abbrev Qtm:IL:=[jh 4]
abbrev Qtn:IL:=[ja 5 0,ja 6 1,yr 7 276 5 6,yn 8 7 0,ja 4 8]
abbrev QMN:RC:=jQ Qtm (jQ Qtn (.ret))
abbrev QMO:List RR:=[.tmp 4]
theorem QMP:CT 246 9 QMN QMO:=ck Tryz.func246 Tryz.ntmps246 (by decide +kernel)
abbrev Qto:IL:=[je 2 2 0,jh 3]
abbrev Qtp:IL:=[jb 4 0 2,jc 5 4,jc 6 1,FL 7 5 6,ja 8 7,ju 9 1 8,jl 10 1 2 8,ju 11 10 8,C7 12 9 11 8,jj 13 8 12,ja 3 13]
abbrev QMQ:RC:=jQ Qto (jQ Qtp (.ret))
abbrev QMR:List RR:=[.tmp 3]
theorem QMS:CT 247 14 QMQ QMR:=ck Tryz.func247 Tryz.ntmps247 (by decide +kernel)
abbrev Qtq:IL:=[jh 6]
abbrev Qtr:IL:=[ja 7 2,⟨some 8,.val (.bin .num .eql (.t 7) (.c (.int .i32 65533))),none⟩,ja 9 8,jg 10 0 9,jg 11 1 9,⟨some 12,.val (.slc none (.t 10) (some (.t 11)) none none),(some (9,true))⟩,⟨some 13,.call (.f 277) [(.t 12),(.c (.str [239,191,189]))],(some (9,true))⟩,yx 14 13 9,jj 15 9 14,ja 6 15]
abbrev QMT:RC:=jQ Qtq (jQ Qtr (.ret))
abbrev QMU:List RR:=[.tmp 6]
theorem QMV:CT 248 16 QMT QMU:=ck Tryz.func248 Tryz.ntmps248 (by decide +kernel)
abbrev Qts:IL:=[⟨some 0,.val (.mov (.c (.nilm))),none⟩]
abbrev Qtt:IL:=[⟨some 1,.mkm 1,none⟩,⟨some 2,.val (.build [.int .i64 0,.int .i64 0] [(0,1,(.c (.int .i64 1))),(1,1,(.c (.int .i64 126)))]),none⟩,⟨none,.mput (.t 1) (.c (.str [100,101,112,114,101,99,97,116,101,100])) (.t 2),none⟩,⟨some 3,.val (.build [.int .i64 0,.int .i64 0] [(0,1,(.c (.int .i64 7))),(1,1,(.c (.int .i64 126)))]),none⟩,⟨none,.mput (.t 1) (.c (.str [100,111,99])) (.t 3),none⟩,⟨some 4,.val (.build [.int .i64 0,.int .i64 0] [(0,1,(.c (.int .i64 7))),(1,1,(.c (.int .i64 84)))]),none⟩,⟨none,.mput (.t 1) (.c (.str [97,108,105,97,115])) (.t 4),none⟩,⟨some 5,.val (.build [.int .i64 0,.int .i64 0] [(0,1,(.c (.int .i64 4))),(1,1,(.c (.int .i64 84)))]),none⟩,⟨none,.mput (.t 1) (.c (.str [115,105,110,99,101])) (.t 5),none⟩,⟨some 6,.val (.build [.int .i64 0,.int .i64 0] [(0,1,(.c (.int .i64 4))),(1,1,(.c (.int .i64 84)))]),none⟩,⟨none,.mput (.t 1) (.c (.str [117,110,116,105,108])) (.t 6),none⟩,⟨some 7,.val (.build [.int .i64 0,.int .i64 0] [(0,1,(.c (.int .i64 3))),(1,1,(.c (.int .i64 4)))]),none⟩,⟨none,.mput (.t 1) (.c (.str [109,105,110])) (.t 7),none⟩,⟨some 8,.val (.build [.int .i64 0,.int .i64 0] [(0,1,(.c (.int .i64 3))),(1,1,(.c (.int .i64 4)))]),none⟩,⟨none,.mput (.t 1) (.c (.str [109,97,120])) (.t 8),none⟩,⟨some 9,.val (.build [.int .i64 0,.int .i64 0] [(0,1,(.c (.int .i64 4))),(1,1,(.c (.int .i64 4)))]),none⟩,⟨none,.mput (.t 1) (.c (.str [108,101,110,103,116,104])) (.t 9),none⟩,⟨some 10,.val (.build [.int .i64 0,.int .i64 0] [(0,1,(.c (.int .i64 1))),(1,1,(.c (.int .i64 4)))]),none⟩,⟨none,.mput (.t 1) (.c (.str [115,101,99,114,101,116])) (.t 10),none⟩,⟨some 11,.val (.build [.int .i64 0,.int .i64 0] [(0,1,(.c (.int .i64 1))),(1,1,(.c (.int .i64 64)))]),none⟩,⟨none,.mput (.t 1) (.c (.str [105,100,101,109,112,111,116,101,110,116])) (.t 11),none⟩,⟨some 12,.val (.build [.int .i64 0,.int .i64 0] [(0,1,(.c (.int .i64 4))),(1,1,(.c (.int .i64 64)))]),none⟩,⟨none,.mput (.t 1) (.c (.str [116,105,109,101,111,117,116])) (.t 12),none⟩,⟨some 13,.val (.build [.int .i64 0,.int .i64 0] [(0,1,(.c (.int .i64 7))),(1,1,(.c (.int .i64 64)))]),none⟩,⟨none,.mput (.t 1) (.c (.str [114,111,117,116,101])) (.t 13),none⟩,⟨some 14,.val (.build [.int .i64 0,.int .i64 0] [(0,1,(.c (.int .i64 7))),(1,1,(.c (.int .i64 34)))]),none⟩,⟨none,.mput (.t 1) (.c (.str [111,119,110,101,114])) (.t 14),none⟩,ja 15 1,ja 0 15]
abbrev Qtu:RC:=jQ Qts (jQ Qtt (.ret))
abbrev Qtv:List RR:=[.tmp 0]
theorem QMW:CT 249 16 Qtu Qtv:=ck Tryz.func249 Tryz.ntmps249 (by decide +kernel)
abbrev Qtw:IL:=[je 1 1 0,jh 2]
abbrev Qtx:IL:=[jb 4 0 1,jc 5 4,jr 6 278 5,ja 3 6]
abbrev Qty:IL:=[ja 7 3,yg 8 7 0,ja 9 8,jg 10 3 9,jl 11 1 1 9,zk 12 7 11 9,H9 13 279 10 12 9,jj 14 9 13,ja 2 14]
abbrev QMX:RC:=jQ Qtw (jQ Qtx (jQ Qty (.ret)))
abbrev QMY:List RR:=[.tmp 2]
theorem QMZ:CT 250 15 QMX QMY:=ck Tryz.func250 Tryz.ntmps250 (by decide +kernel)
abbrev Qtz:IL:=[je 1 1 0,⟨some 2,.val (.mov (.c (.nili))),none⟩]
abbrev QtA:IL:=[jb 4 0 1,jc 5 4,jr 6 217 5,ja 3 6]
abbrev QtB:IL:=[jf 7 7 1,⟨some 8,.val (.mki 218 (.t 7)),none⟩,ja 2 8]
abbrev QtC:IL:=[jb 10 0 1,jc 11 10,jq 12 11 11,ja 9 12]
abbrev QtD:IL:=[jb 13 3 1,jc 14 13,⟨some 15,.val (.mki 219 (.t 14)),none⟩,ja 2 15]
abbrev QtE:IL:=[jb 17 0 1,jc 18 17,jq 19 18 12,ja 16 19]
abbrev QtF:IL:=[jb 20 4 1,jc 21 20,⟨some 22,.val (.mki 221 (.t 21)),none⟩,ja 2 22]
abbrev QtG:IL:=[jb 24 0 1,jc 25 24,jq 26 25 10,ja 23 26]
abbrev QtH:IL:=[jb 27 5 1,jc 28 27,jb 29 6 1,jc 30 29,⟨some 31,.val (.build [.nils,.nils] [(0,1,(.t 28)),(1,1,(.t 30))]),none⟩,⟨some 32,.val (.mki 224 (.t 31)),none⟩,ja 2 32]
abbrev QtI:IL:=[⟨some 2,.val (.mov (.c (.nili))),none⟩]
abbrev QM0:RC:=jQ Qtz (.seq (.block 0 (jQ QtA (.cond (.t 3) (jQ QtB (.ret)) (jQ QtC (.cond (.t 9) (jQ QtD (.ret)) (jQ QtE (.cond (.t 16) (jQ QtF (.ret)) (jQ QtG (.cond (.t 23) (jQ QtH (.ret)) (.skip)))))))))) (jQ QtI (.ret)))
abbrev QM1:List RR:=[.tmp 2]
theorem QM2:CT 257 33 QM0 QM1:=ck Tryz.func257 Tryz.ntmps257 (by decide +kernel)
abbrev QtJ:IL:=[je 2 2 0,je 3 3 1,jd 4 0]
abbrev QtK:IL:=[jb 6 0 2,jc 7 6,jb 8 0 3,jc 9 8,zs 10 7 9,ja 5 10]
abbrev QtL:IL:=[jb 11 0 2,jc 12 11,jb 13 0 3,jc 14 13,jy 15 102 12 14,ja 4 15]
abbrev QtM:IL:=[jb 17 0 2,jc 18 17,jr 19 217 18,jz 20 19,ja 16 20]
abbrev QtN:IL:=[jd 4 0]
abbrev QtO:IL:=[jb 22 0 2,jc 23 22,jr 24 267 23,ja 21 24]
abbrev QtP:IL:=[jb 25 2 2,jc 26 25,jb 27 2 3,jc 28 27,jy 29 284 26 28,ja 4 29]
abbrev QtQ:IL:=[jb 31 0 2,jc 32 31,jq 33 32 2,ja 34 33,jp 35 0 2 34,jt 36 35 34,ys 37 36 3 34,jo 38 34 37,ja 30 38]
abbrev QtR:IL:=[jb 39 1 2,jc 40 39,Nl 41 40,jb 42 1 3,jc 43 42,Nl 44 43,jy 45 102 41 44,ja 4 45]
abbrev QtS:IL:=[jb 47 0 2,jc 48 47,jq 49 48 6,ja 46 49]
abbrev Lk:IL:=[jb 50 1 2,yb 51 0 2 50,jr 52 286 51,jb 53 1 3,yb 54 0 3 53,jr 55 286 54,jy 56 285 52 55,ja 4 56]
abbrev Ll:IL:=[jb 57 1 2,jc 58 57,jb 59 1 3,jc 60 59,jy 61 285 58 60,ja 4 61]
abbrev QM3:RC:=jQ QtJ (.seq (.block 0 (jQ QtK (.cond (.t 5) (jQ QtL (.ret)) (jQ QtM (.cond (.t 16) (jQ QtN (.ret)) (jQ QtO (.cond (.t 21) (jQ QtP (.ret)) (jQ QtQ (.cond (.t 30) (jQ QtR (.ret)) (jQ QtS (.cond (.t 46) (jD Lk (.ret)) (.skip)))))))))))) (jQ Ll (.ret)))
abbrev QM4:List RR:=[.tmp 4]
theorem QM5:CT 258 62 QM3 QM4:=ck Tryz.func258 Tryz.ntmps258 (by decide +kernel)
abbrev QtT:IL:=[je 1 1 0,Nr 2 0]
abbrev QtU:IL:=[jb 4 0 1,jc 5 4,jr 6 288 5,ja 3 6]
abbrev QtV:IL:=[jb 7 1 1,jc 8 7,⟨some 9,.val (.bin .num .add (.t 8) (.c (.int .u64 9223372036854775808))),none⟩,ja 2 9]
abbrev QtW:IL:=[jb 11 0 1,jc 12 11,yg 13 12 6,ja 10 13]
abbrev QtX:IL:=[jb 14 1 1,jc 15 14,ja 2 15]
abbrev QtY:IL:=[jb 17 1 1,jc 18 17,jr 19 123 18,jq 20 19 0,ja 16 20]
abbrev QtZ:IL:=[Nr 2 18446744073709551615]
abbrev Qt0:IL:=[jb 22 1 1,jc 23 22,⟨some 24,.val (.bin .num .geq (.t 23) (.c (.int .u64 9223372036854775808))),none⟩,ja 21 24]
abbrev Qt1:IL:=[jb 25 1 1,jc 26 25,⟨some 27,.val (.bin .num .sub (.c (.int .u64 18446744073709551615)) (.t 26)),none⟩,ja 2 27]
abbrev Qt2:IL:=[jb 28 1 1,jc 29 28,⟨some 30,.val (.bin .num .add (.t 29) (.c (.int .u64 9223372036854775808))),none⟩,ja 2 30]
abbrev QM6:RC:=jQ QtT (.seq (.block 0 (jQ QtU (.cond (.t 3) (jQ QtV (.ret)) (jQ QtW (.cond (.t 10) (jQ QtX (.ret)) (jQ QtY (.cond (.t 16) (jQ QtZ (.ret)) (jQ Qt0 (.cond (.t 21) (jQ Qt1 (.ret)) (.skip)))))))))) (jQ Qt2 (.ret)))
abbrev QM7:List RR:=[.tmp 2]
theorem QM8:CT 270 31 QM6 QM7:=ck Tryz.func270 Tryz.ntmps270 (by decide +kernel)
abbrev Qt3:IL:=[jh 6]
abbrev Qt4:IL:=[jd 7 0]
abbrev Qt5:IL:=[ja 8 7,ja 9 2,jn 10 8 9]
abbrev Qt6:IL:=[ja 13 0,ja 14 1,ja 15 7,yj 16 14 15,⟨some 17,.call (.f 272) [(.t 13),(.t 16),(.c (.int .u8 128)),(.c (.int .u8 191))],none⟩,jz 18 17]
abbrev Qt7:IL:=[jh 6]
abbrev Qt8:IL:=[ja 11 7,jm 12 11 1,ja 7 12]
abbrev Qt9:RC:=.seq (jQ Qt5 (jX 10 0)) (.seq (.block 1 (jQ Qt6 (.cond (.t 18) (jQ Qt7 (.ret)) (.skip)))) (.reg Qt8))
abbrev Qua:IL:=[yl 6]
abbrev QM9:RC:=jQ Qt3 (.seq (jQ Qt4 (.block 0 (.loop Qt9))) (jQ Qua (.ret)))
abbrev QNa:List RR:=[.tmp 6]
theorem QNb:CT 271 19 QM9 QNa:=ck Tryz.func271 Tryz.ntmps271 (by decide +kernel)
abbrev Qub:IL:=[jh 8]
abbrev Quc:IL:=[ja 9 1,ja 10 0,ji 11 0 10,jn 12 9 11,ja 13 12,jg 14 0 13,jg 15 1 13,C9 16 14 15 13,jg 17 2 13,⟨some 18,.val (.bin .num .geq (.t 16) (.t 17)),(some (13,true))⟩,jj 19 13 18,ja 20 19,jg 21 0 20,jg 22 1 20,C9 23 21 22 20,jg 24 3 20,C7 25 23 24 20,jj 26 20 25,ja 8 26]
abbrev QNc:RC:=jQ Qub (jQ Quc (.ret))
abbrev QNd:List RR:=[.tmp 8]
theorem QNe:CT 272 27 QNc QNd:=ck Tryz.func272 Tryz.ntmps272 (by decide +kernel)
abbrev Qud:IL:=[jd 4 0]
abbrev Que:IL:=[ja 6 0,ji 7 1 6,jd 8 0]
abbrev Quf:IL:=[jn 9 8 7]
abbrev Qug:IL:=[ja 10 8,ja 5 10]
abbrev Quh:IL:=[ja 11 1,ja 12 0,ja 13 5,jk 14 2 12 13,jf 15 2 14,FG 16 11 15]
abbrev Qui:IL:=[ja 17 5,ja 4 17]
abbrev Quj:IL:=[jm 18 8 1,ja 8 18]
abbrev Quk:RC:=jQ Quf (.seq (jX 9 0) (.seq (.block 1 (jQ Qug (jQ Quh (.cond (.t 16) (jQ Qui (.ret)) (.skip))))) (.reg Quj)))
abbrev Qul:IL:=[jd 4 (-1)]
abbrev QNf:RC:=jQ Qud (.seq (jQ Que (.block 0 (.loop Quk))) (jQ Qul (.ret)))
abbrev QNg:List RR:=[.tmp 4]
theorem QNh:CT 276 19 QNf QNg:=ck Tryz.func276 Tryz.ntmps276 (by decide +kernel)
abbrev Qum:IL:=[jh 4]
abbrev Qun:IL:=[ja 5 0,ja 6 1,jy 7 293 5 6,ja 4 7]
abbrev QNi:RC:=jQ Qum (jQ Qun (.ret))
abbrev QNj:List RR:=[.tmp 4]
theorem QNk:CT 277 8 QNi QNj:=ck Tryz.func277 Tryz.ntmps277 (by decide +kernel)
abbrev Quo:IL:=[jd 2 0]
abbrev Qup:IL:=[zz 3 249,ja 4 0,⟨some 5,.val (.mget false (.agg [.int .i64 0,.int .i64 0]) (.t 3) (.t 4)),none⟩,⟨some 6,.val (.fld 0 none (.t 5)),none⟩,ja 2 6]
abbrev QNl:RC:=jQ Quo (jQ Qup (.ret))
abbrev QNm:List RR:=[.tmp 2]
theorem QNn:CT 278 7 QNl QNm:=ck Tryz.func278 Tryz.ntmps278 (by decide +kernel)
abbrev Quq:IL:=[jd 4 0]
abbrev Qur:IL:=[ja 7 0,jr 8 297 7,ja 5 8]
abbrev Qus:IL:=[ja 9 1,jr 10 297 9,ja 6 10]
abbrev Qut:IL:=[ja 11 5]
abbrev Quu:IL:=[ja 12 6]
abbrev Quv:IL:=[jd 4 0]
abbrev Quw:IL:=[jd 4 (-1)]
abbrev Qux:IL:=[ja 13 6]
abbrev Quy:IL:=[jd 4 1]
abbrev Quz:IL:=[ja 14 0,ja 15 1,⟨some 16,.val (.bin .str .lss (.t 14) (.t 15)),none⟩]
abbrev Lm:IL:=[jd 4 (-1)]
abbrev Ln:IL:=[ja 17 0,ja 18 1,⟨some 19,.val (.bin .str .gtr (.t 17) (.t 18)),none⟩]
abbrev Lo:IL:=[jd 4 1]
abbrev Lp:IL:=[jd 4 0]
abbrev QNo:RC:=jQ Quq (jQ Qur (jQ Qus (.seq (jQ Qut (.cond (.t 11) (.seq (jQ Quu (.cond (.t 12) (jQ Quv (.ret)) (.skip))) (jQ Quw (.ret))) (.skip))) (.seq (jQ Qux (.cond (.t 13) (jQ Quy (.ret)) (.skip))) (.seq (jQ Quz (.cond (.t 16) (jQ Lm (.ret)) (.skip))) (.seq (jQ Ln (.cond (.t 19) (jQ Lo (.ret)) (.skip))) (jQ Lp (.ret))))))))
abbrev QNp:List RR:=[.tmp 4]
theorem QNq:CT 284 20 QNo QNp:=ck Tryz.func284 Tryz.ntmps284 (by decide +kernel)
abbrev QuA:IL:=[jd 4 0]
abbrev QuB:IL:=[ja 7 0,jr 8 298 7,ja 5 8]
abbrev QuC:IL:=[ja 9 1,jr 10 298 9,ja 6 10]
abbrev QuD:IL:=[ja 11 5]
abbrev QuE:IL:=[ja 12 6]
abbrev QuF:IL:=[jd 4 0]
abbrev QuG:IL:=[jd 4 (-1)]
abbrev QuH:IL:=[ja 13 6]
abbrev QuI:IL:=[jd 4 1]
abbrev QuJ:IL:=[ja 14 0,ja 15 1,jn 16 14 15]
abbrev Lq:IL:=[jd 4 (-1)]
abbrev Lr:IL:=[ja 17 0,ja 18 1,FD 19 17 18]
abbrev Ls:IL:=[jd 4 1]
abbrev Lt:IL:=[jd 4 0]
abbrev QNr:RC:=jQ QuA (jQ QuB (jQ QuC (.seq (jQ QuD (.cond (.t 11) (.seq (jQ QuE (.cond (.t 12) (jQ QuF (.ret)) (.skip))) (jQ QuG (.ret))) (.skip))) (.seq (jQ QuH (.cond (.t 13) (jQ QuI (.ret)) (.skip))) (.seq (jQ QuJ (.cond (.t 16) (jQ Lq (.ret)) (.skip))) (.seq (jQ Lr (.cond (.t 19) (jQ Ls (.ret)) (.skip))) (jQ Lt (.ret))))))))
abbrev QNs:List RR:=[.tmp 4]
theorem QNt:CT 285 20 QNr QNs:=ck Tryz.func285 Tryz.ntmps285 (by decide +kernel)
abbrev QuK:IL:=[jh 2]
abbrev QuL:IL:=[ja 3 0,jq 4 3 2,ja 5 4,jv 6 0 5,ys 7 6 3 5,jo 8 5 7,ja 2 8]
abbrev QNu:RC:=jQ QuK (jQ QuL (.ret))
abbrev QNv:List RR:=[.tmp 2]
theorem QNw:CT 288 9 QNu QNv:=ck Tryz.func288 Tryz.ntmps288 (by decide +kernel)
abbrev QuM:IL:=[jh 4]
abbrev QuN:IL:=[ja 5 0,ji 6 0 5,ja 7 1,ji 8 0 7,⟨some 9,.val (.bin .num .geq (.t 6) (.t 8)),none⟩,ja 10 9,jg 11 0 10,jg 12 1 10,yt 13 0 12 10,⟨some 14,.val (.slc none (.t 11) none (some (.t 13)) none),(some (10,true))⟩,jg 15 1 10,C1 16 14 15 10,jj 17 10 16,ja 4 17]
abbrev QNx:RC:=jQ QuM (jQ QuN (.ret))
abbrev QNy:List RR:=[.tmp 4]
theorem QNz:CT 293 18 QNx QNy:=ck Tryz.func293 Tryz.ntmps293 (by decide +kernel)
abbrev QuO:IL:=[jh 2]
abbrev QuP:IL:=[ja 3 0,ja 4 0,⟨some 5,.val (.bin .str .neq (.t 3) (.t 4)),none⟩,ja 2 5]
abbrev QNA:RC:=jQ QuO (jQ QuP (.ret))
abbrev QNB:List RR:=[.tmp 2]
theorem QNC:CT 297 6 QNA QNB:=ck Tryz.func297 Tryz.ntmps297 (by decide +kernel)
abbrev QuQ:IL:=[jh 2]
abbrev QuR:IL:=[ja 3 0,ja 4 0,zs 5 3 4,ja 2 5]
abbrev QND:RC:=jQ QuQ (jQ QuR (.ret))
abbrev QNE:List RR:=[.tmp 2]
theorem QNF:CT 298 6 QND QNE:=ck Tryz.func298 Tryz.ntmps298 (by decide +kernel)
end Go.Proofs.YtipjfckmopekaaaGreatDoor.Rc

namespace Go.Proofs.YtipjfckmopekaaaGreatDoor.Bt
open Go

theorem Ja (n:Int):IntKind.u64.wrap n=n % 18446744073709551616:=by simp[IntKind.wrap,IntKind.bits,IntKind.signed]
theorem MG (n:Int):IntKind.u8.wrap n=n % 256:=by simp[IntKind.wrap,IntKind.bits,IntKind.signed]
theorem QG (n:Int):IntKind.i64.wrap n=(n+9223372036854775808) % 18446744073709551616-9223372036854775808:=IntKind.wrap_i64 n

theorem WF {n:Nat}(h:n<18446744073709551616):(BitVec.ofInt 64 (n:Int)).toNat=n:=by
 simp;omega

theorem NE (a b:Nat)(ha:a<18446744073709551616)(hb:b<18446744073709551616):bits .xor .u64 (a:Int) (b:Int)=((a ^^^ b:Nat):Int):=by
 have hx:a ^^^ b<2 ^ 64:=Nat.xor_lt_two_pow (by omega) (by omega);show IntKind.u64.wrap ((BitVec.ofInt 64 (a:Int) ^^^ BitVec.ofInt 64 (b:Int)).toNat:Int)=_;rw[BitVec.toNat_xor,WF ha,WF hb,Ja];omega
theorem Ux (a b:Nat)(ha:a<18446744073709551616)(hb:b<18446744073709551616):bits .and .u64 (a:Int) (b:Int)=((a &&& b:Nat):Int):=by
 have hx:a &&& b<2 ^ 64:=Nat.and_lt_two_pow _ (by omega);show IntKind.u64.wrap ((BitVec.ofInt 64 (a:Int) &&& BitVec.ofInt 64 (b:Int)).toNat:Int)=_;rw[BitVec.toNat_and,WF ha,WF hb,Ja];omega
theorem FU (a:Nat)(ha:a<18446744073709551616):a ^^^ 18446744073709551615=18446744073709551615-a:=by
 have h1:(BitVec.ofNat 64 a ^^^ BitVec.allOnes 64).toNat=a ^^^ 18446744073709551615:=by
  rw[BitVec.toNat_xor,BitVec.toNat_ofNat,BitVec.toNat_allOnes,Nat.mod_eq_of_lt (by omega)]
 rw[←h1,BitVec.xor_allOnes,BitVec.toNat_not,BitVec.toNat_ofNat,Nat.mod_eq_of_lt (by omega)]

theorem FV (a:Int)(h0:0≤a)(h1:a<18446744073709551616):bits .xor .u64 a 0=a:=by
 obtain⟨n,rfl⟩:=QWp h0;have:=NE n 0 (by omega) (by omega);rw[Nat.xor_zero]at this;exact this
theorem FX (a:Int)(h0:0≤a)(h1:a<18446744073709551616):bits .xor .u64 a 18446744073709551615=18446744073709551615-a:=by
 obtain⟨n,rfl⟩:=QWp h0;have:=NE n 18446744073709551615 (by omega) (by omega);rw[FU n (by omega)]at this;rw[show((18446744073709551615:Nat):Int)=18446744073709551615 from rfl]at this;rw[this];omega
end Go.Proofs.YtipjfckmopekaaaGreatDoor.Bt

set_option linter.unusedSimpArgs false
namespace Go.Proofs.YtipjfckmopekaaaGreatDoor.Va
open Go Am Rc Bt

def RB (v:AV):Prop:=∃b,v=.bool b
theorem RB.rf {v:AV}{l:List AV}(h:RB v):v.rf=true∧(AV.rfL l=true∨v.nl=true):=by
 obtain⟨b,rfl⟩:=h;exact⟨rfl,.inr rfl⟩

def isk (k:Int):Bool:=decide (k≥1)&&decide (k≤9)
def X8 (k:Int):Bool:=k==7||k==8
def wk (k:Int):Int:=if k=1∨k=4∨k=5∨k=9 then 0 else if k=2∨k=3 then 1 else if k=6 then 2 else if k=7∨k=8 then 3 else if k=10 then 4 else -1

theorem VD (k:Int):Qj Tryz.prog 193 [.int .i64 k] (.bool (isk k)):=by
 refine QLZ.fn (by simp) ?_;simp only[isk,Qa,seval];cases h:decide (k≥1)<;>simp only[QWn,QWg,Qa,seval]

theorem FY (k:Int):Qj Tryz.prog 217 [.int .i64 k] (.bool (isk k)):=by
 refine QiH.fn (by simp) ?_;simp only[isk,Qa,seval];cases h:decide (k≥1)<;>simp only[QWn,QWg,Qa,seval]

theorem Hj (k:Int):Qj Tryz.prog 239 [.int .i64 k] (.bool (X8 k)):=by
 refine QMI.fn (by simp) ?_;simp only[X8,Qa,seval];cases h:(k==7)<;>simp only[QWq,QWr,Qa,seval]

theorem QuS (k:Int):Qj Tryz.prog 267 [.int .i64 k] (.bool (X8 k)):=by
 refine QkP.fn (by simp) ?_;simp only[X8,Qa,seval];cases h:(k==7)<;>simp only[QWq,QWr,Qa,seval]

def oc (n:Int)(s a:List UInt8)(c k kd t u:Int):AV:=.agg [.int .i64 n,.str s,.str a,.int .i64 c,.int .i64 k,.int .i64 kd,.int .i64 t,.int .i64 u]

def pk (c kd:Int):Bool:=c==4&&((decide (kd≥1)&&decide (kd≤6))||kd==9)
def MH (c kd:Int):Int:=if c=5 then 6 else if pk c kd=true then 5 else wk kd

section
variable (n:Int)(s a:List UInt8)(c k kd t u:Int)

theorem QuT:Qj Tryz.prog 119 [oc n s a c k kd t u] (.bool (pk c kd)):=by
 refine Qcx.fn (by simp) ?_;simp only[oc,pk,eE,seval];cases h0:(c==4)<;>cases h1:decide (kd≥1)<;>cases h2:decide (kd≤6)<;>simp only[h1,h2,QWn,QWg,QWq,QWr,eE,seval]

theorem y41:Qj Tryz.prog 41 [oc n s a c k kd t u] (.bool (pk c kd)):=by
 refine k41.fn (by simp) ?_;simp only[oc,pk,eE,seval];cases h0:(c==4)<;>cases h1:decide (kd≥1)<;>cases h2:decide (kd≤6)<;>simp only[h1,h2,QWn,QWg,QWq,QWr,eE,seval]

theorem QNG:Qj Tryz.prog 198 [oc n s a c k kd t u] (.int .i64 (MH c kd)):=by
 have hP:=QuT n s a c k kd t u;simp only[oc]at hP;refine Qhn.fn (by simp) ?_;simp only[oc,eE,seval];by_cases hc:c=5
 ·have b0:(c==5)=true:=by simp[hc]
  simp only[b0,MH,QVf hc,Qa,seval]
 ·have b0:(c==5)=false:=by simp[hc]
  simp only[b0,MH,QU0 hc,eE,seval];refine Qb hP rfl rfl rfl (.inl rfl) ?_;cases pk c kd
  ·simp only[QU5,eE,seval]
   repeat' (first|(refine Q0 (fun h=>?_) (fun h=>?_)<;>simp only[h,Qa,seval])|(refine Xz (fun h=>?_) (fun h=>?_)<;>simp only[h,Ql,eE,seval])|(refine XA (fun h=>?_) (fun h=>?_)<;>simp only[h,Ql,eE,seval]))
   all_goals((try simp only[QUS,QWs,ne_eq]at *)<;>unfold wk<;>(repeat' split)<;>first|rfl|(exfalso;omega))
  ·simp only[Qa,seval]

end

theorem Qq (i:Nat)(n:Nat)(h:i<n)(hn:n≤maxLen):IntKind.i64.wrap ((i:Int)+1)=((i+1:Nat):Int):=by
 simp only[maxLen]at hn;rw[QG];omega

theorem Qm {i n:Nat}(h:i<n):decide ((i:Int)<(n:Int))=true:=by simp;omega
theorem QB {i n:Nat}(h:¬i<n):decide ((i:Int)<(n:Int))=false:=by simp;omega
theorem Qi (i:Nat):(0≤(i:Int))=True:=by simp

end Go.Proofs.YtipjfckmopekaaaGreatDoor.Va

namespace Go.Proofs.YtipjfckmopekaaaGreatDoor.Br
open Go Am Go.RowKit Go.WideShapes Go.ChangeShapes Go.ChangeAt Go.Joins Go.Deep Go.WideElems Go.Maps

section
variable {H:Type}{ZU:TypeId×Value→H}{P:Program}{W:World}{base:Nat}{sp:Nat→Bool}{held:Bool}

end

theorem U1 {X α:Type}{f:X→List α}{sz:Nat}(hsz:0<sz)(hf:∀x,(f x).length=sz):∀(xs:List X) (j:Nat),(xs.flatMap f)[j]? = (xs[j / sz]?).bind fun x=>(f x)[j % sz]?
 | [],j=>by simp
 |x :: xs,j=>by
  rw[QWf];by_cases hj:j<sz
  ·rw[QWb (by rw[hf];exact hj),Nat.div_eq_of_lt hj,Nat.mod_eq_of_lt hj];rfl
  ·obtain⟨i,rfl⟩:∃i,j=sz+i:=⟨j-sz,by omega⟩;rw[QWc (by rw[hf];omega),hf,U1 hsz hf xs,show sz+i-sz=i by omega,show(sz+i) / sz=i / sz+1 by rw[Nat.add_div_left _ hsz],Nat.add_mod_left];rfl

section
variable {H:Type}{ZU:TypeId×Value→H}{P:Program}{W:World}

structure El (ZU:TypeId×Value→H)(P:Program)(e:TypeId)(sz:Nat)(X:Type) where
 av:X→AV
 vals:X→List Value
 Be:X→DataW H
 ok:X→Prop
 pos:0<sz
 len:∀x,(vals x).length=sz
 cells:∀x,(av x).cells.length=sz
 rfl':∀x,AV.rfL (av x).cells=true
 leaf:∀x,(av x).cells.all AV.leaf=true
 rep:∀(G:Gh) x,RepL G (av x).cells (vals x)
 opened:∀ {W:World} {n:Nat} {cs:List Value} {d:DataW H} {pl:List MemPlace},cs.length=sz→DataW.trod ZU P W 0 (fun _=>true) true n e cs=some (d,pl)→∃x,ok x∧cs=vals x∧d=Be x∧pl=[]
 shut:∀(W:World) (sp:Nat→Bool) x,ok x→∃n,DataW.trod ZU P W 0 sp true n e (vals x)=some (Be x,[])

end

def Xn:List AV→AV
 | [x]=>x
 |l=>.agg l

def Ga (P:Program):Nat→List Field→Nat→Bool
 |o,[],n=>Nat.beq o n
 |o,f :: fs,n=>Nat.beq f.offset o&&Ga P (o+P.cellsOf f.type) fs n

def MI (P:Program)(ts:List TypeId)(t:TypeId):Bool :=
 match P.underlying t with
 |some (.int _)|some .bool|some .string=>P.cellsOf t==1
 |some (.struct fs)=>Ga P 0 fs.toList (P.cellsOf t)&&fs.toList.all fun f=>ts.contains f.type
 |some (.slice e)=>P.cellsOf t==1&&(decide (0<P.cellsOf e)&&decide (0<P.bytesOf e))&&ts.contains e
 |_=>false
def MJ (P:Program)(ts:List TypeId):Bool:=ts.all (MI P ts)

def Q5 (P:Program)(M:Nat):Nat→TypeId→List AV→Prop
 |0,_,_=>False
 |k+1,t,cs=>match P.underlying t with
  |some (.int ik)=>∃n,cs=[.int ik n]∧(Lit.int ik n).wf=true
  |some .bool=>∃b,cs=[.bool b]
  |some .string=>∃s,cs=[.str s]∧s.length≤M
  |some (.struct fs)=>HasL (Q5 P M k) fs.toList cs
  |some (.slice e)=>∃l:List (List AV),cs=[.list (l.map Xn)]∧(l.length≤maxLen∧(M=reachBytes→l.length*P.bytesOf e≤M))∧(∀c∈l,Q5 P M k e c)∧l.length≤M
  |_=>False
where
 HasL (h:TypeId→List AV→Prop):List Field→List AV→Prop
  | [],cs=>cs=[]
  |f :: fs,cs=>∃a b,cs=a++b∧h f.type a∧HasL h fs b

theorem U2 {l:List AV}(h:l.all AV.leaf=true):(Xn l).cells=l:=by
 match l,h with
 | [],_=>rfl
 | [x],h=>cases x<;>first|rfl|simp[AV.leaf]at h
 |_ :: _ :: _,_=>rfl

mutual
def wt:AV→Nat
 |.list l=>1+Jy l
 |.agg l=>Jy l
 |_=>1
def Jy:List AV→Nat
 | []=>0
 |x :: l=>wt x+Jy l
end
theorem NF (a b:List AV):Jy (a++b)=Jy a+Jy b:=by
 induction a with
 |nil=>simp[Jy]
 |cons x a ih=>simp only[QU8,Jy,ih];omega
theorem P0:∀l:List AV,wt (Xn l)=Jy l
 | []=>by simp[Xn,wt]
 | [x]=>by simp[Xn,Jy]
 |_ :: _ :: _=>by simp[Xn,wt]

theorem Y0 {G:Gh}:∀ {ls:List (List AV)} {cs:List (List Value)},ls.length=cs.length→(∀i (h1:i<ls.length) (h2:i<cs.length),RepL G ls[i] cs[i])→RepL G ls.flatten cs.flatten
 | [],[],_,_=>.nil
 |l :: ls,c :: cs,hn,h=>by
  rw[List.flatten_cons,List.flatten_cons];exact RepL.append (h 0 (by simp) (by simp)) (Y0 (by simpa using hn) fun i h1 h2=>h (i+1) (by simpa using h1) (by simpa using h2))
 | [],_ :: _,hn,_=>by simp at hn
 |_ :: _,[],hn,_=>by simp at hn

section
variable {H:Type}{ZU:TypeId×Value→H}{P:Program}{W:World}{M:Nat}

theorem Hk {d:DataW H}:∀ {l:List (DataW H)},d∈l→Rows.uptoBulk d≤Rows.uptoBulkAll l
 | [],h=>by cases h
 |x :: l,h=>by
  rw[Rows.uptoBulkAll];rcases QV8.1 h with rfl|h
  ·omega
  ·have:=Hk h;omega

theorem P1 (d:DataW H):1≤Rows.uptoBulk d:=by unfold Rows.uptoBulk;split<;>omega
theorem Gb {x:AV}(h:wt x=1)(d:DataW H):Jy [x]≤Rows.uptoBulk d:=by
 have:=P1 d;rw[Jy,Jy,h];exact this
theorem P2 (a b:List (DataW H)):Rows.uptoBulkAll (a++b)=Rows.uptoBulkAll a+Rows.uptoBulkAll b:=by
 induction a with
 |nil=>simp[Rows.uptoBulkAll]
 |cons x a ih=>simp only[QU8,Rows.uptoBulkAll,ih];omega
theorem FZ (F:Nat→List AV)(xs:List (DataW H))(h:∀i d,xs[i]? = some d→Jy (F i)≤Rows.uptoBulk d):∀n,n≤xs.length→Jy (((List.range n).map F).map Xn)≤Rows.uptoBulkAll (xs.take n)
 |0,_=>QUU _
 |n+1,hn=>by
  have hx:xs[n]? = some xs[n]:=QUN (by omega);have:=FZ F xs h n (by omega);have h1:=h n _ hx;rw[List.range_succ,QWt,QWt,NF,QWu,hx,P2];simp only[QVi,QVN,Jy,P0,QWv,Rows.uptoBulkAll];omega

def SE (P:Program)(M:Nat)(t:TypeId)(d:DataW H):Prop:=M=maxLen∨(M≠reachBytes∧Rows.uptoBulk d≤M)∨(d.weights P t).all (·≤M)=true

theorem K2 {t:TypeId}{d:DataW H}:∀ {ts:List TypeId} {ds:List (DataW H)} (i:Nat),(DataW.weightsEach P ts ds).all (·≤M)=true→ts[i]? = some t→ds[i]? = some d→(d.weights P t).all (·≤M)=true
 | [],_,_,_,h,_=>by simp at h
 |_ :: _,[],_,_,_,h=>by simp at h
 |t' :: ts,d' :: ds,0,h,h1,h2=>by
  rw[DataW.weightsEach,QV3,QVa]at h;cases h1;cases h2;exact h.1
 |t' :: ts,d' :: ds,i+1,h,h1,h2=>by
  rw[DataW.weightsEach,QV3,QVa]at h;exact K2 i h.2 (by simpa using h1) (by simpa using h2)

theorem WZ {e:TypeId}{d:DataW H}:∀ {ds:List (DataW H)},(DataW.weightsAll P e ds).all (·≤M)=true→d∈ds→(d.weights P e).all (·≤M)=true
 | [],_,h=>by cases h
 |d' :: ds,h,hd=>by
  rw[DataW.weightsAll,QV3,QVa]at h;rcases QV8.1 hd with rfl|hd
  ·exact h.1
  ·exact WZ h.2 hd

def Opn (W:World)(h:List AV→Prop)(B n:Nat)(cs:List Value):Prop :=
 ∃avs,h avs∧RepL (Gh.bare fun b o=>sv W b o) avs cs∧avs.length=n∧AV.rfL avs=true∧avs.all AV.leaf=true∧Jy avs≤B

theorem U3 {h:TypeId→List AV→Prop}{cs:List Value}:∀(fs:List Field) (ds:List (DataW H)) (o:Nat),Ga P o fs cs.length=true→fs.length=ds.length→(∀(i:Nat) (f:Field) (d:DataW H),fs[i]? = some f→ds[i]? = some d→Opn W (h f.type) (Rows.uptoBulk d) (P.cellsOf f.type) ((cs.drop f.offset).take (P.cellsOf f.type)))→
  Opn W (Q5.HasL h fs) (Rows.uptoBulkAll ds) (cs.length-o) (cs.drop o)
 | [],_,o,hc,_,_=>by
  have e:o=cs.length:=QUI hc;refine⟨[],rfl,?_,by simp[e],rfl,rfl,QUU _⟩;rw[e,List.drop_length];exact .nil
 |_ :: _,[],_,_,hl,_=>by simp at hl
 |f :: fs,d :: ds,o,hc,hl,hf=>by
  simp only[Ga,QVa]at hc;have eo:f.offset=o:=QUI hc.1;obtain⟨a,a1,a2,a3,a4,a5,a6⟩:=hf 0 f d rfl rfl;obtain⟨b,b1,b2,b3,b4,b5,b6⟩:=U3 fs ds _ hc.2 (by simpa using hl) fun i g d hg hd=>hf (i+1) g d (by simpa using hg) (by simpa using hd)
  rw[eo]at a2;refine⟨a++b,⟨a,b,rfl,a1,b1⟩,?_,?_,by rw[KX,a4,b4]<;>rfl,by rw[QV3,a5,b5]<;>rfl,by rw[NF,Rows.uptoBulkAll];omega⟩
  ·have:=RepL.append a2 b2
   rwa [←QVe,QV2]at this
  ·have hlen:a.length=((cs.drop o).take (P.cellsOf f.type)).length:=(RepL.length a2).symm;rw[QVo,a3,b3];rw[a3,QVJ,QVr]at hlen;omega

theorem Y3 {ts:List TypeId}(hP:MJ P ts=true):∀(k:Nat) (t:TypeId) (cs:List Value) (d:DataW H) (pl:List MemPlace),ts.contains t=true→DataW.trod ZU P W 0 (fun _=>true) true k t cs=some (d,pl)→SE P M t d→
  Opn W (Q5 P M k t) (Rows.uptoBulk d) (P.cellsOf t) cs
 |0,_,_,_,_,_,h,_=>by simp[DataW.trod]at h
 |k+1,t,cs,d,pl,ht,h,hb=>by
  have hp:=QUY.1 hP t (by simpa using ht);unfold MI at hp;split at hp
  ·rename_i ik hu;obtain⟨v,rfl,_,hw⟩:=DataW.trod_int hu h;refine⟨[.int ik v],?_,.cons (.int ik v) .nil,by rw[QUS]at hp;simp[hp],rfl,rfl,Gb rfl _⟩;simp only[Q5,hu];exact⟨v,rfl,hw⟩
  ·rename_i hu;obtain⟨b,rfl,_⟩:=DataW.trod_bool hu h;refine⟨[.bool b],?_,.cons (.bool b) .nil,by rw[QUS]at hp;simp[hp],rfl,rfl,Gb rfl _⟩;simp only[Q5,hu];exact⟨b,rfl⟩
  ·rename_i hu;obtain⟨⟨⟨s⟩⟩,rfl,e,hw⟩:=DataW.trod_string hu h;have hw:s.length≤M:=by
    cases e;rcases hb with rfl|hb|hb
    ·exact hw
    ·replace hb:=hb.2;rw[Rows.uptoBulk]at hb;exact QUL (Nat.le_succ _) hb
    ·rw[DataW.weights]at hb
     simpa using hb
   refine⟨[.str s],?_,.cons (.str s) .nil,by rw[QUS]at hp;simp[hp],rfl,rfl,Gb rfl _⟩;simp only[Q5,hu];exact⟨s,rfl,hw⟩
  ·rename_i fs hu;simp only[QVa,QUY]at hp;obtain⟨xs,n',hk,e,hlen,hxl,hx⟩:=DataW.trod_struct hu h;obtain rfl:k=n':=by omega
   have hbx:∀(i:Nat) x (f:Field),xs[i]? = some x→fs[i]? = some f→SE P M f.type x.1:=fun i x f hx hf=>by
    cases e;refine hb.imp id fun hb=>hb.imp (fun hb=>⟨hb.1,?_⟩) fun hb=>?_
    ·replace hb:=hb.2;rw[Rows.uptoBulk]at hb;have:=Hk (l:=xs.map (·.1)) (QV6.2 ⟨x,QUZ hx,rfl⟩);omega
    ·rw[DataW.weights,hu]at hb;exact K2 i hb (by simp[hf]) (by simp[hx])
   have:=U3 (W:=W) (h:=Q5 P M k) (cs:=cs) fs.toList (xs.map (·.1)) 0 (by rw[hlen];exact hp.1) (by simp[hxl]) (fun i f d hi hd=>by
    have hi':fs[i]? = some f:=by simpa using hi
    have hf:f∈fs.toList:=QUZ hi;obtain⟨x,hxi,rfl⟩:∃x,xs[i]? = some x∧x.1=d:=by
     rw[QV9]at hd;obtain⟨x,h1,h2⟩:=QUP.1 hd;exact⟨x,h1,h2⟩
    have h2:=hx i f hi';rw[hxi]at h2;exact Y3 hP k f.type _ _ _ (hp.2 f hf) h2 (hbx i _ f hxi hi'))
   rw[QVt,QV5,hlen]at this;obtain⟨avs,h1,h2,h3,h4,h5,h6⟩:=this;refine⟨avs,?_,h2,h3,h4,h5,by cases e;rw[Rows.uptoBulk];omega⟩;simp only[Q5,hu];exact h1
  ·rename_i e hu;simp only[QVa,QUR,QUS]at hp;obtain⟨⟨h1,h0,hby⟩,hpe⟩:=hp;rcases DataW.trod_slice hu h with⟨rfl,_⟩|⟨a,len,cap,elems,rest,n',hk,rfl,e0,_,hl,hm,hln0,hel,_⟩
   ·refine⟨[.list []],?_,.cons (.list (cs:=[]) (sz:=0) .nil (by simp) rfl rfl (by simp) rfl (QUU _) (QUU _)) .nil,by simp[h1],rfl,rfl,Gb rfl _⟩;simp only[Q5,hu];exact⟨[],rfl,⟨QUU _,fun _=>by simp⟩,by simp,QUU _⟩
   ·obtain rfl:k=n':=by omega
    have hbx:∀x∈elems,SE P M e x.1:=fun x hx=>by
     cases e0;refine hb.imp id fun hb=>hb.imp (fun hb=>⟨hb.1,?_⟩) fun hb=>?_
     ·replace hb:=hb.2;rw[Rows.uptoBulk]at hb;have:=Hk (l:=elems.map (·.1)) (QV6.2 ⟨x,hx,rfl⟩);omega
     ·rw[DataW.weights,hu,QVX,QV3,QVa,QVa]at hb;exact WZ hb.2.1 (QV6.2 ⟨x,hx,rfl⟩)
    have hlenM:len≤M:=by
     cases e0;rcases hb with rfl|hb|hb
     ·omega
     ·have key:∀l:List (DataW H),l.length≤Rows.uptoBulkAll l:=by
       intro l
       induction l with
       |nil=>simp
       |cons x l ih=>
        have:1≤Rows.uptoBulk x:=by unfold Rows.uptoBulk;split<;>omega
        rw[Rows.uptoBulkAll,QU1];omega
      replace hb:=hb.2;rw[Rows.uptoBulk]at hb;have:=key (elems.map (·.1));rw[QVH]at this;omega
     ·rw[DataW.weights,hu,QVX,QVa]at hb;have h5:=hb.1;simp only[QUR,QVH]at h5;have h6:elems.length*1≤(elems.length+rest.length)*P.bytesOf e:=Nat.mul_le_mul (Nat.le_add_right _ _) hby;omega
    have hlenB:M=reachBytes→len*P.bytesOf e≤M:=fun hM=>by
     cases e0;rcases hb with rfl|hb|hb
     ·exact absurd hM (by unfold maxLen reachBytes;omega)
     ·exact absurd hM hb.1
     ·rw[DataW.weights,hu,QVX,QVa]at hb;have h5:=hb.1;simp only[QUR,QVH]at h5;have h6:elems.length*P.bytesOf e≤(elems.length+rest.length)*P.bytesOf e:=Nat.mul_le_mul (Nat.le_add_right _ _) (QUK _);have h7:len*P.bytesOf e=elems.length*P.bytesOf e:=by rw[show len=elems.length by omega]
      omega
    haveI:Inhabited ({c:List Value // c.length=P.cellsOf e}×List AV):=⟨(⟨List.replicate (P.cellsOf e) (.bool false),by simp⟩,[])⟩
    obtain⟨F,hF⟩:=choose_lt (α:={c:List Value // c.length=P.cellsOf e}×List AV) (n:=len) (p:=fun i x=>W.cells? 0 (a.add (i*P.cellsOf e)) (P.cellsOf e)=some x.1.1∧Q5 P M k e x.2∧RepL (Gh.bare fun b o=>sv W b o) x.2 x.1.1∧x.2.length=P.cellsOf e∧AV.rfL x.2=true∧x.2.all AV.leaf=true∧∀d,elems[i]? = some d→Jy x.2≤Rows.uptoBulk d.1) (fun i hi=>by
     have hb:=hel i hi;rw[QUN (by omega)]at hb;obtain⟨cs',c1,c2⟩:=Option.bind_eq_some_iff.1 hb;obtain⟨_,hln,_⟩:=World.cells?_some c1;obtain⟨avs,o1,o2,o3,o4,o5,o6⟩:=Y3 hP k e cs' _ _ hpe c2 (hbx _ (QVE _));exact⟨(⟨cs',hln⟩,avs),c1,o1,o2,o3,o4,o5,fun d hd=>by
      rw[QUN (by omega)]at hd;cases hd;exact o6⟩)
    have cellAt:∀i j,i<len→j<P.cellsOf e→W.cell? (a.add (i*P.cellsOf e+j))=(F i).1.1[j]?:=by
     intro i j hi hj;obtain⟨_,_,h3⟩:=World.cells?_some (hF i hi).1;rw[←h3 j hj,add_add]
    have hspot:0<len→a.spot=none:=by
     intro hc;have:=cellAt 0 0 hc h0;rw[Nat.zero_mul,show a.add (0+0)=a from rfl,QUN (by rw[(F 0).1.2];exact h0)]at this;unfold World.cell? at this;split at this
     ·split at this
      ·cases this
      ·rename_i h;simpa using h
     ·cases this
    have hel':∀c∈(List.range len).map (fun i=>(F i).2),∃i,i<len∧c=(F i).2:=by
     intro c hc;obtain⟨i,hi,rfl⟩:=QV6.1 hc;exact⟨i,QWi.1 hi,rfl⟩
    have hflat:∀L:List (List AV),(∀c∈L,c.all AV.leaf=true)→QN (L.map Xn)=L.flatten:=by
     intro L
     induction L with
     |nil=>intro _;rfl
     |cons c L ih=>
      intro hh;show(Xn c).cells++QN (L.map Xn)=c++L.flatten;rw[U2 (hh c (by simp)),ih fun x hx=>hh x (by simp[hx])]
    have hrf:∀L:List (List AV),(∀c∈L,AV.rfL c=true)→AV.rfL L.flatten=true:=by
     intro L
     induction L with
     |nil=>intro _;rfl
     |cons c L ih=>
      intro hh;rw[List.flatten_cons,KX,hh c (by simp),ih fun x hx=>hh x (by simp[hx])]<;>rfl
    have hlf:∀L:List (List AV),(∀c∈L,c.all AV.leaf=true)→L.flatten.all AV.leaf=true:=by
     intro L
     induction L with
     |nil=>intro _;rfl
     |cons c L ih=>
      intro hh;rw[List.flatten_cons,QV3,hh c (by simp),ih fun x hx=>hh x (by simp[hx])]<;>rfl
    have hl1:∀c∈(List.range len).map (fun i=>(F i).2),c.all AV.leaf=true:=fun c hc=>by
     obtain⟨i,hi,rfl⟩:=hel' c hc;exact(hF i hi).2.2.2.2.2.1
    have hl2:∀c∈(List.range len).map (fun i=>(F i).2),AV.rfL c=true:=fun c hc=>by
     obtain⟨i,hi,rfl⟩:=hel' c hc;exact(hF i hi).2.2.2.2.1
    have hwt:Jy [.list (((List.range len).map fun i=>(F i).2).map Xn)]≤Rows.uptoBulk d:=by
     cases e0;have hw:=fun n hn=>FZ (fun i=>if i<len then(F i).2 else []) (elems.map (·.1)) (fun i d hd=>by
      rw[QV9]at hd;obtain⟨x,h1,rfl⟩:=QUP.1 hd;by_cases hi:i<len
      ·rw[QVf hi];exact(hF i hi).2.2.2.2.2.2 x h1
      ·rw[QU0 hi];exact QUU _) n hn
     have h1:=hw len (by rw[QVH];omega);rw[QVk (by rw[QVH];omega)]at h1;have h2:(List.range len).map (fun i=>if i<len then(F i).2 else [])=(List.range len).map fun i=>(F i).2:=by
      refine List.map_congr_left fun i hi=>?_
      rw[QVf (QWi.1 hi)]
     rw[h2]at h1;rw[Jy,Jy,wt,Rows.uptoBulk];omega
    refine⟨[.list (((List.range len).map fun i=>(F i).2).map Xn)],?_,.cons (.list (cs:=((List.range len).map fun i=>(F i).1.1).flatten) (sz:=P.cellsOf e) ?_ ?_ ?_ ?_ ?_ (by simp) hl (by omega)) .nil,by simp[h1],rfl,rfl,hwt⟩
    ·simp only[Q5,hu];refine⟨_,rfl,⟨by simp;omega,fun hM=>by simpa using hlenB hM⟩,?_,by simpa using hlenM⟩;intro c hc;obtain⟨i,hi,rfl⟩:=hel' c hc;exact(hF i hi).2.1
    ·rw[hflat _ hl1];refine Y0 (by simp) fun i g1 g2=>?_
     simp only[QVH,List.length_range]at g1;simp only[List.getElem_map,List.getElem_range];exact(hF i (by omega)).2.2.1
    ·intro x hx;obtain⟨c,hc,rfl⟩:=QV6.1 hx;rw[U2 (hl1 c hc)];obtain⟨i,hi,rfl⟩:=hel' c hc;exact(hF i hi).2.2.2.1
    ·rw[hflat _ hl1];exact hrf _ hl2
    ·rw[hflat _ hl1];exact hlf _ hl1
    ·intro j u hj;rw[←List.flatMap_def,U1 h0 (fun i=>(F i).1.2)]at hj;by_cases hi:j / P.cellsOf e<len
     ·rw[List.getElem?_range hi]at hj;have hj:(F (j / P.cellsOf e)).1.1[j % P.cellsOf e]? = some u:=hj;have hk:=cellAt (j / P.cellsOf e) (j % P.cellsOf e) (by omega) (Nat.mod_lt _ h0);rw[hj,Nat.div_add_mod']at hk;have hs:=hspot (Nat.lt_of_le_of_lt (QUU _) hi);obtain⟨b,o,s⟩:=a;subst hs;refine⟨b,o,rfl,?_⟩;refine Ut ?_;show W.cell? ⟨b,o+j,none⟩=some u;rw[←hk];unfold Addr.add;split
      ·rename_i h;rw[h];rfl
      ·rfl
     ·rw[QWa (by simp;omega)]at hj;cases hj
  ·cases hp

theorem Gc {t:TypeId}{v:Value}{d:DataW H}{p:List MemPlace}(hl:laidOutB P=true)(hr:P.readableRec t=true)(hrow:t<P.types.size)(h:DataW.Trod ZU P W 0 (fun _=>true) true t v d p) :
  ∀(W':World) (sp:Nat→Bool),Below W.heap.size W W'→(∀q∈p,sp q.block=true)→DataW.Trod ZU P W' 0 sp true t v d p:=by
 intro W' sp hb hs;obtain⟨n,hn⟩:=h;exact Trod_stays hl hr hrow ⟨n,hn⟩ (fun x hx=>hb.same (DataW.trod_lt n _ _ _ hn x hx)) hs

theorem U4 {t:TypeId}{fs:Array Field}{ts:List TypeId}{r:Reach}{b0:Nat}{v:Value}{d:DataW H}{p:List MemPlace}(hP:MJ P ts=true)(ht:ts.contains t=true)(hs:P.underlying t=some (.struct fs))(hv:Value.okWide P W r b0 t v)
  (h:DataW.Trod ZU P W 0 (fun _=>true) true t v d p) (hb:SE P M t d):∃k avs,Q5 P M k t avs∧Rep (Gh.bare fun b o=>sv W b o) (.agg avs) v:=by
 obtain⟨⟨cs⟩,rfl,_⟩:=okWide_struct hs hv;obtain⟨n,hn⟩:=h;obtain⟨avs,h1,h2,_⟩:=Y3 hP n t _ _ _ ht hn hb;exact⟨n,avs,h1,.agg h2⟩
theorem Zk {X:Type}{f:X→List AV}{ok:X→Prop}:∀ {l:List (List AV)},(∀c∈l,∃x,ok x∧c=f x)→∃xs:List X,l=xs.map f∧∀x∈xs,ok x
 | [],_=>⟨[],rfl,by simp⟩
 |c :: l,h=>by
  obtain⟨x,hx,rfl⟩:=h c (by simp);obtain⟨xs,rfl,hxs⟩:=Zk (l:=l) fun c hc=>h c (by simp[hc])
  exact⟨x :: xs,rfl,by simpa using ⟨hx,hxs⟩⟩

end

end Go.Proofs.YtipjfckmopekaaaGreatDoor.Br

namespace Go.Proofs.YtipjfckmopekaaaGreatDoor.Br
open Go Am

section
variable {P:Program}{M k:Nat}{t:TypeId}{cs:List AV}

theorem Xo {ik:IntKind}(hu:P.underlying t=some (.int ik))(h:Q5 P M k t cs):∃n,cs=[.int ik n]∧(Lit.int ik n).wf=true:=by
 cases k with
 |zero=>cases h
 |succ k=>simpa only [Q5,hu]using h

theorem P3 (hu:P.underlying t=some .bool)(h:Q5 P M k t cs):∃b,cs=[.bool b]:=by
 cases k with
 |zero=>cases h
 |succ k=>simpa only [Q5,hu]using h

theorem Jn (hu:P.underlying t=some .string)(h:Q5 P M k t cs):∃s,cs=[.str s]∧s.length≤M:=by
 cases k with
 |zero=>cases h
 |succ k=>simpa only [Q5,hu]using h

theorem Jb {e:TypeId}(hu:P.underlying t=some (.slice e))(h:Q5 P M k t cs):∃(k':Nat) (l:List (List AV)),cs=[.list (l.map Xn)]∧l.length≤maxLen∧∀c∈l,Q5 P M k' e c:=by
 cases k with
 |zero=>cases h
 |succ k=>
  simp only[Q5,hu]at h;obtain⟨l,h1,h2,h3,_⟩:=h;exact⟨k,l,h1,h2.1,h3⟩

theorem K3 {e:TypeId}(hu:P.underlying t=some (.slice e))(h:Q5 P M k t cs):∃(k':Nat) (l:List (List AV)),cs=[.list (l.map Xn)]∧l.length≤M∧∀c∈l,Q5 P M k' e c:=by
 cases k with
 |zero=>cases h
 |succ k=>
  simp only[Q5,hu]at h;obtain⟨l,h1,_,h3,h4⟩:=h;exact⟨k,l,h1,h4,h3⟩

theorem X5 {fs:Array Field}(hu:P.underlying t=some (.struct fs))(h:Q5 P M k t cs):∃k',Q5.HasL (Q5 P M k') fs.toList cs:=by
 cases k with
 |zero=>cases h
 |succ k=>
  simp only[Q5,hu]at h;exact⟨k,h⟩

end

structure PO where
 num:Int
 name:List UInt8
 alias:List UInt8
 card:Int
 key:Int
 kind:Int
 target:Int
 union:Int

def PO.cells (o:PO):List AV:=[.int .i64 o.num,.str o.name,.str o.alias,.int .i64 o.card,.int .i64 o.key,.int .i64 o.kind,.int .i64 o.target,.int .i64 o.union]

structure PO.ok (M:Nat)(o:PO):Prop where
 num:(Lit.int .i64 o.num).wf=true
 name:o.name.length≤M
 alias:o.alias.length≤M
 card:(Lit.int .i64 o.card).wf=true
 key:(Lit.int .i64 o.key).wf=true
 kind:(Lit.int .i64 o.kind).wf=true
 target:(Lit.int .i64 o.target).wf=true
 union:(Lit.int .i64 o.union).wf=true

theorem QuV {M k:Nat}{cs:List AV}(h:Q5 Tryz.prog M k 68 cs):∃o:PO,o.ok M∧cs=o.cells:=by
 obtain⟨k,h⟩:=X5 Tryz.underlying68 h;simp only[Q5.HasL]at h;obtain⟨_,_,rfl,h0,_,_,rfl,h1,_,_,rfl,h2,_,_,rfl,h3,_,_,rfl,h4,_,_,rfl,h5,_,_,rfl,h6,_,_,rfl,h7,rfl⟩:=h;obtain⟨a0,rfl,w0⟩:=Xo Tryz.underlying3 h0;obtain⟨a1,rfl,w1⟩:=Jn Tryz.underlying9 h1;obtain⟨a2,rfl,w2⟩:=Jn Tryz.underlying9 h2;obtain⟨a3,rfl,w3⟩:=Xo Tryz.underlying3 h3;obtain⟨a4,rfl,w4⟩:=Xo Tryz.underlying3 h4;obtain⟨a5,rfl,w5⟩:=Xo Tryz.underlying3 h5;obtain⟨a6,rfl,w6⟩:=Xo Tryz.underlying3 h6;obtain⟨a7,rfl,w7⟩:=Xo Tryz.underlying3 h7;exact⟨⟨a0,a1,a2,a3,a4,a5,a6,a7⟩,⟨w0,w1,w2,w3,w4,w5,w6,w7⟩,rfl⟩

structure PG where
 name:List UInt8
 ops:List PO
 unions:Int

def PG.cells (g:PG):List AV:=[.str g.name,.list (g.ops.map fun o=>.agg o.cells),.int .i64 g.unions]

structure PG.ok (M:Nat)(g:PG):Prop where
 name:g.name.length≤M
 len:g.ops.length≤maxLen
 ops:∀o∈g.ops,o.ok M
 unions:(Lit.int .i64 g.unions).wf=true

theorem P4 {M k:Nat}{cs:List AV}(h:Q5 Tryz.prog M k 73 cs):∃g:PG,g.ok M∧cs=g.cells:=by
 obtain⟨k,h⟩:=X5 Tryz.underlying73 h;simp only[Q5.HasL]at h;obtain⟨_,_,rfl,h0,_,_,rfl,h1,_,_,rfl,h2,rfl⟩:=h;obtain⟨a0,rfl,w0⟩:=Jn Tryz.underlying9 h0;obtain⟨k',l,rfl,w1,hl⟩:=Jb Tryz.underlying71 h1;obtain⟨a2,rfl,w2⟩:=Xo Tryz.underlying3 h2;obtain⟨ops,rfl,hok⟩:=Zk (f:=PO.cells) (ok:=PO.ok M) fun c hc=>QuV (hl c hc)
 refine⟨⟨a0,ops,a2⟩,⟨w0,by simpa using w1,hok,w2⟩,?_⟩;simp only[PG.cells,QWw,QU8,QU9];rfl

structure PS where
 lo:Int
 hi:Int

def PS.cells (x:PS):List AV:=[.int .i64 x.lo,.int .i64 x.hi]
def PS.ok (x:PS):Prop:=(Lit.int .i64 x.lo).wf=true∧(Lit.int .i64 x.hi).wf=true

theorem P5 {M k:Nat}{cs:List AV}(h:Q5 Tryz.prog M k 111 cs):∃x:PS,x.ok∧cs=x.cells:=by
 obtain⟨k,h⟩:=X5 Tryz.underlying111 h;simp only[Q5.HasL]at h;obtain⟨_,_,rfl,h0,_,_,rfl,h1,rfl⟩:=h;obtain⟨a0,rfl,w0⟩:=Xo Tryz.underlying3 h0;obtain⟨a1,rfl,w1⟩:=Xo Tryz.underlying3 h1;exact⟨⟨a0,a1⟩,⟨w0,w1⟩,rfl⟩

structure PN where
 name:List UInt8
 val:List AV

def PN.cells (x:PN):List AV:=.str x.name :: x.val
def PN.ok (P:Program)(M:Nat)(t:TypeId)(x:PN):Prop:=x.name.length≤M∧∃k,Q5 P M k t x.val

theorem F0 {M k:Nat}{cs:List AV}(h:Q5 Tryz.prog M k 87 cs):∃x:PN,x.ok Tryz.prog M 32∧cs=x.cells:=by
 obtain⟨k,h⟩:=X5 Tryz.underlying87 h;simp only[Q5.HasL]at h;obtain⟨_,_,rfl,h0,a1,_,rfl,h1,rfl⟩:=h;obtain⟨a0,rfl,w0⟩:=Jn Tryz.underlying9 h0;exact⟨⟨a0,a1⟩,⟨w0,k,h1⟩,by simp[PN.cells]⟩

structure PI where
 name:List UInt8
 num:Int
 notes:List PN

def PI.cells (x:PI):List AV:=[.str x.name,.int .i64 x.num,.list (x.notes.map fun n=>Xn n.cells)]

structure PI.ok (M:Nat)(x:PI):Prop where
 name:x.name.length≤M
 num:(Lit.int .i64 x.num).wf=true
 len:x.notes.length≤maxLen
 notes:∀n∈x.notes,n.ok Tryz.prog M 32

theorem P6 {M k:Nat}{cs:List AV}(h:Q5 Tryz.prog M k 85 cs):∃x:PI,x.ok M∧cs=x.cells:=by
 obtain⟨k,h⟩:=X5 Tryz.underlying85 h;simp only[Q5.HasL]at h;obtain⟨_,_,rfl,h0,_,_,rfl,h1,_,_,rfl,h2,rfl⟩:=h;obtain⟨a0,rfl,w0⟩:=Jn Tryz.underlying9 h0;obtain⟨a1,rfl,w1⟩:=Xo Tryz.underlying3 h1;obtain⟨k',l,rfl,w2,hl⟩:=Jb Tryz.underlying81 h2;obtain⟨ns,rfl,hok⟩:=Zk (f:=PN.cells) (ok:=PN.ok Tryz.prog M 32) fun c hc=>F0 (hl c hc)
 refine⟨⟨a0,a1,ns⟩,⟨w0,w1,by simpa using w2,hok⟩,?_⟩;simp only[PI.cells,QWw,QU8,QU9];rfl

structure PE where
 name:List UInt8
 opn:Bool
 items:List PI
 free:List PS
 notes:List PN

def PE.cells (x:PE):List AV:=[.str x.name,.bool x.opn,.list (x.items.map fun n=>.agg n.cells),.list (x.free.map fun n=>.agg n.cells),.list (x.notes.map fun n=>Xn n.cells)]

structure PE.ok (M:Nat)(x:PE):Prop where
 name:x.name.length≤M
 len1:x.items.length≤maxLen
 items:∀n∈x.items,n.ok M
 len2:x.free.length≤maxLen
 free:∀n∈x.free,n.ok
 len3:x.notes.length≤maxLen
 notes:∀n∈x.notes,n.ok Tryz.prog M 32

theorem P7 {M k:Nat}{cs:List AV}(h:Q5 Tryz.prog M k 83 cs):∃x:PE,x.ok M∧cs=x.cells:=by
 obtain⟨k,h⟩:=X5 Tryz.underlying83 h;simp only[Q5.HasL]at h;obtain⟨_,_,rfl,h0,_,_,rfl,h1,_,_,rfl,h2,_,_,rfl,h3,_,_,rfl,h4,rfl⟩:=h;obtain⟨a0,rfl,w0⟩:=Jn Tryz.underlying9 h0;obtain⟨a1,rfl⟩:=P3 Tryz.underlying4 h1;obtain⟨k2,l2,rfl,w2,hl2⟩:=Jb Tryz.underlying79 h2;obtain⟨k3,l3,rfl,w3,hl3⟩:=Jb Tryz.underlying80 h3;obtain⟨k4,l4,rfl,w4,hl4⟩:=Jb Tryz.underlying81 h4;obtain⟨x2,rfl,o2⟩:=Zk (f:=PI.cells) (ok:=PI.ok M) fun c hc=>P6 (hl2 c hc)
 obtain⟨x3,rfl,o3⟩:=Zk (f:=PS.cells) (ok:=PS.ok) fun c hc=>P5 (hl3 c hc)
 obtain⟨x4,rfl,o4⟩:=Zk (f:=PN.cells) (ok:=PN.ok Tryz.prog M 32) fun c hc=>F0 (hl4 c hc)
 refine⟨⟨a0,a1,x2,x3,x4⟩,⟨w0,by simpa using w2,o2,by simpa using w3,o3,by simpa using w4,o4⟩,?_⟩;simp only[PE.cells,QWw,QU8,QU9];rfl

structure PL where
 progs:List PG
 enums:List PE

def PL.av (p:PL):AV:=.agg [.list (p.progs.map fun n=>.agg n.cells),.list (p.enums.map fun n=>.agg n.cells)]

structure PL.ok (M:Nat)(x:PL):Prop where
 len1:x.progs.length≤maxLen
 progs:∀n∈x.progs,n.ok M
 len2:x.enums.length≤maxLen
 enums:∀n∈x.enums,n.ok M

theorem P8 {M k:Nat}{cs:List AV}(h:Q5 Tryz.prog M k 25 cs):∃x:PL,x.ok M∧.agg cs=x.av:=by
 obtain⟨k,h⟩:=X5 Tryz.underlying25 h;simp only[Q5.HasL]at h;obtain⟨_,_,rfl,h0,_,_,rfl,h1,rfl⟩:=h;obtain⟨k2,l2,rfl,w2,hl2⟩:=Jb Tryz.underlying22 h0;obtain⟨k3,l3,rfl,w3,hl3⟩:=Jb Tryz.underlying23 h1;obtain⟨x2,rfl,o2⟩:=Zk (f:=PG.cells) (ok:=PG.ok M) fun c hc=>P4 (hl2 c hc)
 obtain⟨x3,rfl,o3⟩:=Zk (f:=PE.cells) (ok:=PE.ok M) fun c hc=>P7 (hl3 c hc)
 refine⟨⟨x2,x3⟩,⟨by simpa using w2,o2,by simpa using w3,o3⟩,?_⟩;simp only[PL.av,QWw,QU8,QU9];rfl

end Go.Proofs.YtipjfckmopekaaaGreatDoor.Br

namespace Go.Proofs.YtipjfckmopekaaaGreatDoor.Va
open Go Am Rc Bt Br

def XH {α:Type}(p:α→Bool):List α→Nat→Int
 | [],_=>-1
 |x :: l,i=>if p x=true then(i:Int)else XH p l (i+1)

theorem Hl {α:Type}(p:α→Bool):∀(l:List α) (i:Nat),(XH p l i = -1∧l.find? p=none)∨∃k o,XH p l i=((i+k:Nat):Int)∧l[k]? = some o∧l.find? p=some o
 | [],_=>.inl ⟨rfl,rfl⟩
 |x :: l,i=>by
  unfold XH;rw[List.find?_cons];cases h:p x with
  |true=>exact .inr ⟨0,x,by simp,rfl,rfl⟩
  |false=>
   simp only[QU5,if_false];rcases Hl p l (i+1)with h'|⟨k,o,h1,h2,h3⟩
   ·exact .inl h'
   ·exact .inr ⟨k+1,o,by rw[h1];congr 1;omega,by simpa using h2,h3⟩

theorem Jc {α:Type}(p:α→Bool){l:List α}{i:Nat}{x:α}(hx:l[i]? = some x):XH p (l.drop i) i=if p x=true then(i:Int)else XH p (l.drop (i+1)) (i+1):=by
 have hlt:i<l.length:=(QUM.1 hx).1;rw[QVu hlt,show l[i]=x from(QUM.1 hx).2];rfl

def Qt (o:PO):AV:=.agg o.cells
def Qn (g:PG):AV:=.agg g.cells
def Xg (x:PI):AV:=.agg x.cells
def Qr (x:PE):AV:=.agg x.cells

section ops
variable (L:List PO)(hl:L.length≤maxLen)(p:PO→Bool)(c:Nat)(cap:AV)(m:Qp)

def IxO (k:Nat)(st:St):Prop :=
 ∃f i,st=⟨f,Qe :: m,[]⟩∧k=L.length-i∧XH p L 0=XH p (L.drop i) i∧f 0=.list (L.map Qt)∧f 1=.fn (.func c) [] [cap.sh]∧f 7=.int .i64 (L.length:Nat)∧f 8=.int .i64 (i:Nat)

include hl in
theorem QNH (hc:∀o∈L,Qh Tryz.prog c [Qt o,cap.sh] (Qe :: m) fun y m1=>y=.bool (p o)∧m1=Qe :: m) :
  Qh Tryz.prog 195 [.list (L.map Qt),.fn (.func c) [] [cap]] m fun y m1=>y=.int .i64 (XH p L 0)∧m1=m:=by
 refine PV.go (by simp) ?_;simp only[QVH,Qa,seval];refine Qd (IxO L p c cap m) _ ⟨_,0,rfl,rfl,rfl,(by rfl),(by rfl),(by rfl),(by rfl)⟩ ?_;rintro _ st ⟨f,i,rfl,rfl,hx,h0,h1,h7,h8⟩;simp only[h7,h8,Qa,seval];by_cases hlt:i<L.length
 ·obtain⟨x,hi⟩:∃x,L[i]? = some x:=⟨L[i],QUN hlt⟩;have hcl:=hc x (QUZ hi);have hg:(L.map Qt)[i]? = some (Qt x):=by simp[hi]
  have e1:=Qq i _ hlt hl;simp only[Qt,PO.cells]at hcl;simp only[Qm hlt,Qi,QWd,Qc,hg,Qt,PO.cells,h0,h1,h8,eE,seval];refine XJ (fa:=[]) (fb:=[cap.sh]) (by rfl) hcl (by simp only[QVi,QVN,QU9,QU8,Qa,seval]) ?_;rw[Jc p hi]at hx;cases hp:p x
  ·rw[hp]at hx;simp only[QU5,if_false]at hx;simp only[h8,e1,Qa,seval];exact⟨L.length-(i+1),by omega,_,i+1,rfl,rfl,hx,(by exact h0),(by exact h1),(by exact h7),(by rfl)⟩
  ·rw[hp]at hx;simp only[if_true]at hx;simp only[hx,Qa,seval]
 ·have hx':XH p L 0 = -1:=by rw[hx,QVn (by omega)];rfl
  simp only[QB hlt,hx',Qa,seval]

end ops

def Ge:PO:=⟨0,[],[],0,0,0,0,0⟩
def Gf (p:PO→Bool)(L:List PO):AV:=.tup [Qt ((L.find? p).getD Ge),.bool (L.find? p).isSome]

theorem QNI (g:PG)(hl:g.ops.length≤maxLen)(p:PO→Bool)(c:Nat)(cap:AV)(m:Qp)(hc:∀fr,∀o∈g.ops,Qh Tryz.prog c [Qt o,cap.sh.sh] (Qe :: fr :: m) fun y m1=>y=.bool (p o)∧m1=Qe :: fr :: m) :
  Qh Tryz.prog 117 [.agg [.fn (.func c) [] [cap]],Qn g] m fun y m1=>y=Gf p g.ops∧m1=m:=by
 refine Qcs.go (by simp) ?_;simp only[Qn,PG.cells,eE,seval];refine Qk (QNH g.ops hl p c cap.sh _ fun o ho=>hc _ o ho) (by simp only[QVi,QVN,Qa,seval];rfl) ?_;rcases Hl p g.ops 0 with⟨h1,h2⟩|⟨j,o,h1,h2,h3⟩
 ·simp only[h1,Gf,h2,QWk,QVB,Ge,Qt,PO.cells,splice,QVU,QU9,QVm,QVt,QV0,QVP,QU1,QVI,QVX,QVY,AV.leaf,eE,seval]
 ·have hj:(g.ops.map fun o=>AV.agg o.cells)[j]? = some (.agg o.cells):=by simp[h2]
  have d:decide ((j:Int)<0)=false:=QWx (by omega);rw[QVs]at h1;simp only[PO.cells]at hj;simp only[h1,d,Qi,QWd,Qc,QVs,hj,Gf,h3,QVW,QWy,Qt,PO.cells,splice,QVU,QU9,QVm,QVt,QV0,QVP,QU1,QVI,QVX,QVY,AV.leaf,eE,seval]

section
variable (o:PO)(fr frO:Nat→Ob)

theorem QNJ (n:Int)(hf:frO 3=.cells [.int .i64 n]):Qh Tryz.prog 116 [Qt o,.ptr 2 3 0] [Qe,fr,frO] fun y m1=>y=.bool (o.num==n)∧m1=[Qe,fr,frO]:=by
 refine Qck.go (by simp) ?_;simp only[hf,Qt,PO.cells,eE,seval]

end

theorem y72 (g:PG)(hl:g.ops.length≤maxLen)(n:Int):Qj Tryz.prog 72 [Qn g,.int .i64 n] (Gf (fun o=>o.num==n) g.ops):=by
 refine k72.fn (by simp) ?_;simp only[Qn,PG.cells,eE,seval];refine Qk (QNI g hl (fun o=>o.num==n) 116 (.ptr 0 3 0) _ fun fr o _=>QNJ o fr _ n (by rfl)) (by simp only[QVi,QVN,Qn,PG.cells,Qa,seval]) ?_;simp only[Gf,Qt,PO.cells,splice,QVU,QU9,QVm,QVt,QV0,QVP,QU1,QVI,QVX,QVY,AV.leaf,eE,seval]

def QC (p:Nat→Bool):Nat→Bool
 |0=>true
 |n+1=>QC p n&&p n

theorem QK {p:Nat→Bool}{n:Nat}:QC p n=true↔∀i,i<n→p i=true:=by
 induction n with
 |zero=>simp[QC]
 |succ n ih=>
  simp only[QC,QVa,ih]
  constructor
  ·rintro⟨h1,h2⟩ i hi;rcases Nat.lt_succ_iff_lt_or_eq.1 hi with h|rfl
   ·exact h1 i h
   ·exact h2
  ·intro h;exact⟨fun i hi=>h i (by omega),h n (by omega)⟩

theorem VE {p:Nat→Bool}{n i:Nat}(hi:i<n)(h:p i=false):QC p n=false:=by
 rw[QWz];intro h';rw[QK.1 h' i hi]at h;cases h

theorem Hm {p q:Nat→Bool}{n:Nat}:QC (fun i=>p i&&q i) n=(QC p n&&QC q n):=by
 induction n with
 |zero=>rfl
 |succ n ih=>
  simp only[QC,ih];cases QC p n<;>cases QC q n<;>cases p n<;>cases q n<;>rfl

def U5 {α:Type}(l:List α)(q:α→Bool)(i:Nat):Bool:=match l[i]? with
 |some x=>q x
 |none=>true

theorem W0 {α:Type}{l:List α}{q:α→Bool}{i:Nat}{x:α}(h:l[i]? = some x):U5 l q i=q x:=by
 unfold U5;rw[h]

theorem Hn {α:Type}(l:List α)(q:α→Bool):QC (U5 l q) l.length=l.all q:=by
 rw[QVG,QK,QUY]
 constructor
 ·intro h x hx;obtain⟨i,hi⟩:=QUX.1 hx;have:=h i (QUM.1 hi).1
  rwa [W0 hi]at this
 ·intro h i hi;rw[W0 (QUN hi)];exact h _ (QVE _)

def Xb {α:Type}(l:List α)(lt:α→α→Bool)(i:Nat):Bool:=match i with
 |0=>true
 |k+1=>match l[k]?,l[k+1]? with
  |some x,some y=>lt x y
  |_,_=>true

theorem Jd {α:Type}{l:List α}{lt:α→α→Bool}{k:Nat}{x y:α}(h:l[k]? = some x)(h':l[k+1]? = some y):Xb l lt (k+1)=lt x y:=by
 unfold Xb;simp only[h,h']
theorem Yj {α:Type}{l:List α}{lt:α→α→Bool}:Xb l lt 0=true:=rfl

def XQ {α:Type}(l:List α)(lt:α→α→Bool):Bool:=QC (Xb l lt) l.length

def uniq {α:Type}(l:List α)(nm:α→List UInt8)(i:Nat):Bool:=match l[i]? with
 |some x=>(l.take i).all fun y=>!(nm y==nm x)
 |none=>true
theorem Uy {α:Type}{l:List α}{nm:α→List UInt8}{i:Nat}{x:α}(h:l[i]? = some x):uniq l nm i=(l.take i).all fun y=>!(nm y==nm x):=by
 unfold uniq;rw[h]
def Ki {α:Type}(l:List α)(nm:α→List UInt8):Bool:=QC (uniq l nm) l.length

theorem Q2 {α:Type}{l:List α}{q:α→Bool}{i:Nat}{x:α}(h:l[i]? = some x):(l.take (i+1)).all q=((l.take i).all q&&q x):=by
 rw[QWu,h];simp
theorem P9 {α:Type}{l:List α}{q:α→Bool}{i:Nat}{x:α}(h:l[i]? = some x):(l.take (i+1)).any q=((l.take i).any q||q x):=by
 rw[QWu,h];simp
theorem G7 {α:Type}{l:List α}{q:α→Bool}:(l.all fun x=>!q x)=!l.any q:=by
 induction l with
 |nil=>rfl
 |cons x l ih=>simp[ih]

def Jz (c:UInt8):Bool:=(decide (97≤c.toNat)&&decide (c.toNat≤122))||(decide (65≤c.toNat)&&decide (c.toNat≤90))
def Z1 (c:UInt8):Bool:=Jz c||c.toNat==95||(decide (48≤c.toNat)&&decide (c.toNat≤57))
def QX:List UInt8→Bool
 | []=>false
 |c :: t=>decide ((c :: t).length≤40)&&Jz c&&t.all Z1
def Yk:List (List UInt8):=[[109,101,115,115,97,103,101],[101,110,117,109],[115,101,114,118,105,99,101],[117,110,105,111,110],[109,97,112],[108,105,115,116],[114,101,113,117,105,114,101,100],[111,112,116,105,111,110,97,108],[112,108,97,105,110],[100,101,102,97,117,108,116],[114,101,115,101,114,118,101,100],
 [105,109,112,111,114,116],[115,112,97,99,101],[114,112,99],[115,116,114,101,97,109],[114,101,116,117,114,110,115],[111,112,101,110],[116,114,117,101],[102,97,108,115,101],[110,97,110],[105,110,102]]
def Zb (s:List UInt8):Bool:=Yk.any fun w=>s==w
def XF (s:List UInt8):Bool:=QX s && !Zb s
def Qo:List UInt8→List (List UInt8)
 | []=>[[]]
 |c :: t=>if c=46 then [] :: Qo t else match Qo t with
  | []=>[[c]]
  |p :: ps=>(c :: p) :: ps
def J1 (s:List UInt8):Bool:=decide (s.length≤120)&&(Qo s).all QX && !(Qo s).any Zb

theorem Kj:∀s:List UInt8,Qo s≠[]
 | []=>by simp[Qo]
 |c :: t=>by
  unfold Qo;split
  ·simp
  ·split<;>simp

theorem DH (a:List UInt8):∀s:List UInt8,(∀c∈a,c≠46)→Qo (a++s)=match Qo s with
  | []=>[a]
  |p :: ps=>(a++p) :: ps:=by
 induction a with
 |nil=>intro s _;cases h:Qo s with
  |nil=>exact absurd h (Kj s)
  |cons p ps=>simp[h]
 |cons c a ih=>
  intro s h;have hc:c≠46:=h c (by simp);rw[QU8,Qo,QU0 hc,ih s fun x hx=>h x (by simp[hx])];cases hs:Qo s with
  |nil=>exact absurd hs (Kj s)
  |cons p ps=>rfl

theorem WG {s:List UInt8}(h:∀c∈s,c≠46):Qo s=[s]:=by
 have:=DH s [] h
 simpa [Qo]using this

theorem Gg {a t:List UInt8}(h:∀c∈a,c≠46):Qo (a++46 :: t)=a :: Qo t:=by
 rw[DH a _ h,Qo,QVf rfl];simp

theorem Gi {a t:List UInt8}(h:∀c∈t,c≠46):Qo (a++46 :: t)=Qo a++[t]:=by
 induction a with
 |nil=>
  show Qo (46 :: t)=[[]]++[t];rw[show Qo (46 :: t)=[] :: Qo t from by rw[Qo,QVf rfl],WG h];rfl
 |cons c a ih=>
  rw[QU8,Qo,Qo,ih];split
  ·rfl
  ·cases hs:Qo a with
   |nil=>exact absurd hs (Kj a)
   |cons p ps=>rfl

theorem Y4 (s:List UInt8):(Qo s).length=s.count 46+1:=by
 induction s with
 |nil=>rfl
 |cons c t ih=>
  unfold Qo;split
  ·rename_i h;subst h;simp[ih]
  ·rename_i h;rw[List.count_cons_of_ne (by simpa using h)];cases hs:Qo t with
   |nil=>exact absurd hs (Kj t)
   |cons p ps=>rw[hs]at ih;simpa using ih

def ZX (g:PG):Bool:=decide (g.ops.length≤64)
def Jt (e:PE):Bool:=decide (1≤e.items.length)&&decide (e.items.length≤64)&&decide (e.free.length≤16)
def U6 (P:PL):Bool:=decide (P.progs.length≤64)&&decide (P.enums.length≤64)&&P.progs.all ZX&&P.enums.all Jt
def Kk (g:PG):Bool:=J1 g.name&&g.ops.all fun o=>XF o.name
def KL (e:PE):Bool:=J1 e.name&&e.items.all fun o=>XF o.name
def F1 (P:PL):Bool:=P.progs.all Kk&&P.enums.all KL
def X6 {α:Type}(f:α→Int)(x y:α):Bool:=decide (f x<f y)
def XG {α:Type}(f:α→List UInt8)(x y:α):Bool:=Op.bytesLess (f x) (f y)
def Je (g:PG):Bool:=XQ g.ops (X6 PO.num)
def JG (e:PE):Bool:=XQ e.items (X6 PI.num)
def U7 (P:PL):Bool:=XQ P.progs (XG PG.name)&&XQ P.enums (XG PE.name)&&P.progs.all Je&&P.enums.all JG
def Km (P:PL)(g:PG):Bool:=(P.enums.all fun e=>!(e.name==g.name))&&Ki g.ops PO.name
def Wi (e:PE):Bool:=Ki e.items PI.name
def F2 (P:PL):Bool:=P.progs.all (Km P)&&P.enums.all Wi
def Zj (o:PO):Bool:=decide (o.num≥1)&&decide (o.num≤65535)
def Gj (x:PS):Bool:=decide (x.lo≥0)&&decide (x.hi≤2147483647)&&decide (x.lo≤x.hi)
def YN (x y:PS):Bool:=decide (y.lo > x.hi)
def kept (l:List PS)(n:Int):Bool:=l.any fun x=>decide (x.lo≤n)&&decide (n≤x.hi)
def WR (e:PE)(x:PI):Bool:=decide (x.num≤2147483647) && !kept e.free x.num
def Y5 (e:PE):Bool:=match e.items with
 | []=>true
 |x :: _=>x.num==0
def Jf (e:PE):Bool:=e.free.all Gj&&XQ e.free YN&&Y5 e&&e.items.all (WR e)
def F3 (P:PL):Bool:=P.progs.all (fun g=>g.ops.all Zj)&&P.enums.all Jf

def X0 (x:PS):AV:=.agg x.cells
def Zh (x:List UInt8):AV:=.str x

theorem JH {α:Type}(p:α→Bool)(l:List α):decide (XH p l 0≥0)=l.any p:=by
 rcases Hl p l 0 with⟨h1,h2⟩|⟨k,o,h1,_,h3⟩
 ·rw[h1];have:l.any p=false:=by
   rw[List.any_eq_false];intro x hx;exact fun h=>by have:=List.find?_eq_none.1 h2 x hx;exact this h
  rw[this];rfl
 ·rw[h1];have:l.any p=true:=QWA.2 ⟨o,QWB h3,List.find?_some h3⟩;rw[this];exact QWC (by omega)

theorem Wj (k n:Nat)(h:k+1<n)(hn:n≤maxLen):IntKind.i64.wrap (((k+1:Nat):Int)-1)=(k:Int):=by
 rw[QG];simp only[maxLen]at hn;omega

section
variable (L:List PG)(hl:L.length≤maxLen)(p:PG→Bool)(c:Nat)(cs:List AV)(m:Qp)

def JxG (k:Nat)(st:St):Prop :=
 ∃f i,st=⟨f,Qe :: m,[]⟩∧k=L.length-i∧XH p L 0=XH p (L.drop i) i∧f 0=.list (L.map Qn)∧f 1=.fn (.func c) [] (AV.shL cs)∧f 7=.int .i64 (L.length:Nat)∧f 8=.int .i64 (i:Nat)

include hl in
theorem z52 (hc:∀o∈L,Qh Tryz.prog c (Qn o :: AV.shL cs) (Qe :: m) fun y m1=>y=.bool (p o)∧m1=Qe :: m) :
  Qh Tryz.prog 52 [.list (L.map Qn),.fn (.func c) [] cs] m fun y m1=>y=.int .i64 (XH p L 0)∧m1=m:=by
 refine k52.go (by simp) ?_;simp only[QVH,Qa,seval];refine Qd (JxG L p c cs m) _ ⟨_,0,rfl,rfl,rfl,(by rfl),(by rfl),(by rfl),(by rfl)⟩ ?_;rintro _ st ⟨f,i,rfl,rfl,hx,h0,h1,h7,h8⟩;simp only[h7,h8,Qa,seval];by_cases hlt:i<L.length
 ·obtain⟨x,hi⟩:∃x,L[i]? = some x:=⟨L[i],QUN hlt⟩;have hcl:=hc x (QUZ hi);have hg:(L.map Qn)[i]? = some (Qn x):=by simp[hi]
  have e1:=Qq i _ hlt hl;simp only[Qn,PG.cells]at hcl;simp only[Qm hlt,Qi,QWd,Qc,hg,Qn,PG.cells,h0,h1,h8,eE,seval];refine XJ (fa:=[]) (fb:=AV.shL cs) (by rfl) hcl (by simp only[QVi,QVN,QU9,QU8,Qa,seval]) ?_;rw[Jc p hi]at hx;cases hp:p x
  ·rw[hp]at hx;simp only[QU5,if_false]at hx;simp only[h8,e1,Qa,seval];exact⟨L.length-(i+1),by omega,_,i+1,rfl,rfl,hx,(by exact h0),(by exact h1),(by exact h7),(by rfl)⟩
  ·rw[hp]at hx;simp only[if_true]at hx;simp only[hx,Qa,seval]
 ·have hx':XH p L 0 = -1:=by rw[hx,QVn (by omega)];rfl
  simp only[QB hlt,hx',Qa,seval]

include hl in
theorem QNK (hc:∀o∈L,Qh Tryz.prog c (Qn o :: AV.shL (AV.shL cs)) (Qe :: Qe :: m) fun y m1=>y=.bool (p o)∧m1=Qe :: Qe :: m) :
  Qh Tryz.prog 203 [.list (L.map Qn),.fn (.func c) [] cs] m fun y m1=>y=.bool (L.any p)∧m1=m:=by
 refine Qhs.go (by simp) ?_;simp only[Qa,seval];refine Qk (z52 L hl p c (AV.shL cs) _ hc) (by simp only[QVi,QVN,Qa,seval]<;>rfl) ?_;simp only[JH,Qa,seval]

include hl in
theorem G8 (hc:∀o∈L,Qh Tryz.prog c (Qn o :: AV.shL (AV.shL (AV.shL cs))) (Qe :: Qe :: Qe :: m) fun y m1=>y=.bool (p o)∧m1=Qe :: Qe :: Qe :: m) :
  Qh Tryz.prog 133 [.list (L.map Qn),.fn (.func c) [] cs] m fun y m1=>y=.bool (L.any p)∧m1=m:=by
 refine QcV.go (by simp) ?_;simp only[Qa,seval];refine Qk (QNK L hl p c (AV.shL cs) _ hc) (by simp only[QVi,QVN,Qa,seval]<;>rfl) ?_;simp only[Qa,seval]

end

section
variable (L:List PO)(hl:L.length≤maxLen)(p:PO→Bool)(c:Nat)(cs:List AV)(m:Qp)

def JxO (k:Nat)(st:St):Prop :=
 ∃f i,st=⟨f,Qe :: m,[]⟩∧k=L.length-i∧XH p L 0=XH p (L.drop i) i∧f 0=.list (L.map Qt)∧f 1=.fn (.func c) [] (AV.shL cs)∧f 7=.int .i64 (L.length:Nat)∧f 8=.int .i64 (i:Nat)

include hl in
theorem QNL (hc:∀o∈L,Qh Tryz.prog c (Qt o :: AV.shL cs) (Qe :: m) fun y m1=>y=.bool (p o)∧m1=Qe :: m) :
  Qh Tryz.prog 195 [.list (L.map Qt),.fn (.func c) [] cs] m fun y m1=>y=.int .i64 (XH p L 0)∧m1=m:=by
 refine PV.go (by simp) ?_;simp only[QVH,Qa,seval];refine Qd (JxO L p c cs m) _ ⟨_,0,rfl,rfl,rfl,(by rfl),(by rfl),(by rfl),(by rfl)⟩ ?_;rintro _ st ⟨f,i,rfl,rfl,hx,h0,h1,h7,h8⟩;simp only[h7,h8,Qa,seval];by_cases hlt:i<L.length
 ·obtain⟨x,hi⟩:∃x,L[i]? = some x:=⟨L[i],QUN hlt⟩;have hcl:=hc x (QUZ hi);have hg:(L.map Qt)[i]? = some (Qt x):=by simp[hi]
  have e1:=Qq i _ hlt hl;simp only[Qt,PO.cells]at hcl;simp only[Qm hlt,Qi,QWd,Qc,hg,Qt,PO.cells,h0,h1,h8,eE,seval];refine XJ (fa:=[]) (fb:=AV.shL cs) (by rfl) hcl (by simp only[QVi,QVN,QU9,QU8,Qa,seval]) ?_;rw[Jc p hi]at hx;cases hp:p x
  ·rw[hp]at hx;simp only[QU5,if_false]at hx;simp only[h8,e1,Qa,seval];exact⟨L.length-(i+1),by omega,_,i+1,rfl,rfl,hx,(by exact h0),(by exact h1),(by exact h7),(by rfl)⟩
  ·rw[hp]at hx;simp only[if_true]at hx;simp only[hx,Qa,seval]
 ·have hx':XH p L 0 = -1:=by rw[hx,QVn (by omega)];rfl
  simp only[QB hlt,hx',Qa,seval]

include hl in
theorem QNM (hc:∀o∈L,Qh Tryz.prog c (Qt o :: AV.shL (AV.shL cs)) (Qe :: Qe :: m) fun y m1=>y=.bool (p o)∧m1=Qe :: Qe :: m) :
  Qh Tryz.prog 209 [.list (L.map Qt),.fn (.func c) [] cs] m fun y m1=>y=.bool (L.any p)∧m1=m:=by
 refine Qia.go (by simp) ?_;simp only[Qa,seval];refine Qk (QNL L hl p c (AV.shL cs) _ hc) (by simp only[QVi,QVN,Qa,seval]<;>rfl) ?_;simp only[JH,Qa,seval]

include hl in
theorem F4 (hc:∀o∈L,Qh Tryz.prog c (Qt o :: AV.shL (AV.shL (AV.shL cs))) (Qe :: Qe :: Qe :: m) fun y m1=>y=.bool (p o)∧m1=Qe :: Qe :: Qe :: m) :
  Qh Tryz.prog 139 [.list (L.map Qt),.fn (.func c) [] cs] m fun y m1=>y=.bool (L.any p)∧m1=m:=by
 refine Qdk.go (by simp) ?_;simp only[Qa,seval];refine Qk (QNM L hl p c (AV.shL cs) _ hc) (by simp only[QVi,QVN,Qa,seval]<;>rfl) ?_;simp only[Qa,seval]

end

section
variable (L:List PE)(hl:L.length≤maxLen)(p:PE→Bool)(c:Nat)(cs:List AV)(m:Qp)

def JxE (k:Nat)(st:St):Prop :=
 ∃f i,st=⟨f,Qe :: m,[]⟩∧k=L.length-i∧XH p L 0=XH p (L.drop i) i∧f 0=.list (L.map Qr)∧f 1=.fn (.func c) [] (AV.shL cs)∧f 7=.int .i64 (L.length:Nat)∧f 8=.int .i64 (i:Nat)

include hl in
theorem QNN (hc:∀o∈L,Qh Tryz.prog c (Qr o :: AV.shL cs) (Qe :: m) fun y m1=>y=.bool (p o)∧m1=Qe :: m) :
  Qh Tryz.prog 241 [.list (L.map Qr),.fn (.func c) [] cs] m fun y m1=>y=.int .i64 (XH p L 0)∧m1=m:=by
 refine QjK.go (by simp) ?_;simp only[QVH,Qa,seval];refine Qd (JxE L p c cs m) _ ⟨_,0,rfl,rfl,rfl,(by rfl),(by rfl),(by rfl),(by rfl)⟩ ?_;rintro _ st ⟨f,i,rfl,rfl,hx,h0,h1,h7,h8⟩;simp only[h7,h8,Qa,seval];by_cases hlt:i<L.length
 ·obtain⟨x,hi⟩:∃x,L[i]? = some x:=⟨L[i],QUN hlt⟩;have hcl:=hc x (QUZ hi);have hg:(L.map Qr)[i]? = some (Qr x):=by simp[hi]
  have e1:=Qq i _ hlt hl;simp only[Qr,PE.cells]at hcl;simp only[Qm hlt,Qi,QWd,Qc,hg,Qr,PE.cells,h0,h1,h8,eE,seval];refine XJ (fa:=[]) (fb:=AV.shL cs) (by rfl) hcl (by simp only[QVi,QVN,QU9,QU8,Qa,seval]) ?_;rw[Jc p hi]at hx;cases hp:p x
  ·rw[hp]at hx;simp only[QU5,if_false]at hx;simp only[h8,e1,Qa,seval];exact⟨L.length-(i+1),by omega,_,i+1,rfl,rfl,hx,(by exact h0),(by exact h1),(by exact h7),(by rfl)⟩
  ·rw[hp]at hx;simp only[if_true]at hx;simp only[hx,Qa,seval]
 ·have hx':XH p L 0 = -1:=by rw[hx,QVn (by omega)];rfl
  simp only[QB hlt,hx',Qa,seval]

include hl in
theorem QNO (hc:∀o∈L,Qh Tryz.prog c (Qr o :: AV.shL (AV.shL cs)) (Qe :: Qe :: m) fun y m1=>y=.bool (p o)∧m1=Qe :: Qe :: m) :
  Qh Tryz.prog 204 [.list (L.map Qr),.fn (.func c) [] cs] m fun y m1=>y=.bool (L.any p)∧m1=m:=by
 refine Qhx.go (by simp) ?_;simp only[Qa,seval];refine Qk (QNN L hl p c (AV.shL cs) _ hc) (by simp only[QVi,QVN,Qa,seval]<;>rfl) ?_;simp only[JH,Qa,seval]

include hl in
theorem Ho (hc:∀o∈L,Qh Tryz.prog c (Qr o :: AV.shL (AV.shL (AV.shL cs))) (Qe :: Qe :: Qe :: m) fun y m1=>y=.bool (p o)∧m1=Qe :: Qe :: Qe :: m) :
  Qh Tryz.prog 135 [.list (L.map Qr),.fn (.func c) [] cs] m fun y m1=>y=.bool (L.any p)∧m1=m:=by
 refine Qc5.go (by simp) ?_;simp only[Qa,seval];refine Qk (QNO L hl p c (AV.shL cs) _ hc) (by simp only[QVi,QVN,Qa,seval]<;>rfl) ?_;simp only[Qa,seval]

end

section
variable (L:List PI)(hl:L.length≤maxLen)(p:PI→Bool)(c:Nat)(cs:List AV)(m:Qp)

def JxI (k:Nat)(st:St):Prop :=
 ∃f i,st=⟨f,Qe :: m,[]⟩∧k=L.length-i∧XH p L 0=XH p (L.drop i) i∧f 0=.list (L.map Xg)∧f 1=.fn (.func c) [] (AV.shL cs)∧f 7=.int .i64 (L.length:Nat)∧f 8=.int .i64 (i:Nat)

include hl in
theorem QNP (hc:∀o∈L,Qh Tryz.prog c (Xg o :: AV.shL cs) (Qe :: m) fun y m1=>y=.bool (p o)∧m1=Qe :: m) :
  Qh Tryz.prog 245 [.list (L.map Xg),.fn (.func c) [] cs] m fun y m1=>y=.int .i64 (XH p L 0)∧m1=m:=by
 refine QMM.go (by simp) ?_;simp only[QVH,Qa,seval];refine Qd (JxI L p c cs m) _ ⟨_,0,rfl,rfl,rfl,(by rfl),(by rfl),(by rfl),(by rfl)⟩ ?_;rintro _ st ⟨f,i,rfl,rfl,hx,h0,h1,h7,h8⟩;simp only[h7,h8,Qa,seval];by_cases hlt:i<L.length
 ·obtain⟨x,hi⟩:∃x,L[i]? = some x:=⟨L[i],QUN hlt⟩;have hcl:=hc x (QUZ hi);have hg:(L.map Xg)[i]? = some (Xg x):=by simp[hi]
  have e1:=Qq i _ hlt hl;simp only[Xg,PI.cells]at hcl;simp only[Qm hlt,Qi,QWd,Qc,hg,Xg,PI.cells,h0,h1,h8,eE,seval];refine XJ (fa:=[]) (fb:=AV.shL cs) (by rfl) hcl (by simp only[QVi,QVN,QU9,QU8,Qa,seval]) ?_;rw[Jc p hi]at hx;cases hp:p x
  ·rw[hp]at hx;simp only[QU5,if_false]at hx;simp only[h8,e1,Qa,seval];exact⟨L.length-(i+1),by omega,_,i+1,rfl,rfl,hx,(by exact h0),(by exact h1),(by exact h7),(by rfl)⟩
  ·rw[hp]at hx;simp only[if_true]at hx;simp only[hx,Qa,seval]
 ·have hx':XH p L 0 = -1:=by rw[hx,QVn (by omega)];rfl
  simp only[QB hlt,hx',Qa,seval]

include hl in
theorem QNQ (hc:∀o∈L,Qh Tryz.prog c (Xg o :: AV.shL (AV.shL cs)) (Qe :: Qe :: m) fun y m1=>y=.bool (p o)∧m1=Qe :: Qe :: m) :
  Qh Tryz.prog 211 [.list (L.map Xg),.fn (.func c) [] cs] m fun y m1=>y=.bool (L.any p)∧m1=m:=by
 refine QMg.go (by simp) ?_;simp only[Qa,seval];refine Qk (QNP L hl p c (AV.shL cs) _ hc) (by simp only[QVi,QVN,Qa,seval]<;>rfl) ?_;simp only[JH,Qa,seval]

include hl in
theorem VF (hc:∀o∈L,Qh Tryz.prog c (Xg o :: AV.shL (AV.shL (AV.shL cs))) (Qe :: Qe :: Qe :: m) fun y m1=>y=.bool (p o)∧m1=Qe :: Qe :: Qe :: m) :
  Qh Tryz.prog 143 [.list (L.map Xg),.fn (.func c) [] cs] m fun y m1=>y=.bool (L.any p)∧m1=m:=by
 refine QK4.go (by simp) ?_;simp only[Qa,seval];refine Qk (QNQ L hl p c (AV.shL cs) _ hc) (by simp only[QVi,QVN,Qa,seval]<;>rfl) ?_;simp only[Qa,seval]

end

section
variable (L:List PS)(hl:L.length≤maxLen)(p:PS→Bool)(c:Nat)(cs:List AV)(m:Qp)

def JxS (k:Nat)(st:St):Prop :=
 ∃f i,st=⟨f,Qe :: m,[]⟩∧k=L.length-i∧XH p L 0=XH p (L.drop i) i∧f 0=.list (L.map X0)∧f 1=.fn (.func c) [] (AV.shL cs)∧f 7=.int .i64 (L.length:Nat)∧f 8=.int .i64 (i:Nat)

include hl in
theorem QNR (hc:∀o∈L,Qh Tryz.prog c (X0 o :: AV.shL cs) (Qe :: m) fun y m1=>y=.bool (p o)∧m1=Qe :: m) :
  Qh Tryz.prog 276 [.list (L.map X0),.fn (.func c) [] cs] m fun y m1=>y=.int .i64 (XH p L 0)∧m1=m:=by
 refine QNh.go (by simp) ?_;simp only[QVH,Qa,seval];refine Qd (JxS L p c cs m) _ ⟨_,0,rfl,rfl,rfl,(by rfl),(by rfl),(by rfl),(by rfl)⟩ ?_;rintro _ st ⟨f,i,rfl,rfl,hx,h0,h1,h7,h8⟩;simp only[h7,h8,Qa,seval];by_cases hlt:i<L.length
 ·obtain⟨x,hi⟩:∃x,L[i]? = some x:=⟨L[i],QUN hlt⟩;have hcl:=hc x (QUZ hi);have hg:(L.map X0)[i]? = some (X0 x):=by simp[hi]
  have e1:=Qq i _ hlt hl;simp only[X0,PS.cells]at hcl;simp only[Qm hlt,Qi,QWd,Qc,hg,X0,PS.cells,h0,h1,h8,eE,seval];refine XJ (fa:=[]) (fb:=AV.shL cs) (by rfl) hcl (by simp only[QVi,QVN,QU9,QU8,Qa,seval]) ?_;rw[Jc p hi]at hx;cases hp:p x
  ·rw[hp]at hx;simp only[QU5,if_false]at hx;simp only[h8,e1,Qa,seval];exact⟨L.length-(i+1),by omega,_,i+1,rfl,rfl,hx,(by exact h0),(by exact h1),(by exact h7),(by rfl)⟩
  ·rw[hp]at hx;simp only[if_true]at hx;simp only[hx,Qa,seval]
 ·have hx':XH p L 0 = -1:=by rw[hx,QVn (by omega)];rfl
  simp only[QB hlt,hx',Qa,seval]

include hl in
theorem QNS (hc:∀o∈L,Qh Tryz.prog c (X0 o :: AV.shL (AV.shL cs)) (Qe :: Qe :: m) fun y m1=>y=.bool (p o)∧m1=Qe :: Qe :: m) :
  Qh Tryz.prog 246 [.list (L.map X0),.fn (.func c) [] cs] m fun y m1=>y=.bool (L.any p)∧m1=m:=by
 refine QMP.go (by simp) ?_;simp only[Qa,seval];refine Qk (QNR L hl p c (AV.shL cs) _ hc) (by simp only[QVi,QVN,Qa,seval]<;>rfl) ?_;simp only[JH,Qa,seval]

end

section
variable (L:List (List UInt8))(hl:L.length≤maxLen)(p:(List UInt8)→Bool)(c:Nat)(cs:List AV)(m:Qp)

def JxR (k:Nat)(st:St):Prop :=
 ∃f i,st=⟨f,Qe :: m,[]⟩∧k=L.length-i∧XH p L 0=XH p (L.drop i) i∧f 0=.list (L.map Zh)∧f 1=.fn (.func c) [] (AV.shL cs)∧f 7=.int .i64 (L.length:Nat)∧f 8=.int .i64 (i:Nat)

include hl in
theorem QNT (hc:∀o∈L,Qh Tryz.prog c (Zh o :: AV.shL cs) (Qe :: m) fun y m1=>y=.bool (p o)∧m1=Qe :: m) :
  Qh Tryz.prog 242 [.list (L.map Zh),.fn (.func c) [] cs] m fun y m1=>y=.int .i64 (XH p L 0)∧m1=m:=by
 refine QjW.go (by simp) ?_;simp only[QVH,Qa,seval];refine Qd (JxR L p c cs m) _ ⟨_,0,rfl,rfl,rfl,(by rfl),(by rfl),(by rfl),(by rfl)⟩ ?_;rintro _ st ⟨f,i,rfl,rfl,hx,h0,h1,h7,h8⟩;simp only[h7,h8,Qa,seval];by_cases hlt:i<L.length
 ·obtain⟨x,hi⟩:∃x,L[i]? = some x:=⟨L[i],QUN hlt⟩;have hcl:=hc x (QUZ hi);have hg:(L.map Zh)[i]? = some (Zh x):=by simp[hi]
  have e1:=Qq i _ hlt hl;simp only[Zh]at hcl;simp only[Qm hlt,Qi,QWd,Qc,hg,Zh,h0,h1,h8,eE,seval];refine XJ (fa:=[]) (fb:=AV.shL cs) (by rfl) hcl (by simp only[QVi,QVN,QU9,QU8,Qa,seval]) ?_;rw[Jc p hi]at hx;cases hp:p x
  ·rw[hp]at hx;simp only[QU5,if_false]at hx;simp only[h8,e1,Qa,seval];exact⟨L.length-(i+1),by omega,_,i+1,rfl,rfl,hx,(by exact h0),(by exact h1),(by exact h7),(by rfl)⟩
  ·rw[hp]at hx;simp only[if_true]at hx;simp only[hx,Qa,seval]
 ·have hx':XH p L 0 = -1:=by rw[hx,QVn (by omega)];rfl
  simp only[QB hlt,hx',Qa,seval]

include hl in
theorem QNU (hc:∀o∈L,Qh Tryz.prog c (Zh o :: AV.shL (AV.shL cs)) (Qe :: Qe :: m) fun y m1=>y=.bool (p o)∧m1=Qe :: Qe :: m) :
  Qh Tryz.prog 206 [.list (L.map Zh),.fn (.func c) [] cs] m fun y m1=>y=.bool (L.any p)∧m1=m:=by
 refine QhO.go (by simp) ?_;simp only[Qa,seval];refine Qk (QNT L hl p c (AV.shL cs) _ hc) (by simp only[QVi,QVN,Qa,seval]<;>rfl) ?_;simp only[JH,Qa,seval]

end

section
variable (L:List PG)(hl:L.length≤maxLen)(lt:PG→PG→Bool)(c:Nat)(cs:List AV)(m:Qp)

def AxG (k:Nat)(st:St):Prop :=
 ∃f i,st=⟨f,Qe :: m,[]⟩∧k=L.length-(i+1)∧QC (Xb L lt) (i+1)=true∧f 0=.list (L.map Qn)∧f 1=.fn (.func c) [] (AV.shL cs)∧f 5=.int .i64 ((i+1:Nat):Int)

include hl in
theorem QNV (hc:∀x∈L,∀y∈L,Qh Tryz.prog c (Qn x :: Qn y :: AV.shL cs) (Qe :: m) fun r m1=>r=.bool (lt x y)∧m1=Qe :: m) :
  Qh Tryz.prog 145 [.list (L.map Qn),.fn (.func c) [] cs] m fun y m1=>y=.bool (XQ L lt)∧m1=m:=by
 refine QdF.go (by simp) ?_;simp only[Qa,seval];refine Qd (AxG L lt c cs m) _ ⟨_,0,rfl,rfl,rfl,(by rfl),(by rfl),(by rfl)⟩ ?_;rintro _ st ⟨f,i,rfl,rfl,hx,h0,h1,h5⟩;simp only[QVH,h0,h5,Qa,seval];by_cases hlt:i+1<L.length
 ·obtain⟨x,hi⟩:∃x,L[i]? = some x:=⟨L[i]'(by omega),QUN (by omega)⟩;obtain⟨y,hj⟩:∃y,L[i+1]? = some y:=⟨L[i+1],QUN hlt⟩;have hcl:=hc x (QUZ hi) y (QUZ hj);have hg:(L.map Qn)[i]? = some (Qn x):=by simp[hi]
  have hh:(L.map Qn)[i+1]? = some (Qn y):=by simp[hj]
  have e1:=Qq (i+1) _ hlt hl;have e2:=Wj i _ hlt hl;simp only[Qn,PG.cells]at hcl;simp only[Qm hlt,e2,Qi,QWd,Qc,hg,hh,Qn,PG.cells,h0,h1,h5,eE,seval];refine XJ (fa:=[]) (fb:=AV.shL cs) (by rfl) hcl (by simp only[QVi,QVN,QU9,QU8,Qa,seval]) ?_;have hs:QC (Xb L lt) (i+2)=lt x y:=by
   show(QC (Xb L lt) (i+1)&&Xb L lt (i+1))=_;rw[hx,Jd hi hj,QWn]
  cases hp:lt x y
  ·rw[hp]at hs;have hf:XQ L lt=false:=by
    rw[QWz];intro h';rw[QK.2 fun k hk=>QK.1 h' k (by omega)]at hs;cases hs
   simp only[hf,Qa,seval]
  ·rw[hp]at hs;simp only[h5,e1,Qa,seval];exact⟨L.length-(i+2),by omega,_,i+1,rfl,rfl,hs,(by exact h0),(by exact h1),(by rfl)⟩
 ·have hf:XQ L lt=true:=QK.2 fun k hk=>QK.1 hx k (by omega)
  simp only[QB hlt,hf,Qa,seval]

end

section
variable (L:List PO)(hl:L.length≤maxLen)(lt:PO→PO→Bool)(c:Nat)(cs:List AV)(m:Qp)

def AxO (k:Nat)(st:St):Prop :=
 ∃f i,st=⟨f,Qe :: m,[]⟩∧k=L.length-(i+1)∧QC (Xb L lt) (i+1)=true∧f 0=.list (L.map Qt)∧f 1=.fn (.func c) [] (AV.shL cs)∧f 5=.int .i64 ((i+1:Nat):Int)

include hl in
theorem QNW (hc:∀x∈L,∀y∈L,Qh Tryz.prog c (Qt x :: Qt y :: AV.shL cs) (Qe :: m) fun r m1=>r=.bool (lt x y)∧m1=Qe :: m) :
  Qh Tryz.prog 150 [.list (L.map Qt),.fn (.func c) [] cs] m fun y m1=>y=.bool (XQ L lt)∧m1=m:=by
 refine Qd6.go (by simp) ?_;simp only[Qa,seval];refine Qd (AxO L lt c cs m) _ ⟨_,0,rfl,rfl,rfl,(by rfl),(by rfl),(by rfl)⟩ ?_;rintro _ st ⟨f,i,rfl,rfl,hx,h0,h1,h5⟩;simp only[QVH,h0,h5,Qa,seval];by_cases hlt:i+1<L.length
 ·obtain⟨x,hi⟩:∃x,L[i]? = some x:=⟨L[i]'(by omega),QUN (by omega)⟩;obtain⟨y,hj⟩:∃y,L[i+1]? = some y:=⟨L[i+1],QUN hlt⟩;have hcl:=hc x (QUZ hi) y (QUZ hj);have hg:(L.map Qt)[i]? = some (Qt x):=by simp[hi]
  have hh:(L.map Qt)[i+1]? = some (Qt y):=by simp[hj]
  have e1:=Qq (i+1) _ hlt hl;have e2:=Wj i _ hlt hl;simp only[Qt,PO.cells]at hcl;simp only[Qm hlt,e2,Qi,QWd,Qc,hg,hh,Qt,PO.cells,h0,h1,h5,eE,seval];refine XJ (fa:=[]) (fb:=AV.shL cs) (by rfl) hcl (by simp only[QVi,QVN,QU9,QU8,Qa,seval]) ?_;have hs:QC (Xb L lt) (i+2)=lt x y:=by
   show(QC (Xb L lt) (i+1)&&Xb L lt (i+1))=_;rw[hx,Jd hi hj,QWn]
  cases hp:lt x y
  ·rw[hp]at hs;have hf:XQ L lt=false:=by
    rw[QWz];intro h';rw[QK.2 fun k hk=>QK.1 h' k (by omega)]at hs;cases hs
   simp only[hf,Qa,seval]
  ·rw[hp]at hs;simp only[h5,e1,Qa,seval];exact⟨L.length-(i+2),by omega,_,i+1,rfl,rfl,hs,(by exact h0),(by exact h1),(by rfl)⟩
 ·have hf:XQ L lt=true:=QK.2 fun k hk=>QK.1 hx k (by omega)
  simp only[QB hlt,hf,Qa,seval]

end

section
variable (L:List PE)(hl:L.length≤maxLen)(lt:PE→PE→Bool)(c:Nat)(cs:List AV)(m:Qp)

def AxE (k:Nat)(st:St):Prop :=
 ∃f i,st=⟨f,Qe :: m,[]⟩∧k=L.length-(i+1)∧QC (Xb L lt) (i+1)=true∧f 0=.list (L.map Qr)∧f 1=.fn (.func c) [] (AV.shL cs)∧f 5=.int .i64 ((i+1:Nat):Int)

include hl in
theorem QNX (hc:∀x∈L,∀y∈L,Qh Tryz.prog c (Qr x :: Qr y :: AV.shL cs) (Qe :: m) fun r m1=>r=.bool (lt x y)∧m1=Qe :: m) :
  Qh Tryz.prog 147 [.list (L.map Qr),.fn (.func c) [] cs] m fun y m1=>y=.bool (XQ L lt)∧m1=m:=by
 refine QdQ.go (by simp) ?_;simp only[Qa,seval];refine Qd (AxE L lt c cs m) _ ⟨_,0,rfl,rfl,rfl,(by rfl),(by rfl),(by rfl)⟩ ?_;rintro _ st ⟨f,i,rfl,rfl,hx,h0,h1,h5⟩;simp only[QVH,h0,h5,Qa,seval];by_cases hlt:i+1<L.length
 ·obtain⟨x,hi⟩:∃x,L[i]? = some x:=⟨L[i]'(by omega),QUN (by omega)⟩;obtain⟨y,hj⟩:∃y,L[i+1]? = some y:=⟨L[i+1],QUN hlt⟩;have hcl:=hc x (QUZ hi) y (QUZ hj);have hg:(L.map Qr)[i]? = some (Qr x):=by simp[hi]
  have hh:(L.map Qr)[i+1]? = some (Qr y):=by simp[hj]
  have e1:=Qq (i+1) _ hlt hl;have e2:=Wj i _ hlt hl;simp only[Qr,PE.cells]at hcl;simp only[Qm hlt,e2,Qi,QWd,Qc,hg,hh,Qr,PE.cells,h0,h1,h5,eE,seval];refine XJ (fa:=[]) (fb:=AV.shL cs) (by rfl) hcl (by simp only[QVi,QVN,QU9,QU8,Qa,seval]) ?_;have hs:QC (Xb L lt) (i+2)=lt x y:=by
   show(QC (Xb L lt) (i+1)&&Xb L lt (i+1))=_;rw[hx,Jd hi hj,QWn]
  cases hp:lt x y
  ·rw[hp]at hs;have hf:XQ L lt=false:=by
    rw[QWz];intro h';rw[QK.2 fun k hk=>QK.1 h' k (by omega)]at hs;cases hs
   simp only[hf,Qa,seval]
  ·rw[hp]at hs;simp only[h5,e1,Qa,seval];exact⟨L.length-(i+2),by omega,_,i+1,rfl,rfl,hs,(by exact h0),(by exact h1),(by rfl)⟩
 ·have hf:XQ L lt=true:=QK.2 fun k hk=>QK.1 hx k (by omega)
  simp only[QB hlt,hf,Qa,seval]

end

section
variable (L:List PI)(hl:L.length≤maxLen)(lt:PI→PI→Bool)(c:Nat)(cs:List AV)(m:Qp)

def AxI (k:Nat)(st:St):Prop :=
 ∃f i,st=⟨f,Qe :: m,[]⟩∧k=L.length-(i+1)∧QC (Xb L lt) (i+1)=true∧f 0=.list (L.map Xg)∧f 1=.fn (.func c) [] (AV.shL cs)∧f 5=.int .i64 ((i+1:Nat):Int)

include hl in
theorem QNY (hc:∀x∈L,∀y∈L,Qh Tryz.prog c (Xg x :: Xg y :: AV.shL cs) (Qe :: m) fun r m1=>r=.bool (lt x y)∧m1=Qe :: m) :
  Qh Tryz.prog 153 [.list (L.map Xg),.fn (.func c) [] cs] m fun y m1=>y=.bool (XQ L lt)∧m1=m:=by
 refine QLj.go (by simp) ?_;simp only[Qa,seval];refine Qd (AxI L lt c cs m) _ ⟨_,0,rfl,rfl,rfl,(by rfl),(by rfl),(by rfl)⟩ ?_;rintro _ st ⟨f,i,rfl,rfl,hx,h0,h1,h5⟩;simp only[QVH,h0,h5,Qa,seval];by_cases hlt:i+1<L.length
 ·obtain⟨x,hi⟩:∃x,L[i]? = some x:=⟨L[i]'(by omega),QUN (by omega)⟩;obtain⟨y,hj⟩:∃y,L[i+1]? = some y:=⟨L[i+1],QUN hlt⟩;have hcl:=hc x (QUZ hi) y (QUZ hj);have hg:(L.map Xg)[i]? = some (Xg x):=by simp[hi]
  have hh:(L.map Xg)[i+1]? = some (Xg y):=by simp[hj]
  have e1:=Qq (i+1) _ hlt hl;have e2:=Wj i _ hlt hl;simp only[Xg,PI.cells]at hcl;simp only[Qm hlt,e2,Qi,QWd,Qc,hg,hh,Xg,PI.cells,h0,h1,h5,eE,seval];refine XJ (fa:=[]) (fb:=AV.shL cs) (by rfl) hcl (by simp only[QVi,QVN,QU9,QU8,Qa,seval]) ?_;have hs:QC (Xb L lt) (i+2)=lt x y:=by
   show(QC (Xb L lt) (i+1)&&Xb L lt (i+1))=_;rw[hx,Jd hi hj,QWn]
  cases hp:lt x y
  ·rw[hp]at hs;have hf:XQ L lt=false:=by
    rw[QWz];intro h';rw[QK.2 fun k hk=>QK.1 h' k (by omega)]at hs;cases hs
   simp only[hf,Qa,seval]
  ·rw[hp]at hs;simp only[h5,e1,Qa,seval];exact⟨L.length-(i+2),by omega,_,i+1,rfl,rfl,hs,(by exact h0),(by exact h1),(by rfl)⟩
 ·have hf:XQ L lt=true:=QK.2 fun k hk=>QK.1 hx k (by omega)
  simp only[QB hlt,hf,Qa,seval]

end

def cl (c:Nat):Int:=if 97≤c∧c≤122 then 1 else if 65≤c∧c≤90 then 2 else if 48≤c∧c≤57 then 3 else if c=95 then 4 else 0

theorem QNZ (c:Nat):Qj Tryz.prog 244 [.int .i32 (c:Nat)] (.int .i64 (cl c)):=by
 refine Qkn.fn (by simp) ?_;simp only[Qa,seval]
 repeat' (first|(refine Q0 (fun h=>?_) (fun h=>?_)<;>simp only[h,Qa,seval])|(refine Xz (fun h=>?_) (fun h=>?_)<;>simp only[h,Ql,Qa,seval])|(refine XA (fun h=>?_) (fun h=>?_)<;>simp only[h,Ql,eE,seval]))
 all_goals((try simp only[QUR,QWD,QUS,QWs,ne_eq]at *)<;>unfold cl<;>(repeat' split)<;>first|rfl|(exfalso;omega))

theorem VG {s:List UInt8}{i:Nat}{c:UInt8}(h:s[i]? = some c):(c.toNat<128→Xi s i=(c.toNat,1))∧(128≤c.toNat→128≤(Xi s i).1):=by
 have g0:(⟨⟨s⟩⟩:ByteArray).get! (i+0)=c:=by
  show(⟨s⟩:Array UInt8)[i+0]! = c;simp[h]
 constructor
 ·intro hc;simp only[Xi,Utf8.decode,g0];rw[QVf hc]
 ·intro hc;simp only[Xi,Utf8.decode,g0];rw[QU0 (by omega)]
  (repeat' split)<;>simp only[ge_iff_le,QVa,QUR,Utf8.runeError]at *<;>omega

def pq (s:List UInt8)(j:Nat):Bool:=match s[j]? with
 |some c=>if j=0 then Jz c else Z1 c
 |none=>true
theorem WH {s:List UInt8}{j:Nat}{c:UInt8}(h:s[j]? = some c):pq s j=if j=0 then Jz c else Z1 c:=by
 unfold pq;rw[h]

theorem F5 {c:UInt8}(h:Jz c=true):Z1 c=true:=by unfold Z1;rw[h];rfl

theorem Kz (s:List UInt8):QX s=(decide (1≤s.length)&&decide (s.length≤40)&&QC (pq s) s.length):=by
 cases s with
 |nil=>rfl
 |cons c t=>
  have h1:decide (1≤(c :: t).length)=true:=by simp
  rw[h1,QWn];show(decide ((c :: t).length≤40)&&Jz c&&t.all Z1)=_;rw[QVw];congr 1
  rw[QVG,QVa,QK,QUY]
  constructor
  ·rintro⟨h2,h3⟩ i hi;cases i with
   |zero=>rw[WH (c:=c) rfl,QVf rfl];exact h2
   |succ i=>
    have hlt:i<t.length:=by simpa using hi
    rw[WH (c:=t[i]) (by simp[QUN hlt]),QU0 (by omega)];exact h3 _ (QVE _)
  ·intro h;refine⟨?_,fun x hx=>?_⟩
   ·have:=h 0 (by simp)
    rwa [WH (c:=c) rfl,QVf rfl]at this
   ·obtain⟨i,hi⟩:=QUX.1 hx;have hlt:=(QUM.1 hi).1;have:=h (i+1) (by simpa using hlt)
    rwa [WH (c:=x) (by simpa using hi),QU0 (by omega)]at this

theorem QFD {s:List UInt8}{i:Nat}{c:UInt8}(h:s[i]? = some c)(r:Nat)(hr:(c.toNat<128→r=c.toNat)∧(128≤c.toNat→128≤r)) :
  (cl r==0||((i:Int)==0&&(cl r != 1&&cl r != 2)))=!pq s i:=by
 rw[WH h];obtain⟨h1,h2⟩:=hr;have hc:=c.toNat_lt;unfold cl Jz Z1 Jz;generalize c.toNat=x at *;by_cases hx:x<128
 ·have e:=h1 hx;subst e;by_cases hi:i=0
  ·subst hi;rw[QVf rfl]
   (repeat' split)<;>simp<;>omega
  ·rw[QU0 hi];have hz:((i:Int)==0)=false:=by simp;omega
   rw[hz]
   (repeat' split)<;>simp<;>omega
 ·have:=h2 (by omega);have e:(if 97≤r∧r≤122 then(1:Int)else if 65≤r∧r≤90 then 2 else if 48≤r∧r≤57 then 3 else if r=95 then 4 else 0)=0:=by
   rw[QU0 (by omega),QU0 (by omega),QU0 (by omega),QU0 (by omega)]
  rw[e];split<;>simp<;>omega

def PaI (s:List UInt8)(k:Nat)(st:St):Prop :=
 ∃f fr i,st=⟨f,[fr],[]⟩∧k=s.length-i∧i≤s.length∧QC (pq s) i=true∧f 0=.str s∧f 7=.ptr 0 7 0∧fr 7=.iter (.str s) i

theorem QuW (s:List UInt8):Qj Tryz.prog 210 [.str s] (.bool (QX s)):=by
 refine Qim.fn (by simp) ?_;simp only[Qa,seval];refine Dx rfl rfl ?_;simp only[Qa,seval];refine Qd (PaI s) s.length ⟨_,_,0,rfl,rfl,QUU _,rfl,(by rfl),(by rfl),(by rfl)⟩ ?_;rintro _ st ⟨f,fr,i,rfl,rfl,hi,hx,h0,h7,m7⟩;simp only[Qa,seval];refine Dy (by exact h7) m7 (fun hlt=>?_) (fun hge=>?_)
 ·obtain⟨c,hc⟩:∃c,s[i]? = some c:=⟨s[i],QUN hlt⟩;obtain⟨u1,u2⟩:=VG hc;have hcl:=QNZ (Xi s i).1;have hq:=QFD hc (Xi s i).1 ⟨fun h=>by rw[u1 h],u2⟩;have hw:pq s i=true→(Xi s i).2=1:=by
   intro h;rw[u1];rw[WH hc]at h;have hp:Z1 c=true:=by
    split at h
    ·exact F5 h
    ·exact h
   unfold Z1 Jz at hp;simp at hp;omega
  generalize Xi s i=cw at hcl hq hw;obtain⟨r,w⟩:=cw;simp only[Qa,seval];refine Qb hcl rfl rfl rfl (.inl rfl) ?_;have hstep:QC (pq s) (i+1)=pq s i:=by rw[QC,hx,QWn]
  have hend:pq s i=false→QX s=false:=by
   intro h;rw[Kz,VE hlt h,QWE]
  simp only at hq hw;generalize cl r=k at hq;cases hp:pq s i
  ·rw[hp]at hq;have he:=hend hp;simp only[he,Qa,seval];cases a1:(k==0)
   ·cases a2:((i:Int)==0)
    ·simp[a1,a2]at hq
    ·cases a3:(k != 1)
     ·simp[a1,a2,a3]at hq
     ·cases a4:(k != 2)
      ·simp[a1,a2,a3,a4]at hq
      ·simp only[a2,a3,a4,Qa,seval]
   ·simp only[Qa,seval]
  ·rw[hp]at hq;have hw:=hw hp;subst hw;simp only[Qa,seval];cases a1:(k==0)
   ·cases a2:((i:Int)==0)
    ·simp only[a2,Qa,seval];exact⟨s.length-(i+1),by omega,_,_,i+1,rfl,rfl,by omega,by rw[hstep,hp],(by exact h0),(by exact h7),(by rfl)⟩
    ·cases a3:(k != 1)
     ·simp only[a2,a3,Qa,seval];exact⟨s.length-(i+1),by omega,_,_,i+1,rfl,rfl,by omega,by rw[hstep,hp],(by exact h0),(by exact h7),(by rfl)⟩
     ·cases a4:(k != 2)
      ·simp only[a2,a3,a4,Qa,seval];exact⟨s.length-(i+1),by omega,_,_,i+1,rfl,rfl,by omega,by rw[hstep,hp],(by exact h0),(by exact h7),(by rfl)⟩
      ·simp[a1,a2,a3,a4]at hq
   ·simp[a1]at hq
 ·have hii:i=s.length:=by omega
  subst hii;have e1:decide (((s.length:Nat):Int)≥1)=decide (1≤s.length):=by rw[decide_eq_decide];omega
  have e2:decide (((s.length:Nat):Int)≤40)=decide (s.length≤40):=by rw[decide_eq_decide];omega
  have e3:QX s=(decide (1≤s.length)&&decide (s.length≤40)):=by rw[Kz,hx,QVZ]
  simp only[h0,e1,e3,Qa,seval];cases a1:decide (1≤s.length)<;>simp only[QWn,QWg,h0,e2,Qa,seval]

theorem QN0 (s:List UInt8):Qj Tryz.prog 208 [.str s] (.bool (Zb s)):=by
 refine PX.fn (by simp) ?_;simp only[QM,Qa,seval];have e:Zb s=Yk.any fun w=>s==w:=rfl
 simp only[Yk,List.any_cons,List.any_nil,QWF]at e
 repeat' (first|(refine Q0 (fun h=>?_) (fun h=>?_)<;>simp only[h,QM,Qa,seval])|(refine Xz (fun h=>?_) (fun h=>?_)<;>simp only[h,Ql,QM,eE,seval])|(refine XA (fun h=>?_) (fun h=>?_)<;>simp only[h,Ql,QM,eE,seval]))
 all_goals(simp only[*,QWq,Bool.or_true,QWF]at e;simp only[e])

theorem QN1 (s:List UInt8):Qj Tryz.prog 274 [.str s,.str [46]] (.int .i64 (s.count 46:Nat)):=by
 refine Qk3.fn (by simp) ?_;have b0:(((1:Nat):Int)==0)=false:=rfl;have b1:(((1:Nat):Int)==1)=true:=rfl;have b2:([(46:UInt8)])[Int.toNat 0]? = some 46:=rfl;simp only[QU1,QVI,QVs,Qa,seval];refine Ni rfl rfl ?_;simp only[HO,Lib.countByte,Qa,seval]
 try rfl

theorem QN2 (s:List UInt8):Qj Tryz.prog 300 [.str s,.int .u8 46] (.int .i64 (Lib.indexByte s 46)):=by
 refine Qlz.fn (by simp) ?_;simp only[Qa,seval];refine Ni rfl rfl ?_;simp only[HO,QU5,Qa,seval]
 try rfl

theorem QN3 (s:List UInt8):Qj Tryz.prog 292 [.str s,.str [46]] (.int .i64 (Lib.indexByte s 46)):=by
 refine Qlh.fn (by simp) ?_;have b0:(((1:Nat):Int)==0)=false:=rfl;have b1:(((1:Nat):Int)==1)=true:=rfl;have b2:([(46:UInt8)])[Int.toNat 0]? = some 46:=rfl;have hk:=QN2 s;simp only[VB,Mh,Mi,Mj,Mk,Ml,Mm,Mn,Mo,Mp,VB,PY,QU1,QVI,QVs,QM,Qa,seval];cases h:(([46]:List UInt8)==s)
 ·simp only[Qa,seval];refine Qb hk rfl rfl rfl (.inl rfl) ?_;simp only[Qa,seval]
 ·have hs:s=[46]:=by simpa using (QUS.1 h).symm
  subst hs;simp only[Qa,seval]
  try rfl

theorem QN4 (s:List UInt8):Qj Tryz.prog 275 [.str s,.str [46]] (.int .i64 (Lib.indexByte s 46)):=by
 refine Qk8.fn (by simp) ?_;simp only[Qa,seval];refine Qb (QN3 s) rfl rfl rfl (.inl rfl) ?_;simp only[Qa,seval]

theorem MK {t:List UInt8}{o:Nat}(h:Lib.indexByte t 46=(o:Int)):o<t.length∧t=t.take o++46 :: t.drop (o+1)∧∀c∈t.take o,c≠46:=by
 obtain⟨h1,h2⟩:=Lib.indexByte_some h;have hlt:=(QUM.1 h1).1;refine⟨hlt,?_,?_⟩
 ·have h3:t[o]=46:=(QUM.1 h1).2;rw[←h3,←QVu hlt,QV2]
 ·intro c hc e;subst e;obtain⟨k,hk⟩:=QUX.1 hc;rw[QVp]at hk;split at hk
  ·exact h2 k ‹_› hk
  ·cases hk

theorem Ra {t:List UInt8}(h:Lib.indexByte t 46 = -1):Qo t=[t]:=by
 refine WG fun c hc e=>?_
 subst e;obtain⟨k,hk⟩:=QUX.1 hc;exact Lib.indexByte_none h k hk

theorem ML {t:List UInt8}{o:Nat}(h:Lib.indexByte t 46=(o:Int)):Qo t=t.take o :: Qo (t.drop (o+1)):=by
 obtain⟨_,h2,h3⟩:=MK h
 conv=>lhs;rw[h2]
 exact Gg h3

theorem QuX (t:List UInt8):Lib.indexByte t 46 = -1∨∃o:Nat,Lib.indexByte t 46=(o:Int):=by
 have:=Lib.indexByte_ge t 46;by_cases h:Lib.indexByte t 46 = -1
 ·exact .inl h
 ·obtain⟨o,ho⟩:=QWp (a:=Lib.indexByte t 46) (by omega);exact .inr ⟨o,ho⟩

def SpI (s:List UInt8)(n:Nat)(k:Nat)(st:St):Prop :=
 ∃f fr t done,st=⟨f,[fr],[]⟩∧k=(Qo t).length∧Qo s=done++Qo t∧n=done.length+(Qo t).length∧t.length≤s.length∧
  f 0=.str t∧f 1=.str [46]∧f 2=.int .i64 0∧f 3=.int .i64 ((n-1:Nat):Int)∧f 9=.vec 0 31 1 0 n false∧f 10=.int .i64 (done.length:Nat)∧fr 31=.vec 1 1 (done.map Zh++List.replicate (Qo t).length (.str []))

theorem Rd (done:List (List UInt8))(x:List UInt8)(n:Nat)(h:0<n):(done.map Zh++List.replicate n (AV.str [])).set done.length (.str x)=(done++[x]).map Zh++List.replicate (n-1) (AV.str []):=by
 obtain⟨k,rfl⟩:∃k,n=k+1:=⟨n-1,by omega⟩;rw[List.set_append_right _ _ (by simp)];simp[Zh,List.replicate_succ]

theorem QN5 (s:List UInt8)(hs:s.length≤17592186044000):Qj Tryz.prog 243 [.str s,.str [46],.int .i64 0,.int .i64 (-1)] (.list ((Qo s).map Zh)):=by
 have hl:=Y4 s;have hc:s.count 46≤s.length:=List.count_le_length;have hm:(Qo s).length≤s.length+1:=by omega
 have b0:((-1:Int)==0)=false:=rfl;have b1:decide ((-1:Int)<0)=true:=rfl;have e1:IntKind.i64.wrap ((s.count 46:Nat)+1:Int)=((Qo s).length:Nat):=by rw[QG];omega
 have e2:IntKind.i64.wrap ((s.length:Nat)+1:Int)=((s.length+1:Nat):Int):=by rw[QG];omega
 have e3':(((s.length+1:Nat):Int)<((Qo s).length:Nat))=False:=eq_false (by omega);have e4:IntKind.i64.wrap (((Qo s).length:Nat)-1:Int)=(((Qo s).length-1:Nat):Int):=by rw[QG];omega
 have hz:JD 1 [AV.str []]=.str []:=rfl;refine Qka.fn (by simp) ?_;simp only[b0,QM,Qa,seval];have b2:(([46]:List UInt8)==[])=false:=rfl;simp only[b2,Qa,seval];refine Qb (QN1 s) rfl rfl rfl (.inl rfl) ?_;simp only[e1,e2,e3',Qa,seval];refine Uw (n:=(Qo s).length) (k:=(Qo s).length) rfl rfl (QUK _) (by omega) (by omega) rfl ?_;simp only[e4,hz,Qa,seval];refine Qd (SpI s (Qo s).length) _ ⟨_,_,s,[],rfl,rfl,rfl,by simp,QUK _,(by rfl),(by rfl),(by rfl),(by rfl),(by rfl),(by rfl),(by rfl)⟩ ?_;rintro _ st ⟨f,fr,t,done,rfl,rfl,hp,hn,ht,h0,h1,h2,h3,h9,h10,m31⟩;simp only[h3,h10,Qa,seval];have hpos:0<(Qo t).length:=QV7.2 (Kj t);have ia:Qc [fr] 1 none (.vec 0 31 1 0 (Qo s).length false) ((done.length:Nat):Int)=some (.vptr 0 31 1 done.length 0):=by
  have e:Am.Qg [fr] 0 31=.vec 1 1 (done.map Zh++List.replicate (Qo t).length (.str [])):=m31;simp only[Qc,e,Qi,if_true,QWd];simp;omega
 have ist:∀x:List UInt8,QV [fr] (.vptr 0 31 1 done.length 0) [.str x]=some [QJ fr 31 (.vec 1 1 ((done++[x]).map Zh++List.replicate ((Qo t).length-1) (.str [])))]:=by
  intro x;have e:Am.Qg [fr] 0 31=.vec 1 1 (done.map Zh++List.replicate (Qo t).length (.str [])):=m31;have hy:(done.map Zh++List.replicate (Qo t).length (.str []))[done.length]? = some (.str []):=by
   rw[QWc (by simp)];simp[hpos]
  have hx:Zz (.str []) 0 [.str x]=.str x:=rfl;simp only[QV,e,hy,if_true,←Rd done x _ hpos];simp[AV.cells,AV.rfL,AV.rf,Am.put,hx]
 have ew:IntKind.i64.wrap ((done.length:Nat)+1:Int)=((done.length+1:Nat):Int):=by rw[QG];omega
 rcases QuX t with hd|⟨o,ho⟩
 ·have hp1:=Ra hd;have hl1:(Qo t).length=1:=by rw[hp1];rfl
  have d1:decide (((done.length:Nat):Int)<(((Qo s).length-1:Nat):Int))=false:=QWx (by omega);have hi:=ist t;have hrow:(done++[t]).map Zh++List.replicate ((Qo t).length-1) (AV.str [])=(Qo s).map Zh:=by
   rw[hl1,hp,hp1];simp
  have hlen:done.length+1=(Qo s).length:=by omega
  rw[hrow]at hi;rw[hlen]at ew;have hle:((Qo s).length≤(Qo s).length)=True:=eq_true (QUK _);have ht:(((Qo s).map Zh).drop 0).take (Qo s).length=(Qo s).map Zh:=by rw[QVt];exact QVk (by simp)
  simp only[d1,ia,hi,h0,h9,h10,ew,eE,seval];simp only[Qi,if_true,QWd,QUU,hle,QVD,and_true,QV5,QVB,QWF,Xq,QVW,X7,QWy];have el:Am.Qg [QJ fr 31 (Ob.vec 1 1 ((Qo s).map Zh))] 0 31=.vec 1 1 ((Qo s).map Zh):=QR _ _ _;simp only[AV.still,el,QWn,bne_self_eq_false,QU5,if_false,QVs,QVH,hle,and_self,if_true,ht,Option.bind_some,AV.un,QWy,QVW]
 ·have hp1:=ML ho;obtain⟨ho1,ho2,ho3⟩:=MK ho;have hl1:(Qo t).length=(Qo (t.drop (o+1))).length+1:=by rw[hp1];simp
  have hpos2:0<(Qo (t.drop (o+1))).length:=QV7.2 (Kj _);have d1:decide (((done.length:Nat):Int)<(((Qo s).length-1:Nat):Int))=true:=QWC (by omega);have d2:decide ((o:Int)<0)=false:=QWx (by omega);have w1:IntKind.i64.wrap ((o:Int)+0)=(o:Int):=by rw[QG];omega
  have w2:IntKind.i64.wrap ((o:Int)+1)=((o+1:Nat):Int):=by rw[QG];omega
  have hi:=ist (t.take o);simp only[d1,h0,h1,Qa,seval];refine Qb (QN4 t) rfl rfl rfl (.inl rfl) ?_;have hle1:(0≤o∧o≤t.length)=True:=eq_true ⟨QUU _,by omega⟩;have hle2:(o+1≤t.length∧t.length≤t.length)=True:=eq_true ⟨by omega,QUK _⟩;have ht2:(t.drop (o+1)).take (t.length-(o+1))=t.drop (o+1):=QVk (by simp);simp only[ho,d2,w1,w2,Qi,QWd,hle1,hle2,ht2,QV5,h0,h1,h2,h9,h10,eE,seval];simp only[ia,hi,ew,Qa,seval];have hlen:(done++[t.take o]).length=done.length+1:=by simp
  have hk:(Qo t).length-1=(Qo (t.drop (o+1))).length:=by omega
  exact⟨(Qo (t.drop (o+1))).length,by omega,_,_,t.drop (o+1),done++[t.take o],rfl,rfl,by rw[hp,hp1];simp,by rw[hlen];omega,by simp;omega,(by rfl),(by exact h1),(by exact h2),(by exact h3),(by exact h9),by rw[hlen]<;>first|rfl|simp only[eE,seval],by rw[←hk]<;>exact QR _ _ _⟩

def F6 (c:UInt8):Bool:=decide (97≤c.toNat)&&decide (c.toNat≤122)
def F7 (c:UInt8):Bool:=decide (65≤c.toNat)&&decide (c.toNat≤90)

theorem QuY (c:UInt8):Qj Tryz.prog 199 [.int .u8 (c.toNat:Nat)] (.bool (F6 c)):=by
 refine QL5.fn (by simp) ?_;have e1:decide ((c.toNat:Int)≥97)=decide (97≤c.toNat):=by rw[decide_eq_decide];omega
 have e2:decide ((c.toNat:Int)≤122)=decide (c.toNat≤122):=by rw[decide_eq_decide];omega
 simp only[e1,F6,Qa,seval];cases h:decide (97≤c.toNat)<;>simp only[e2,QWn,QWg,Qa,seval]

theorem QuZ (c:UInt8):Qj Tryz.prog 200 [.int .u8 (c.toNat:Nat)] (.bool (F7 c)):=by
 refine QL8.fn (by simp) ?_;have e1:decide ((c.toNat:Int)≥65)=decide (65≤c.toNat):=by rw[decide_eq_decide];omega
 have e2:decide ((c.toNat:Int)≤90)=decide (c.toNat≤90):=by rw[decide_eq_decide];omega
 simp only[e1,F7,Qa,seval];cases h:decide (65≤c.toNat)<;>simp only[e2,QWn,QWg,Qa,seval]

theorem Re (c:UInt8):Z1 c=(F6 c||F7 c || !((c.toNat:Int) != 95) || !(decide ((c.toNat:Int)<48)||decide ((c.toNat:Int) > 57))):=by
 unfold Z1 Jz F6 F7;generalize c.toNat=x;rw[QVG];simp only[QUQ,QVa,QUR,QUS,QVK,bne_eq_false_iff_eq,QVF,QWD];omega

def PrI (s:List UInt8)(k:Nat)(st:St):Prop :=
 ∃f i,st=⟨f,[Qe],[]⟩∧k=s.length-i∧1≤i∧QC (pq s) i=true∧f 0=.str s∧f 3=.int .i64 (i:Nat)

theorem Rf (s:List UInt8):Qj Tryz.prog 127 [.str s] (.bool (QX s)):=by
 refine QKG.fn (by simp) ?_;simp only[Qa,seval];by_cases hl:s.length=0
 ·have d0:((s.length:Int)==0)=true:=by rw[hl];rfl
  have e:QX s=false:=by rw[Kz,hl];rfl
  simp only[d0,e,Qa,seval]
 have d0:((s.length:Int)==0)=false:=by rw[QWs];omega
 by_cases hm:s.length≤40
 case neg=>
  have d1:decide ((s.length:Int) > 40)=true:=QWC (by omega);have e:QX s=false:=by rw[Kz,QWx hm,QWE,QWg]
  simp only[d0,d1,e,Qa,seval]
 have d1:decide ((s.length:Int) > 40)=false:=QWx (by omega);have hp:QX s=QC (pq s) s.length:=by rw[Kz,QWC hm,QWC (by omega:1≤s.length)];rfl
 obtain⟨c,hc⟩:∃c,s[0]? = some c:=⟨s[0]'(by omega),QUN (by omega)⟩;have hq0:QC (pq s) 1=(F6 c||F7 c):=by
  show(true&&pq s 0)=_;rw[WH hc,QVf rfl];rfl
 have h1:=QuY c;have h2:=QuZ c;have hn:QC (pq s) 1=false→QX s=false:=fun h=>by
  rw[hp,QWz];intro h';rw[QK.2 fun k hk=>QK.1 h' k (by omega)]at h;cases h
 have z1:Int.toNat 0=0:=rfl;have go:QC (pq s) 1=true→∀(f:Fr),f 0=.str s→f 3=.int .i64 1→∀Q:Exit→St→Prop,(∀f,QC (pq s) s.length=true→Q (.exit 0) ⟨f,[Qe],[]⟩)→(∀f,f 2=.bool false→QC (pq s) s.length=false→Q .ret ⟨f,[Qe],[]⟩)→QI Tryz.prog (.loop Mt) ⟨f,[Qe],[]⟩ Q:=by
  intro hq1 f h0 h3 Q hx hr;refine Qd (PrI s) _ ⟨_,1,rfl,rfl,QUK _,hq1,h0,h3⟩ ?_;clear h0 h3 hc hq0 h1 h2 hn;rintro _ st ⟨f,i,rfl,rfl,h1i,hx1,h0,h3⟩;simp only[h0,h3,Qa,seval];by_cases hlt:i<s.length
  ·obtain⟨c,hc⟩:∃c,s[i]? = some c:=⟨s[i],QUN hlt⟩;have e1:=Qq i _ hlt (by simp only[maxLen];omega);have hs1:=QuY c;have hs2:=QuZ c;have hstep:QC (pq s) (i+1)=Z1 c:=by
    rw[QC,hx1,QWn,WH hc,QU0 (by omega)]
   have hend:Z1 c=false→QC (pq s) s.length=false:=fun h=>by
    rw[QWz];intro h';rw[QK.2 fun k hk=>QK.1 h' k (by omega)]at hstep;rw[h]at hstep;cases hstep
   have fin:∀f':Fr,Z1 c=true→f' 0=.str s→f' 3=.int .i64 ((i+1:Nat):Int)→∃k,k<s.length-i∧PrI s k ⟨f',[Qe],[]⟩:=by
    intro f' hp h0 h3;exact⟨s.length-(i+1),by omega,f',i+1,rfl,rfl,by omega,by rw[hstep,hp],h0,h3⟩
   have hpc:=Re c;simp only[Qm hlt,Qi,QWd,hc,h0,h3,Qa,seval];refine Qb hs1 rfl rfl rfl (.inl rfl) ?_;cases a1:F6 c
   ·simp only[Qi,QWd,hc,h0,h3,QVT,Qa,seval];refine Qb hs2 rfl rfl rfl (.inl rfl) ?_;cases a2:F7 c
    ·cases a3:((c.toNat:Int) != 95)
     ·rw[a1,a2,a3]at hpc;simp only[a3,Qi,QWd,hc,h0,h3,e1,QVT,Qa,seval];exact fin _ (by rw[hpc];rfl) (by exact h0) (by rfl)
     ·cases a4:decide ((c.toNat:Int)<48)
      ·cases a5:decide ((c.toNat:Int) > 57)
       ·rw[a1,a2,a3,a4,a5]at hpc;simp only[a3,a4,a5,Qi,QWd,hc,h0,h3,e1,QVT,Qa,seval];exact fin _ (by rw[hpc];rfl) (by exact h0) (by rfl)
       ·rw[a1,a2,a3,a4,a5]at hpc;simp only[a3,a4,a5,Qi,QWd,hc,h0,h3,QVT,Qa,seval];exact hr _ (by rfl) (hend (by rw[hpc];rfl))
      ·rw[a1,a2,a3,a4]at hpc;simp only[a3,a4,Qi,QWd,hc,h0,h3,QVT,Qa,seval];exact hr _ (by rfl) (hend (by rw[hpc];rfl))
    ·rw[a1,a2]at hpc;simp only[h3,e1,QWo,Qa,seval];exact fin _ (by rw[hpc];rfl) (by exact h0) (by rfl)
   ·rw[a1]at hpc;simp only[h3,e1,QWo,Qa,seval];exact fin _ (by rw[hpc];rfl) (by exact h0) (by rfl)
  ·simp only[QB hlt,Qa,seval];exact hx _ (QK.2 fun k hk=>QK.1 hx1 k (by omega))
 simp only[d0,d1,z1,hc,Qa,seval];refine Qb h1 rfl rfl rfl (.inl rfl) ?_;cases a1:F6 c
 ·simp only[z1,hc,QVT,Qa,seval];refine Qb h2 rfl rfl rfl (.inl rfl) ?_;cases a2:F7 c
  ·rw[a1,a2]at hq0;simp only[hn hq0,QVT,Qa,seval]
  ·rw[a1,a2]at hq0;simp only[QWo,Qa,seval];refine go hq0 _ (by rfl) (by rfl) _ (fun f h=>?_) (fun f h2 h=>?_)
   ·simp only[hp,h,Qa,seval]
   ·simp only[hp,h,h2,Qa,seval]
 ·rw[a1,QWq]at hq0;simp only[QWo,Qa,seval];refine go hq0 _ (by rfl) (by rfl) _ (fun f h=>?_) (fun f h2 h=>?_)
  ·simp only[hp,h,Qa,seval]
  ·simp only[hp,h,h2,Qa,seval]

theorem Qu0 (s:List UInt8):Qj Tryz.prog 126 [.str s] (.bool (Zb s)):=by
 refine QKD.fn (by simp) ?_;simp only[QM,Qa,seval];have e:Zb s=Yk.any fun w=>s==w:=rfl
 simp only[Yk,List.any_cons,List.any_nil,QWF]at e
 repeat' (first|(refine Q0 (fun h=>?_) (fun h=>?_)<;>simp only[h,QM,Qa,seval])|(refine Xz (fun h=>?_) (fun h=>?_)<;>simp only[h,Ql,QM,eE,seval])|(refine XA (fun h=>?_) (fun h=>?_)<;>simp only[h,Ql,QM,eE,seval]))
 all_goals(simp only[*,QWq,Bool.or_true,QWF]at e;simp only[e])

theorem z77 (s:List UInt8):Qj Tryz.prog 77 [.str s] (.bool (XF s)):=by
 refine k77.fn (by simp) ?_;simp only[XF,Qa,seval];refine Qb (Rf s) rfl rfl rfl (.inl rfl) ?_;cases QX s
 ·simp only[QWg,Qa,seval]
 ·simp only[QWn,Qa,seval];refine Qb (Qu0 s) rfl rfl rfl (.inl rfl) ?_;simp only[Qa,seval]

def FuI (s:List UInt8)(k:Nat)(st:St):Prop :=
 ∃f i p,st=⟨f,[Qe],[]⟩∧k=s.length-i∧i≤s.length∧p.length≤i∧(∀c∈p,c≠(46:UInt8))∧(Qo s).all QX=(Qo (p++s.drop i)).all QX∧f 0=.str s∧f 3=.str p∧f 4=.int .i64 (i:Nat)

theorem QN6 (s:List UInt8):Qj Tryz.prog 124 [.str s] (.bool (decide (s.length≤120)&&(Qo s).all QX)):=by
 refine QKx.fn (by simp) ?_;simp only[Qa,seval];by_cases hm:s.length≤120
 case neg=>
  have d1:decide ((s.length:Int) > 120)=true:=QWC (by omega);simp only[d1,QWx hm,QWg,Qa,seval]
 have d1:decide ((s.length:Int) > 120)=false:=QWx (by omega);simp only[d1,QWC hm,QWn,Qa,seval];refine Qd (FuI s) _ ⟨_,0,[],rfl,rfl,QUU _,QUK _,by simp,rfl,(by rfl),(by rfl),(by rfl)⟩ ?_;rintro _ st ⟨f,i,p,rfl,rfl,hi,hpl,hpd,hx,h0,h3,h4⟩;simp only[h0,h4,Qa,seval];by_cases hlt:i<s.length
 ·obtain⟨c,hc⟩:∃c,s[i]? = some c:=⟨s[i],QUN hlt⟩;have e1:=Qq i _ hlt (by simp only[maxLen];omega);have hd:s.drop i=c :: s.drop (i+1):=by
   rw[QVu hlt];congr 1
   exact(QUM.1 hc).2
  have hts:(s.drop i).take (i+1-i)=[c]:=by
   rw[hd,show i+1-i=1 by omega];rfl
  simp only[Qm hlt,Qi,QWd,hc,h0,h4,Qa,seval];by_cases hdot:c=46
  ·subst hdot;have b0:((((46:UInt8).toNat:Nat):Int) != 46)=false:=rfl;have hs:(Qo s).all QX=(QX p&&(Qo (s.drop (i+1))).all QX):=by
    rw[hx,hd,Gg hpd];rfl
   simp only[h3,Qa,seval];refine Qb (Rf p) rfl rfl rfl (.inl rfl) ?_;cases hp:QX p
   ·rw[hp,QWg]at hs;simp only[hs,QVT,Qa,seval]
   ·rw[hp,QWn]at hs;simp only[h4,e1,QWo,Qa,seval];exact⟨s.length-(i+1),by omega,_,i+1,[],rfl,rfl,by omega,QUU _,by simp,by rw[hs];rfl,(by exact h0),(by rfl),(by rfl)⟩
  ·have b0:(((c.toNat:Nat):Int) != 46)=true:=by
    rw[QVc];intro h
    apply hdot
    rw[←UInt8.toNat_inj];have:c.toNat=46:=by omega
    rw[this];rfl
   have hle:(i≤i+1∧i+1≤s.length)=True:=eq_true ⟨by omega,by omega⟩;have hsum:(p.length≤9223372036854775806)=True:=eq_true (by omega);simp only[b0,h0,h3,h4,e1,ZH,Zy,Q4,Qi,QWd,hle,hts,QM,hsum,Qa,seval];exact⟨s.length-(i+1),by omega,_,i+1,p++[c],rfl,rfl,by omega,by simp;omega,fun x hx=>by
    rcases QV4.1 hx with h|h
    ·exact hpd x h
    ·simp at h;subst h;exact hdot,by rw[hx,hd];simp,(by exact h0),(by rfl),(by rfl)⟩
 ·have hx':(Qo s).all QX=QX p:=by
   rw[hx,QVn (by omega),QVP,WG hpd];simp
  simp only[QB hlt,h3,hx',Qa,seval];refine Qb (Rf p) rfl rfl rfl (.inl rfl) ?_;simp only[Qa,seval]

def WS (s:List UInt8):Nat→Option Nat
 |0=>none
 |j+1=>if s[j]? = some 46 then some j else WS s j

theorem Y6 (s:List UInt8):∀n,match WS s n with
  |none=>∀k,k<n→s[k]?≠some 46
  |some j=>j<n∧s[j]? = some 46∧∀k,j<k→k<n→s[k]?≠some 46
 |0=>by simp[WS]
 |n+1=>by
  unfold WS;split
  ·rename_i h;split at h
   ·cases h
   ·rename_i h';have:=Y6 s n;rw[h]at this;intro k hk;rcases Nat.lt_succ_iff_lt_or_eq.1 hk with h1|rfl
    ·exact this k h1
    ·exact h'
  ·rename_i j h;split at h
   ·rename_i h';cases h;exact⟨by omega,h',fun k h1 h2=>by omega⟩
   ·rename_i h';have:=Y6 s n;rw[h]at this;exact⟨by omega,this.2.1,fun k h1 h2=>by
     rcases Nat.lt_succ_iff_lt_or_eq.1 h2 with h3|rfl
     ·exact this.2.2 k h1 h3
     ·exact h'⟩

def ZK (s:List UInt8):List UInt8×List UInt8:=match WS s s.length with
 |none=>([],s)
 |some j=>(s.take j,s.drop (j+1))

theorem F8 (s:List UInt8):((ZK s).1=[]∧(ZK s).2=s∧∀c∈s,c≠46)∨(s=(ZK s).1++46 :: (ZK s).2∧∀c∈(ZK s).2,c≠46):=by
 have h:=Y6 s s.length;unfold ZK;cases hl:WS s s.length with
 |none=>
  rw[hl]at h;refine .inl ⟨rfl,rfl,fun c hc e=>?_⟩;subst e;obtain⟨k,hk⟩:=QUX.1 hc;exact h k (QUM.1 hk).1 hk
 |some j=>
  rw[hl]at h;obtain⟨h1,h2,h3⟩:=h;refine .inr ⟨?_,fun c hc e=>?_⟩
  ·have:s[j]=46:=(QUM.1 h2).2;show s=s.take j++46 :: s.drop (j+1);rw[←this,←QVu h1,QV2]
  ·subst e;obtain⟨k,hk⟩:=QUX.1 hc;rw[QVq]at hk;exact h3 (j+1+k) (by omega) (QUM.1 hk).1 hk

def SdI (s:List UInt8)(k:Nat)(st:St):Prop :=
 ∃f,st=⟨f,[Qe],[]⟩∧k≤s.length∧WS s s.length=WS s k∧f 0=.str s∧f 4=.int .i64 ((k:Int)-1)

theorem QN7 (s:List UInt8)(hs:s.length≤120):Qj Tryz.prog 125 [.str s] (.tup [.str (ZK s).1,.str (ZK s).2]):=by
 refine QKA.fn (by simp) ?_;have w0:IntKind.i64.wrap ((s.length:Int)-1)=(s.length:Int)-1:=by rw[QG];omega
 simp only[w0,Qa,seval];refine Qd (SdI s) _ ⟨_,rfl,QUK _,rfl,(by rfl),(by rfl)⟩ ?_;rintro k st ⟨f,rfl,hk,hx,h0,h4⟩;simp only[h4,Qa,seval];cases k with
 |zero=>
  have d0:decide (((0:Nat):Int)-1≥0)=false:=rfl;have e:ZK s=([],s):=by unfold ZK;rw[hx];rfl
  simp only[e,h0,Qa,seval]
 |succ j=>
  have j1:((j+1:Nat):Int)-1=(j:Int):=by omega
  have d0:decide (((j:Nat):Int)≥0)=true:=QWC (by omega);have w1:IntKind.i64.wrap ((j:Int)-1)=(j:Int)-1:=by rw[QG];omega
  have w2:IntKind.i64.wrap ((j:Int)+1)=((j+1:Nat):Int):=by rw[QG];omega
  obtain⟨c,hc⟩:∃c,s[j]? = some c:=⟨s[j]'(by omega),QUN (by omega)⟩;simp only[j1,Qi,QWd,hc,h0,h4,Qa,seval];by_cases hdot:c=46
  ·subst hdot;have b0:((((46:UInt8).toNat:Nat):Int)==46)=true:=rfl;have e:ZK s=(s.take j,s.drop (j+1)):=by
    unfold ZK;rw[hx];show(match (if s[j]? = some 46 then some j else WS s j)with|none=>([],s)|some j=>(s.take j,s.drop (j+1)))=_;rw[QVf hc]
   have hle:(0≤j∧j≤s.length)=True:=eq_true ⟨by omega,by omega⟩;have hle2:(j+1≤s.length∧s.length≤s.length)=True:=eq_true ⟨by omega,QUK _⟩;have ht:((s.drop 0).take j)=s.take j:=by simp
   have ht2:((s.drop (j+1)).take (s.length-(j+1)))=s.drop (j+1):=QVk (by simp);simp only[w2,j1,e,ZH,Zy,Q4,QV5,Qi,QWd,hle,hle2,ht2,h0,h4,Qa,seval]
  ·have b0:(((c.toNat:Nat):Int)==46)=false:=by
    rw[QWs];intro h
    apply hdot
    rw[←UInt8.toNat_inj];have:c.toNat=46:=by omega
    rw[this];rfl
   have hne:¬s[j]? = some 46:=fun h=>by rw[hc]at h;cases h;exact hdot rfl
   simp only[b0,j1,w1,h4,Qa,seval];exact⟨j,by omega,_,rfl,by omega,by rw[hx];show(if s[j]? = some 46 then some j else WS s j)=_;rw[QU0 hne],(by exact h0),(by rfl)⟩

def MM (u:List UInt8):Bool:=if u=[]then false else(Qo u).any Zb

def DfI (s:List UInt8)(k:Nat)(st:St):Prop :=
 ∃f u,st=⟨f,[Qe],[]⟩∧k=u.length∧u.length≤120∧(u≠[]→(Qo u).all QX=true)∧(Qo s).any Zb=MM u∧f 0=.str u

theorem z76 (s:List UInt8):Qj Tryz.prog 76 [.str s] (.bool (J1 s)):=by
 refine k76.fn (by simp) ?_;simp only[J1,Qa,seval];refine Qb (QN6 s) rfl rfl rfl (.inl rfl) ?_;cases hf:(decide (s.length≤120)&&(Qo s).all QX)
 ·simp only[QWg,QVT,Qa,seval]
 simp only[QWn,QWo,Qa,seval];obtain⟨hl,ha⟩:=QUO.1 hf;have hl:=of_decide_eq_true hl;have hne:s≠[]:=by
  rintro rfl;cases ha
 refine Qd (DfI s) _ ⟨_,s,rfl,rfl,hl,fun _=>ha,by unfold MM;rw[QU0 hne],(by rfl)⟩ ?_;rintro _ st ⟨f,u,rfl,rfl,hul,hua,hx,h0⟩;simp only[h0,QM,Qa,seval];by_cases hu:u=[]
 ·subst hu;have b0:(!(([]:List UInt8)==[]))=false:=rfl;have e:(Qo s).any Zb=false:=hx;simp only[b0,e,QVT,Qa,seval]
 ·have b0:(!(u==[]))=true:=by simp[hu]
  simp only[b0,h0,Qa,seval];refine Qb (QN7 u hul) rfl rfl rfl (.inl rfl) ?_;simp only[Qa,seval];refine Qb (Qu0 (ZK u).2) rfl rfl rfl (.inl rfl) ?_;have hw:MM u=(MM (ZK u).1||Zb (ZK u).2):=by
   unfold MM;rw[QU0 hu];rcases F8 u with⟨h1,h2,h3⟩|⟨h1,h2⟩
   ·rw[h1,h2,QVf rfl,WG h3];simp
   ·have hp:Qo u=Qo (ZK u).1++[(ZK u).2]:=by
     conv=>lhs;rw[h1]
     exact Gi h2
    have ha':=hua hu;rw[hp,QV3,QVa]at ha';have hn:(ZK u).1≠[]:=by
     intro h;rw[h]at ha';cases ha'.1
    rw[QU0 hn,hp];simp
  cases hq:Zb (ZK u).2
  ·rw[hq,QWF]at hw;simp only[Qa,seval];have hlen:(ZK u).1.length<u.length∧((ZK u).1≠[]→(Qo (ZK u).1).all QX=true):=by
    rcases F8 u with⟨h1,h2,h3⟩|⟨h1,h2⟩
    ·rw[h1];exact⟨QV7.2 hu,fun h=>absurd rfl h⟩
    ·have hp:Qo u=Qo (ZK u).1++[(ZK u).2]:=by
      conv=>lhs;rw[h1]
      exact Gi h2
     have ha':=hua hu;rw[hp,QV3,QVa]at ha';refine⟨?_,fun _=>ha'.1⟩;have:=congrArg List.length h1;simp at this;omega
   exact⟨(ZK u).1.length,hlen.1,_,(ZK u).1,rfl,rfl,by omega,hlen.2,by rw[hx,hw],(by rfl)⟩
  ·rw[hq,Bool.or_true]at hw;have e:(Qo s).any Zb=true:=hx.trans hw;simp only[e,QWo,Qa,seval]

theorem Xk {α:Type}{l:List α}{q:α→Bool}:(l.any fun x=>!q x)=!l.all q:=by
 induction l with
 |nil=>rfl
 |cons x l ih=>simp[ih]

theorem Qu1 (s:List UInt8)(hs:s.length≤17592186044000):Qj Tryz.prog 207 [.str s,.str [46]] (.list ((Qo s).map Zh)):=by
 refine QhT.fn (by simp) ?_;simp only[Qa,seval];refine Qb (QN5 s hs) rfl rfl rfl (.inl rfl) ?_;simp only[Qa,seval]

def IfI (s:List UInt8)(k:Nat)(st:St):Prop :=
 ∃f i,st=⟨f,[Qe],[]⟩∧k=(Qo s).length-i∧((Qo s).take i).all QX=true∧f 0=.str s∧f 6=.list ((Qo s).map Zh)∧f 7=.int .i64 ((Qo s).length:Nat)∧f 8=.int .i64 (i:Nat)

theorem QN8 (s:List UInt8)(hs:s.length≤17592186044000):Qj Tryz.prog 205 [.str s] (.bool (decide (s.length≤120)&&(Qo s).all QX)):=by
 have hl:=Y4 s;have hc:s.count 46≤s.length:=List.count_le_length;refine QhJ.fn (by simp) ?_;simp only[Qa,seval];refine Qb (Qu1 s hs) rfl rfl rfl (.inl rfl) ?_;simp only[QVH,Qa,seval];refine Qd (IfI s) _ ⟨_,0,rfl,rfl,rfl,(by rfl),(by rfl),(by rfl),(by rfl)⟩ ?_;rintro _ st ⟨f,i,rfl,rfl,hx,h0,h6,h7,h8⟩;simp only[h7,h8,Qa,seval];by_cases hlt:i<(Qo s).length
 ·obtain⟨x,hi⟩:∃x,(Qo s)[i]? = some x:=⟨(Qo s)[i],QUN hlt⟩;have hg:((Qo s).map Zh)[i]? = some (.str x):=by simp[hi,Zh]
  have e1:=Qq i _ hlt (by simp only[maxLen];omega);have ht:=Q2 (q:=QX) hi;rw[hx,QWn]at ht;simp only[Qm hlt,Qi,QWd,Qc,hg,h6,h8,eE,seval];refine Qb (QuW x) rfl rfl rfl (.inl rfl) ?_;cases hp:QX x
  ·have hf:(Qo s).all QX=false:=by
    rw[QWz];intro h';rw[QUY.1 h' x (QUZ hi)]at hp;cases hp
   simp only[hf,QVT,QWE,Qa,seval]
  ·rw[hp]at ht;simp only[h8,e1,QWo,Qa,seval];exact⟨(Qo s).length-(i+1),by omega,_,i+1,rfl,rfl,ht,(by exact h0),(by exact h6),(by exact h7),(by rfl)⟩
 ·rw[QVk (by omega)]at hx;have e:decide ((s.length:Int)≤120)=decide (s.length≤120):=by rw[decide_eq_decide];omega
  simp only[QB hlt,h0,hx,e,QVZ,Qa,seval]

theorem QFE (s:List UInt8)(m:Qp):Qh Tryz.prog 208 [Zh s] m fun y m1=>y=.bool (Zb s)∧m1=m:=by
 refine PX.go (by simp) ?_;simp only[Zh,QM,Qa,seval];have e:Zb s=Yk.any fun w=>s==w:=rfl
 simp only[Yk,List.any_cons,List.any_nil,QWF]at e
 repeat' (first|(refine Q0 (fun h=>?_) (fun h=>?_)<;>simp only[h,QM,Qa,seval])|(refine Xz (fun h=>?_) (fun h=>?_)<;>simp only[h,Ql,QM,eE,seval])|(refine XA (fun h=>?_) (fun h=>?_)<;>simp only[h,Ql,QM,eE,seval]))
 all_goals(simp only[*,QWq,Bool.or_true,QWF]at e;simp only[e])

theorem Qu2 (s:List UInt8):Qj Tryz.prog 141 [.str s] (.bool (XF s)):=by
 refine Qdu.fn (by simp) ?_;simp only[XF,Qa,seval];refine Qb (QuW s) rfl rfl rfl (.inl rfl) ?_;cases QX s
 ·simp only[QWg,Qa,seval]
 ·simp only[QWn,Qa,seval];refine Qb (QN0 s) rfl rfl rfl (.inl rfl) ?_;simp only[Qa,seval]

theorem Qu3 (s:List UInt8)(hs:s.length≤17592186044000):Qj Tryz.prog 138 [.str s] (.bool (J1 s)):=by
 have hl:=Y4 s;have hc:s.count 46≤s.length:=List.count_le_length;refine Qdf.fn (by simp) ?_;simp only[J1,Qa,seval];refine Qb (QN8 s hs) rfl rfl rfl (.inl rfl) ?_;cases hf:(decide (s.length≤120)&&(Qo s).all QX)
 ·simp only[QWg,Qa,seval]
 ·simp only[QWn,Qa,seval];refine Qb (Qu1 s hs) rfl rfl rfl (.inl rfl) ?_;simp only[Qa,seval];refine Qk (QNU (Qo s) (by simp only[maxLen];omega) Zb 208 [] _ fun o _=>QFE o _) (by simp only[QVi,QVN,Qa,seval]<;>rfl) ?_;simp only[Qa,seval]

section
variable (m:Qp)

theorem QN9 (g:PG):Qh Tryz.prog 134 [Qn g] m fun y m1=>y=.bool (!ZX g)∧m1=m:=by
 refine Qc0.go (by simp) ?_;have e:decide ((g.ops.length:Int) > 64)=!ZX g:=by unfold ZX;exact(by rw[QVG];simp only[QUR,QVK,QWD];omega)
 simp only[Qn,PG.cells,QVH,e,eE,seval]

theorem QOa (x:PE):Qh Tryz.prog 136 [Qr x] m fun y m1=>y=.bool (!Jt x)∧m1=m:=by
 refine QKY.go (by simp) ?_;have e1:decide ((x.items.length:Int)<1)=!decide (1≤x.items.length):=(by rw[QVG];simp only[QUR,QVK,QWD];omega);have e2:decide ((x.items.length:Int) > 64)=!decide (x.items.length≤64):=(by rw[QVG];simp only[QUR,QVK,QWD];omega);have e3:decide ((x.free.length:Int) > 16)=!decide (x.free.length≤16):=(by rw[QVG];simp only[QUR,QVK,QWD];omega);simp only[Qr,PE.cells,QVH,e1,Jt,eE,seval];cases a1:decide (1≤x.items.length)<;>cases a2:decide (x.items.length≤64)<;>cases a3:decide (x.free.length≤16)<;>simp only[a2,a3,QWo,QVT,QVZ,QWE,QVH,e2,e3,eE,seval]

theorem QOb (o:PO):Qh Tryz.prog 140 [Qt o] m fun y m1=>y=.bool (!XF o.name)∧m1=m:=by
 refine Qdp.go (by simp) ?_;simp only[Qt,PO.cells,eE,seval];refine Qb (Qu2 o.name) rfl rfl rfl (.inl rfl) ?_;simp only[Qa,seval]

theorem QOc (o:PI):Qh Tryz.prog 144 [Xg o] m fun y m1=>y=.bool (!XF o.name)∧m1=m:=by
 refine QK7.go (by simp) ?_;simp only[Xg,PI.cells,eE,seval];refine Qb (Qu2 o.name) rfl rfl rfl (.inl rfl) ?_;simp only[Qa,seval]

theorem QOd (g:PG)(hs:g.name.length≤17592186044000)(hl:g.ops.length≤maxLen):Qh Tryz.prog 137 [Qn g] m fun y m1=>y=.bool (!Kk g)∧m1=m:=by
 refine Qda.go (by simp) ?_;simp only[Qn,PG.cells,Kk,eE,seval];refine Qb (Qu3 g.name hs) rfl rfl rfl (.inl rfl) ?_;cases J1 g.name
 ·simp only[QWg,QVT,Qa,seval]
 ·simp only[QWn,QWo,eE,seval];refine Qk (F4 g.ops hl (fun o=>!XF o.name) 140 [] _ fun o _=>QOb _ o) (by simp only[QVi,QVN,Qa,seval]<;>rfl) ?_;simp only[Xk,Qa,seval]

theorem QOe (x:PE)(hs:x.name.length≤17592186044000)(hl:x.items.length≤maxLen):Qh Tryz.prog 142 [Qr x] m fun y m1=>y=.bool (!KL x)∧m1=m:=by
 refine QK1.go (by simp) ?_;simp only[Qr,PE.cells,KL,eE,seval];refine Qb (Qu3 x.name hs) rfl rfl rfl (.inl rfl) ?_;cases J1 x.name
 ·simp only[QWg,QVT,Qa,seval]
 ·simp only[QWn,QWo,eE,seval];refine Qk (VF x.items hl (fun o=>!XF o.name) 144 [] _ fun o _=>QOc _ o) (by simp only[QVi,QVN,Qa,seval]<;>rfl) ?_;simp only[Xk,Qa,seval]

theorem QOf (x y:PG):Qh Tryz.prog 146 [Qn x,Qn y] m fun r m1=>r=.bool ((XG PG.name) x y)∧m1=m:=by
 refine QLa.go (by simp) ?_;simp only[Qn,PG.cells,QM,XG,eE,seval]

theorem QOg (x y:PE):Qh Tryz.prog 148 [Qr x,Qr y] m fun r m1=>r=.bool ((XG PE.name) x y)∧m1=m:=by
 refine QLd.go (by simp) ?_;simp only[Qr,PE.cells,QM,XG,eE,seval]

theorem QOh (x y:PO):Qh Tryz.prog 151 [Qt x,Qt y] m fun r m1=>r=.bool ((X6 PO.num) x y)∧m1=m:=by
 refine Qeb.go (by simp) ?_;simp only[Qt,PO.cells,X6,eE,seval]

theorem QOi (x y:PI):Qh Tryz.prog 154 [Xg x,Xg y] m fun r m1=>r=.bool ((X6 PI.num) x y)∧m1=m:=by
 refine QLm.go (by simp) ?_;simp only[Xg,PI.cells,X6,eE,seval]

theorem QOj (g:PG)(hl:g.ops.length≤maxLen):Qh Tryz.prog 149 [Qn g] m fun y m1=>y=.bool (!Je g)∧m1=m:=by
 refine QdV.go (by simp) ?_;simp only[Qn,PG.cells,Je,eE,seval];refine Qk (QNW g.ops hl (X6 PO.num) 151 [] _ fun x _ y _=>QOh _ x y) (by simp only[QVi,QVN,Qa,seval]<;>rfl) ?_;simp only[Qa,seval]

theorem QOk (x:PE)(hl:x.items.length≤maxLen):Qh Tryz.prog 152 [Qr x] m fun y m1=>y=.bool (!JG x)∧m1=m:=by
 refine QLg.go (by simp) ?_;simp only[Qr,PE.cells,JG,eE,seval];refine Qk (QNY x.items hl (X6 PI.num) 154 [] _ fun x _ y _=>QOi _ x y) (by simp only[QVi,QVN,Qa,seval]<;>rfl) ?_;simp only[Qa,seval]

end

section
variable {M:Nat}(P:PL)(hP:P.ok M)(hM:M≤17592186044000)
include hP hM

omit hM in
theorem z83:Qj Tryz.prog 83 [P.av] (.bool (!U6 P)):=by
 have e0:P.av=.agg [.list (P.progs.map Qn),.list (P.enums.map Qr)]:=rfl;have e1:decide ((if (P.progs.length:Int)<(P.enums.length:Int)then(P.enums.length:Int)else(P.progs.length:Int)) > 64)=!(decide (P.progs.length≤64)&&decide (P.enums.length≤64)):=by
  rw[Bool.not_and];split<;>exact(by rw[QVG];simp only[QUR,QVK,QWD,QUQ];omega)
 refine k83.fn (by simp) ?_;simp only[e0,QVH,e1,U6,eE,seval];cases(decide (P.progs.length≤64)&&decide (P.enums.length≤64))
 ·simp only[QVT,QWg,Qa,seval]
 simp only[QWo,QWn,eE,seval];refine Qk (G8 P.progs hP.len1 (fun g=>!ZX g) 134 [] _ fun o _=>QN9 _ o) (by simp only[QVi,QVN,Qa,seval]<;>rfl) ?_;simp only[Xk,Qa,seval];cases P.progs.all ZX
 ·simp only[QVT,QWg,Qa,seval]
 simp only[QWo,QWn,eE,seval];refine Qk (Ho P.enums hP.len2 (fun g=>!Jt g) 136 [] _ fun o _=>QOa _ o) (by simp only[QVi,QVN,Qa,seval]<;>rfl) ?_;simp only[Xk,Qa,seval]

omit hM in
theorem QOl (hN1:∀g∈P.progs,g.name.length≤17592186044000)(hN2:∀g∈P.enums,g.name.length≤17592186044000):Qj Tryz.prog 84 [P.av] (.bool (!F1 P)):=by
 have e0:P.av=.agg [.list (P.progs.map Qn),.list (P.enums.map Qr)]:=rfl;refine k84.fn (by simp) ?_;simp only[e0,F1,eE,seval];refine Qk (G8 P.progs hP.len1 (fun g=>!Kk g) 137 [] _ fun o ho=>QOd _ o (hN1 o ho) (hP.progs o ho).len) (by simp only[QVi,QVN,Qa,seval]<;>rfl) ?_;simp only[Xk,Qa,seval];cases P.progs.all Kk
 ·simp only[QVT,QWg,Qa,seval]
 simp only[QWo,QWn,eE,seval];refine Qk (Ho P.enums hP.len2 (fun g=>!KL g) 142 [] _ fun o ho=>QOe _ o (hN2 o ho) (hP.enums o ho).len1) (by simp only[QVi,QVN,Qa,seval]<;>rfl) ?_;simp only[Xk,Qa,seval]

omit hM in
theorem z85:Qj Tryz.prog 85 [P.av] (.bool (!U7 P)):=by
 have e0:P.av=.agg [.list (P.progs.map Qn),.list (P.enums.map Qr)]:=rfl;refine k85.fn (by simp) ?_;simp only[e0,U7,eE,seval];refine Qk (QNV P.progs hP.len1 (XG PG.name) 146 [] _ fun x _ y _=>QOf _ x y) (by simp only[QVi,QVN,Qa,seval]<;>rfl) ?_;simp only[Qa,seval];cases XQ P.progs (XG PG.name)
 ·simp only[QVT,QWg,Qa,seval]
 simp only[QWo,QWn,eE,seval];refine Qk (QNX P.enums hP.len2 (XG PE.name) 148 [] _ fun x _ y _=>QOg _ x y) (by simp only[QVi,QVN,Qa,seval]<;>rfl) ?_;simp only[Qa,seval];cases XQ P.enums (XG PE.name)
 ·simp only[QVT,QWg,Qa,seval]
 simp only[QWo,QWn,eE,seval];refine Qk (G8 P.progs hP.len1 (fun g=>!Je g) 149 [] _ fun o ho=>QOj _ o (hP.progs o ho).len) (by simp only[QVi,QVN,Qa,seval]<;>rfl) ?_;simp only[Xk,Qa,seval];cases P.progs.all Je
 ·simp only[QVT,QWg,Qa,seval]
 simp only[QWo,QWn,eE,seval];refine Qk (Ho P.enums hP.len2 (fun g=>!JG g) 152 [] _ fun o ho=>QOk _ o (hP.enums o ho).len1) (by simp only[QVi,QVN,Qa,seval]<;>rfl) ?_;simp only[Xk,Qa,seval]

end

theorem SF (n c:Nat):AV.shN n (.fn (.func c) [] [])=.fn (.func c) [] []:=by
 induction n with
 |zero=>rfl
 |succ n ih=>rw[AV.shN,ih];rfl

theorem QOm (nm:PO→List UInt8)(c:Nat)(hn:∀x,Qj Tryz.prog c [Qt x] (.str (nm x)))(y x:PO)(fr:Nat→Ob)(m:Qp)(h3:fr 3=.cells [.fn (.func c) [] []])(h6:fr 6=.cells x.cells) :
  Qh Tryz.prog 212 [Qt y,.ptr 3 3 0,.ptr 3 6 0] (Qe :: Qe :: Qe :: fr :: m) fun r m1=>r=.bool (nm y==nm x)∧m1=Qe :: Qe :: Qe :: fr :: m:=by
 have hy:=hn y;have hx:=hn x;have g3:∀n,AV.shN n (.fn (.func c) [] [])=.fn (.func c) [] []:=fun n=>SF n c
 simp only[Qt,PO.cells]at hy hx h6;refine Qir.go (by simp) ?_;simp only[Qt,PO.cells,h3,g3,eE,seval];refine JZ (fa:=[]) (fb:=[]) (by rfl) hy rfl rfl rfl (.inl rfl) ?_;simp only[h3,h6,g3,eE,seval];refine JZ (fa:=[]) (fb:=[]) (by rfl) hx rfl rfl rfl (.inl rfl) ?_;simp only[QM,Qa,seval]

section
variable (L:List PO)(hl:L.length≤maxLen)(nm:PO→List UInt8)(c:Nat)(m:Qp)

def ReO (k:Nat)(st:St):Prop :=
 ∃f fr i,st=⟨f,fr :: m,[]⟩∧k=L.length-i∧QC (uniq L nm) i=true∧f 0=.list (L.map Qt)∧f 3=.ptr 0 3 0∧f 7=.list (L.map Qt)∧f 8=.int .i64 (L.length:Nat)∧f 9=.int .i64 (i:Nat)∧fr 3=.cells [.fn (.func c) [] []]∧∀s∈[6],(fr s).isRow=false

include hl in
theorem QOn (hn:∀x,Qj Tryz.prog c [Qt x] (.str (nm x))) :
  Qh Tryz.prog 157 [.list (L.map Qt),.fn (.func c) [] []] m fun y m1=>y=.bool (!Ki L nm)∧m1=m:=by
 refine Qes.go (by simp) ?_;simp only[QVH,eE,seval];refine Qd (ReO L nm c m) _ ⟨_,_,0,rfl,rfl,rfl,(by rfl),(by rfl),(by rfl),(by rfl),(by rfl),(by rfl),by simp<;>rfl⟩ ?_;rintro _ st ⟨f0,fr0,i,rfl,rfl,hx,h00,h30,h70,h80,h90,m30,r6⟩;refine QO (a:=_) [6] r6 ?_;intro f fr hf hm hn6;have h0:f 0=.list (L.map Qt):=by rw[hf,h00]<;>rfl
 have h3:f 3=.ptr 0 3 0:=by rw[hf,h30]<;>rfl
 have h7:f 7=.list (L.map Qt):=by rw[hf,h70]<;>rfl
 have h8:f 8=.int .i64 (L.length:Nat):=by rw[hf,h80]<;>rfl
 have h9:f 9=.int .i64 (i:Nat):=by rw[hf,h90]<;>rfl
 have m3:fr 3=.cells [.fn (.func c) [] []]:=by rw[hm 3 (by decide),m30]<;>rfl
 have n6:=hn6 6 (by decide);clear hf hm hn6 h00 h30 h70 h80 h90 m30 r6;simp only[h8,h9,Qa,seval];by_cases hlt:i<L.length
 ·obtain⟨x,hi⟩:∃x,L[i]? = some x:=⟨L[i],QUN hlt⟩;have hg:(L.map Qt)[i]? = some (Qt x):=by simp[hi]
  have e1:=Qq i _ hlt hl;have hle:(i≤L.length)=True:=eq_true (by omega);have ht:((L.map Qt).drop 0).take (i-0)=(L.take i).map Qt:=by simp
  have hstep:QC (uniq L nm) (i+1)=!(L.take i).any fun y=>nm y==nm x:=by
   rw[QC,hx,QWn,Uy hi,G7]
  have hcl:=fun(fr:Nat→Ob) (h3:fr 3=.cells [.fn (.func c) [] []]) (h6:fr 6=.cells x.cells)=>F4 (L.take i) (by simp;omega) (fun y=>nm y==nm x) 212 [.ptr 0 3 0,.ptr 0 6 0] (fr :: m) fun y _=>QOm nm c hn y x fr m h3 h6
  simp only[Qm hlt,Qi,QWd,Qc,hg,Qt,PO.cells,n6,h0,h7,h9,ZH,Zy,Q4,QWk,QVH,QUU,QUK,hle,true_or,QV5,←List.map_take,eE,seval];refine Qk (hcl _ (by exact m3) (by rfl)) (by simp only[QVi,QVN,h3,Qa,seval]<;>rfl) ?_;cases hp:(L.take i).any fun y=>nm y==nm x
  ·rw[hp]at hstep;simp only[h9,e1,Qa,seval];exact⟨L.length-(i+1),by omega,_,_,i+1,rfl,rfl,hstep,(by exact h0),(by exact h3),(by exact h7),(by exact h8),(by rfl),(by exact m3),by simp<;>rfl⟩
  ·rw[hp]at hstep;have hf:Ki L nm=false:=by
    rw[QWz];intro h';rw[QK.2 fun k hk=>QK.1 h' k (by omega)]at hstep;cases hstep
   simp only[hf,QVT,Qa,seval]
 ·have hf:Ki L nm=true:=QK.2 fun k hk=>QK.1 hx k (by omega)
  simp only[QB hlt,hf,QWo,Qa,seval]

end

theorem QOo (nm:PI→List UInt8)(c:Nat)(hn:∀x,Qj Tryz.prog c [Xg x] (.str (nm x)))(y x:PI)(fr:Nat→Ob)(m:Qp)(h3:fr 3=.cells [.fn (.func c) [] []])(h6:fr 6=.cells x.cells) :
  Qh Tryz.prog 213 [Xg y,.ptr 3 3 0,.ptr 3 6 0] (Qe :: Qe :: Qe :: fr :: m) fun r m1=>r=.bool (nm y==nm x)∧m1=Qe :: Qe :: Qe :: fr :: m:=by
 have hy:=hn y;have hx:=hn x;have g3:∀n,AV.shN n (.fn (.func c) [] [])=.fn (.func c) [] []:=fun n=>SF n c
 simp only[Xg,PI.cells]at hy hx h6;refine QMj.go (by simp) ?_;simp only[Xg,PI.cells,h3,g3,eE,seval];refine JZ (fa:=[]) (fb:=[]) (by rfl) hy rfl rfl rfl (.inl rfl) ?_;simp only[h3,h6,g3,eE,seval];refine JZ (fa:=[]) (fb:=[]) (by rfl) hx rfl rfl rfl (.inl rfl) ?_;simp only[QM,Qa,seval]

section
variable (L:List PI)(hl:L.length≤maxLen)(nm:PI→List UInt8)(c:Nat)(m:Qp)

def ReI (k:Nat)(st:St):Prop :=
 ∃f fr i,st=⟨f,fr :: m,[]⟩∧k=L.length-i∧QC (uniq L nm) i=true∧f 0=.list (L.map Xg)∧f 3=.ptr 0 3 0∧f 7=.list (L.map Xg)∧f 8=.int .i64 (L.length:Nat)∧f 9=.int .i64 (i:Nat)∧fr 3=.cells [.fn (.func c) [] []]∧∀s∈[6],(fr s).isRow=false

include hl in
theorem QOp (hn:∀x,Qj Tryz.prog c [Xg x] (.str (nm x))) :
  Qh Tryz.prog 160 [.list (L.map Xg),.fn (.func c) [] []] m fun y m1=>y=.bool (!Ki L nm)∧m1=m:=by
 refine QLv.go (by simp) ?_;simp only[QVH,eE,seval];refine Qd (ReI L nm c m) _ ⟨_,_,0,rfl,rfl,rfl,(by rfl),(by rfl),(by rfl),(by rfl),(by rfl),(by rfl),by simp<;>rfl⟩ ?_;rintro _ st ⟨f0,fr0,i,rfl,rfl,hx,h00,h30,h70,h80,h90,m30,r6⟩;refine QO (a:=_) [6] r6 ?_;intro f fr hf hm hn6;have h0:f 0=.list (L.map Xg):=by rw[hf,h00]<;>rfl
 have h3:f 3=.ptr 0 3 0:=by rw[hf,h30]<;>rfl
 have h7:f 7=.list (L.map Xg):=by rw[hf,h70]<;>rfl
 have h8:f 8=.int .i64 (L.length:Nat):=by rw[hf,h80]<;>rfl
 have h9:f 9=.int .i64 (i:Nat):=by rw[hf,h90]<;>rfl
 have m3:fr 3=.cells [.fn (.func c) [] []]:=by rw[hm 3 (by decide),m30]<;>rfl
 have n6:=hn6 6 (by decide);clear hf hm hn6 h00 h30 h70 h80 h90 m30 r6;simp only[h8,h9,Qa,seval];by_cases hlt:i<L.length
 ·obtain⟨x,hi⟩:∃x,L[i]? = some x:=⟨L[i],QUN hlt⟩;have hg:(L.map Xg)[i]? = some (Xg x):=by simp[hi]
  have e1:=Qq i _ hlt hl;have hle:(i≤L.length)=True:=eq_true (by omega);have ht:((L.map Xg).drop 0).take (i-0)=(L.take i).map Xg:=by simp
  have hstep:QC (uniq L nm) (i+1)=!(L.take i).any fun y=>nm y==nm x:=by
   rw[QC,hx,QWn,Uy hi,G7]
  have hcl:=fun(fr:Nat→Ob) (h3:fr 3=.cells [.fn (.func c) [] []]) (h6:fr 6=.cells x.cells)=>VF (L.take i) (by simp;omega) (fun y=>nm y==nm x) 213 [.ptr 0 3 0,.ptr 0 6 0] (fr :: m) fun y _=>QOo nm c hn y x fr m h3 h6
  simp only[Qm hlt,Qi,QWd,Qc,hg,Xg,PI.cells,n6,h0,h7,h9,ZH,Zy,Q4,QWk,QVH,QUU,QUK,hle,true_or,QV5,←List.map_take,eE,seval];refine Qk (hcl _ (by exact m3) (by rfl)) (by simp only[QVi,QVN,h3,Qa,seval]<;>rfl) ?_;cases hp:(L.take i).any fun y=>nm y==nm x
  ·rw[hp]at hstep;simp only[h9,e1,Qa,seval];exact⟨L.length-(i+1),by omega,_,_,i+1,rfl,rfl,hstep,(by exact h0),(by exact h3),(by exact h7),(by exact h8),(by rfl),(by exact m3),by simp<;>rfl⟩
  ·rw[hp]at hstep;have hf:Ki L nm=false:=by
    rw[QWz];intro h';rw[QK.2 fun k hk=>QK.1 h' k (by omega)]at hstep;cases hstep
   simp only[hf,QVT,Qa,seval]
 ·have hf:Ki L nm=true:=QK.2 fun k hk=>QK.1 hx k (by omega)
  simp only[QB hlt,hf,QWo,Qa,seval]

end

theorem QOq (o:PO):Qj Tryz.prog 158 [Qt o] (.str o.name):=by
 refine Qex.fn (by simp) ?_;simp only[Qt,PO.cells,eE,seval]

theorem QOr (o:PI):Qj Tryz.prog 161 [Xg o] (.str o.name):=by
 refine QLy.fn (by simp) ?_;simp only[Xg,PI.cells,eE,seval]

theorem QOs (x:PE)(g:PG)(fr:Nat→Ob)(m:Qp)(h2:fr 2=.cells g.cells):Qh Tryz.prog 156 [Qr x,.ptr 3 2 0] (Qe :: Qe :: Qe :: fr :: m) fun y m1=>y=.bool (x.name==g.name)∧m1=Qe :: Qe :: Qe :: fr :: m:=by
 simp only[PG.cells]at h2;refine QLp.go (by simp) ?_;simp only[Qr,PE.cells,h2,QM,eE,seval]

theorem QOt (x:PE)(hl:x.items.length≤maxLen)(m:Qp):Qh Tryz.prog 159 [Qr x] m fun y m1=>y=.bool (!Wi x)∧m1=m:=by
 refine QLs.go (by simp) ?_;simp only[Qr,PE.cells,Wi,eE,seval];refine Qk (QOp x.items hl PI.name 161 _ QOr) (by simp only[QVi,QVN,Qa,seval]<;>rfl) ?_;simp only[Qa,seval]

section
variable {M:Nat}(P:PL)(hP:P.ok M)
include hP

theorem QOu (g:PG)(hl:g.ops.length≤maxLen)(fr:Nat→Ob)(h1:fr 1=.cells [.list (P.progs.map Qn),.list (P.enums.map Qr)]) :
  Qh Tryz.prog 155 [Qn g,.ptr 3 1 0] [Qe,Qe,Qe,fr] fun y m1=>y=.bool (!Km P g)∧m1=[Qe,Qe,Qe,fr]:=by
 have e:Km P g=(!(P.enums.any fun e=>e.name==g.name)&&Ki g.ops PO.name):=by rw[Km,G7]
 refine Qeg.go (by simp) ?_;simp only[Qn,PG.cells,h1,e,eE,seval];refine Qk (Ho P.enums hP.len2 (fun e=>e.name==g.name) 156 [.ptr 0 2 0] _ fun o _=>QOs o g _ _ (by rfl)) (by simp only[QVi,QVN,Qa,seval]<;>rfl) ?_;cases P.enums.any fun e=>e.name==g.name
 ·simp only[QVT,QWn,eE,seval];refine Qk (QOn g.ops hl PO.name 158 _ QOq) (by simp only[QVi,QVN,Qa,seval]<;>rfl) ?_;simp only[Qa,seval]
 ·simp only[QWo,QWg,QVT,Qa,seval]

theorem z86:Qj Tryz.prog 86 [P.av] (.bool (!F2 P)):=by
 have e0:P.av=.agg [.list (P.progs.map Qn),.list (P.enums.map Qr)]:=rfl;refine k86.fn (by simp) ?_;simp only[e0,F2,eE,seval];refine Qk (G8 P.progs hP.len1 (fun g=>!Km P g) 155 [.ptr 0 1 0] _ fun o ho=>QOu P hP o (hP.progs o ho).len _ (by rfl)) (by simp only[QVi,QVN,Qa,seval]<;>rfl) ?_;simp only[Xk,Qa,seval];cases P.progs.all (Km P)
 ·simp only[QVT,QWg,Qa,seval]
 simp only[QWo,QWn,eE,seval];refine Qk (Ho P.enums hP.len2 (fun g=>!Wi g) 159 [] _ fun o ho=>QOt o (hP.enums o ho).len1 _) (by simp only[QVi,QVN,Qa,seval]<;>rfl) ?_;simp only[Xk,Qa,seval]

end

theorem QOv (x:PS)(n:Int)(fr:Nat→Ob)(m:Qp)(h3:fr 3=.cells [.int .i64 n]):Qh Tryz.prog 247 [X0 x,.ptr 2 3 0] (Qe :: Qe :: fr :: m) fun y m1=>y=.bool (decide (x.lo≤n)&&decide (n≤x.hi))∧m1=Qe :: Qe :: fr :: m:=by
 refine QMS.go (by simp) ?_;simp only[X0,PS.cells,h3,eE,seval];cases h:decide (x.lo≤n)<;>simp only[h3,QWn,QWg,eE,seval]

theorem QOw (L:List PS)(hl:L.length≤maxLen)(n:Int):Qj Tryz.prog 215 [.list (L.map X0),.int .i64 n] (.bool (kept L n)):=by
 refine QMp.fn (by simp) ?_;simp only[eE,seval];refine Qk (QNS L hl (fun x=>decide (x.lo≤n)&&decide (n≤x.hi)) 247 [.ptr 0 3 0] _ fun o _=>QOv o n _ _ (by rfl)) (by simp only[QVi,QVN,Qa,seval]<;>rfl) ?_;simp only[kept,Qa,seval]

theorem QOx (o:PO)(m:Qp):Qh Tryz.prog 163 [Qt o] m fun y m1=>y=.bool (!Zj o)∧m1=m:=by
 refine QeH.go (by simp) ?_;have e1:decide (o.num<1)=!decide (o.num≥1):=(by rw[QVG];simp only[QUR,QVK,QWD];omega);have e2:decide (o.num > 65535)=!decide (o.num≤65535):=(by rw[QVG];simp only[QUR,QVK,QWD];omega);simp only[Qt,PO.cells,Zj,e1,eE,seval];cases decide (o.num≥1)<;>simp only[QWo,QVT,QWn,QWg,e2,eE,seval]

theorem QOy (g:PG)(hl:g.ops.length≤maxLen)(m:Qp):Qh Tryz.prog 162 [Qn g] m fun y m1=>y=.bool (!g.ops.all Zj)∧m1=m:=by
 refine QeC.go (by simp) ?_;simp only[Qn,PG.cells,eE,seval];refine Qk (F4 g.ops hl (fun o=>!Zj o) 163 [] _ fun o _=>QOx o _) (by simp only[QVi,QVN,Qa,seval]<;>rfl) ?_;simp only[Xk,Qa,seval]

theorem QOz (o:PI)(x:PE)(hl:x.free.length≤maxLen)(fr:Nat→Ob)(m:Qp)(h1:fr 1=.cells x.cells):Qh Tryz.prog 214 [Xg o,.ptr 3 1 0] (Qe :: Qe :: Qe :: fr :: m) fun y m1=>y=.bool (!WR x o)∧m1=Qe :: Qe :: Qe :: fr :: m:=by
 have hr:Qj Tryz.prog 215 [.list (x.free.map fun n=>AV.agg n.cells),.int .i64 o.num] (.bool (kept x.free o.num)):=QOw x.free hl o.num;simp only[PE.cells]at h1;refine QMm.go (by simp) ?_;have e2:decide (o.num > 2147483647)=!decide (o.num≤2147483647):=(by rw[QVG];simp only[QUR,QVK,QWD];omega);simp only[Xg,PI.cells,WR,e2,eE,seval];cases decide (o.num≤2147483647)
 ·simp only[QVT,QWg,Qa,seval]
 ·simp only[QWo,QWn,h1,eE,seval];refine Qb hr rfl rfl rfl (.inl rfl) ?_;simp only[Bool.not_not,Qa,seval]

def KQ (l:List PS)(i:Nat):Bool:=U5 l Gj i&&Xb l YN i
theorem NG (l:List PS):QC (KQ l) l.length=(l.all Gj&&XQ l YN):=by
 unfold KQ XQ;rw[Hm,Hn]

def OuI (x:PE)(m:Qp)(k:Nat)(st:St):Prop :=
 ∃f fr i,st=⟨f,fr :: m,[]⟩∧k=x.free.length-i∧QC (KQ x.free) i=true∧f 1=.ptr 0 1 0∧f 6=.list (x.free.map X0)∧f 7=.int .i64 (x.free.length:Nat)∧f 8=.int .i64 (i:Nat)∧fr 1=.cells x.cells∧∀s∈[4],(fr s).isRow=false

theorem QOA (x:PE)(h0:x.items≠[])(hl1:x.items.length≤maxLen)(hl:x.free.length≤maxLen)(m:Qp):Qh Tryz.prog 164 [Qr x] m fun y m1=>y=.bool (!Jf x)∧m1=m:=by
 have hsp:=NG x.free;have z1:Int.toNat 0=0:=rfl;have z0:(0≤(0:Int))=True:=by simp
 refine QLB.go (by simp) ?_;simp only[Qr,PE.cells,QVH,eE,seval];refine Qd (OuI x m) _ ⟨_,_,0,rfl,rfl,rfl,(by rfl),(by rfl),(by rfl),(by rfl),(by rfl),by simp<;>rfl⟩ ?_;rintro _ st ⟨f0,fr0,i,rfl,rfl,hx,h10,h60,h70,h80,m10,r4⟩;refine QO (a:=_) [4] r4 ?_;intro f fr hf hm hn4;have h1:f 1=.ptr 0 1 0:=by rw[hf,h10]<;>rfl
 have h6:f 6=.list (x.free.map X0):=by rw[hf,h60]<;>rfl
 have h7:f 7=.int .i64 (x.free.length:Nat):=by rw[hf,h70]<;>rfl
 have h8:f 8=.int .i64 (i:Nat):=by rw[hf,h80]<;>rfl
 have m1:fr 1=.cells x.cells:=by rw[hm 1 (by decide),m10]<;>rfl
 have n4:=hn4 4 (by decide);clear hf hm hn4 h10 h60 h70 h80 m10 r4;simp only[PE.cells]at m1;simp only[h7,h8,Qa,seval];by_cases hlt:i<x.free.length
 ·obtain⟨y,hi⟩:∃y,x.free[i]? = some y:=⟨x.free[i],QUN hlt⟩;have hg:(x.free.map X0)[i]? = some (X0 y):=by simp[hi]
  have e1:=Qq i _ hlt hl;have hstep:QC (KQ x.free) (i+1)=(Gj y&&Xb x.free YN i):=by
   rw[QC,hx,QWn,KQ,W0 hi]
  have hend:QC (KQ x.free) (i+1)=false→Jf x=false:=by
   intro h;unfold Jf;rw[←hsp];have:QC (KQ x.free) x.free.length=false:=by
    rw[QWz];intro h';rw[QK.2 fun k hk=>QK.1 h' k (by omega)]at h;cases h
   rw[this];rfl
  have fin:∀(f':Fr) (fr':Nat→Ob),QC (KQ x.free) (i+1)=true→f' 1=.ptr 0 1 0→f' 6=.list (x.free.map X0)→f' 7=.int .i64 (x.free.length:Nat)→f' 8=.int .i64 ((i+1:Nat):Int)→fr' 1=.cells x.cells→(∀s∈[4],(fr' s).isRow=false)→∃k,k<x.free.length-i∧OuI x m k ⟨f',fr' :: m,[]⟩:=by
   intro f' fr' a b c d e g h;exact⟨x.free.length-(i+1),by omega,f',fr',i+1,rfl,rfl,a,b,c,d,e,g,h⟩
  have s1:Gj y=(!decide (y.lo<0) && !decide (y.hi > 2147483647) && !decide (y.hi<y.lo)):=by
   unfold Gj;exact(by rw[QVG];simp only[QUR,QVK,QWD,QVa];omega)
  rw[s1]at hstep;simp only[Qm hlt,Qi,QWd,Qc,hg,X0,PS.cells,n4,h6,h8,eE,seval];cases a1:decide (y.lo<0)
  case true=>
   rw[a1,QWo,QWg,QWg,QWg]at hstep;simp only[hend hstep,QVT,Qa,seval]
  cases a2:decide (y.hi > 2147483647)
  case true=>
   rw[a1,a2,QWo,QWE,QWg,QWg]at hstep;simp only[a2,hend hstep,QVT,eE,seval]
  cases a3:decide (y.hi<y.lo)
  case true=>
   rw[a1,a2,a3,QWo,QWE,QWg]at hstep;simp only[a2,a3,hend hstep,QVT,eE,seval]
  rw[a1,a2,a3]at hstep;simp only[QVT,QWn]at hstep;cases i with
  |zero=>
   have d0:decide (((0:Nat):Int) > 0)=false:=rfl;rw[Yj]at hstep;simp only[a2,a3,h8,eE,seval];exact fin _ _ hstep (by exact h1) (by exact h6) (by exact h7) (by rfl) (by exact m1) (by simp<;>rfl)
  |succ j=>
   have d0:decide (((j+1:Nat):Int) > 0)=true:=QWC (by omega);obtain⟨z,hj⟩:∃z,x.free[j]? = some z:=⟨x.free[j]'(by omega),QUN (by omega)⟩;have hgj:(x.free.map fun n=>AV.agg n.cells)[j]? = some (.agg z.cells):=by simp[hj]
   simp only[PS.cells]at hgj;rw[Jd hj hi]at hstep;have w:=Wj j _ hlt hl;have s2:YN z y=!decide (y.lo≤z.hi):=by unfold YN;exact(by rw[QVG];simp only[QUR,QVK,QWD];omega)
   rw[s2]at hstep;simp only[a2,a3,d0,w,Qi,QWd,Qc,hgj,PS.cells,h1,m1,eE,seval];cases a4:decide (y.lo≤z.hi)
   ·rw[a4]at hstep;simp only[h8,e1,Qa,seval];exact fin _ _ hstep (by exact h1) (by exact h6) (by exact h7) (by rfl) (by exact m1) (by simp<;>rfl)
   ·rw[a4]at hstep;simp only[hend hstep,QVT,Qa,seval]
 ·have hfr:QC (KQ x.free) x.free.length=true:=QK.2 fun k hk=>QK.1 hx k (by omega)
  obtain⟨it,Qf,hits⟩:∃it Qf,x.items=it :: Qf:=by
   cases h:x.items with
   |nil=>exact absurd h h0
   |cons a b=>exact⟨a,b,rfl⟩
  have hr:Jf x=(it.num==0&&x.items.all (WR x)):=by
   unfold Jf;rw[←hsp,hfr,QWn,Y5,hits]
  have hg0:(x.items.map fun n=>AV.agg n.cells)[0]? = some (.agg it.cells):=by simp[hits]
  have hne:(it.num != 0)=!(it.num==0):=rfl;simp only[PI.cells]at hg0;simp only[QB hlt,Qc,z0,z1,hg0,PI.cells,hr,hne,QU1,QVI,h1,m1,eE,seval];cases it.num==0
  ·simp only[QVT,QWg,Qa,seval]
  ·simp only[QWo,QWn,m1,h1,eE,seval];refine Qk (VF x.items hl1 (fun o=>!WR x o) 214 [.ptr 0 1 0] _ fun o _=>QOz o x hl _ _ (by exact m1)) (by simp only[QVi,QVN,h1,Qa,seval]<;>rfl) ?_;simp only[Xk,Qa,seval]

theorem z87 {M:Nat}(P:PL)(hP:P.ok M)(hi:∀e∈P.enums,e.items≠[]):Qj Tryz.prog 87 [P.av] (.bool (!F3 P)):=by
 have e0:P.av=.agg [.list (P.progs.map Qn),.list (P.enums.map Qr)]:=rfl;refine k87.fn (by simp) ?_;simp only[e0,F3,eE,seval];refine Qk (G8 P.progs hP.len1 (fun g=>!g.ops.all Zj) 162 [] _ fun o ho=>QOy o (hP.progs o ho).len _) (by simp only[QVi,QVN,Qa,seval]<;>rfl) ?_;simp only[Xk,Qa,seval];cases P.progs.all fun g=>g.ops.all Zj
 ·simp only[QVT,QWg,Qa,seval]
 simp only[QWo,QWn,eE,seval];refine Qk (Ho P.enums hP.len2 (fun g=>!Jf g) 164 [] _ fun o ho=>QOA o (hi o ho) (hP.enums o ho).len1 (hP.enums o ho).len2 _) (by simp only[QVi,QVN,Qa,seval]<;>rfl) ?_;simp only[Xk,Qa,seval]

end Go.Proofs.YtipjfckmopekaaaGreatDoor.Va

namespace Go.Proofs.YtipjfckmopekaaaGreatDoor.Va
open Go Am Rc Bt

def bt (s:List UInt8)(i lo hi:Nat):Bool :=
 match s[i]? with
 |some b=>decide (lo≤b.toNat)&&decide (b.toNat≤hi)
 |none=>false
def tl (s:List UInt8):Nat→Nat→Bool
 |_,0=>true
 |i,n+1=>bt s i 128 191&&tl s (i+1) n
def DI (s:List UInt8)(i b:Nat):Nat :=
 if b<128 then 1
 else if 194≤b∧b≤223∧tl s (i+1) 1=true then 2
 else if b=224∧bt s (i+1) 160 191=true∧tl s (i+2) 1=true then 3
 else if b=237∧bt s (i+1) 128 159=true∧tl s (i+2) 1=true then 3
 else if 225≤b∧b≤239∧b≠237∧tl s (i+1) 2=true then 3
 else if b=240∧bt s (i+1) 144 191=true∧tl s (i+2) 2=true then 4
 else if 241≤b∧b≤243∧tl s (i+1) 3=true then 4
 else if b=244∧bt s (i+1) 128 143=true∧tl s (i+2) 2=true then 4
 else 0
def sz (s:List UInt8)(i:Nat):Nat :=
 match s[i]? with
 |none=>0
 |some c=>DI s i c.toNat
def WI (s:List UInt8):Nat→Nat→Int
 |0,_=>-1
 |k+1,i=>if i<s.length then(if sz s i=0 then(i:Int)else WI s k (i+sz s i))else -1
def U8 (s:List UInt8):Bool:=decide (WI s s.length 0<0)

theorem QOB (c:UInt8)(n:Nat):decide ((c.toNat:Int)≥(n:Int))=decide (n≤c.toNat):=by simp
theorem QOC (c:UInt8)(n:Nat):decide ((c.toNat:Int)≤(n:Int))=decide (c.toNat≤n):=by simp

theorem F9 (s:List UInt8)(i lo hi:Nat):Qj Tryz.prog 272 [.str s,.int .i64 (i:Nat),.int .u8 (lo:Nat),.int .u8 (hi:Nat)] (.bool (bt s i lo hi)):=by
 refine QNe.fn (by simp) ?_;by_cases hlt:i<s.length
 ·obtain⟨c,hc⟩:∃c,s[i]? = some c:=⟨s[i],QUN hlt⟩;have hb:bt s i lo hi=(decide (lo≤c.toNat)&&decide (c.toNat≤hi)):=by simp only[bt,hc]
  simp only[Qm hlt,Qi,QWd,hc,QOB,Qa,seval];by_cases h1:lo≤c.toNat
  ·have d1:decide (lo≤c.toNat)=true:=by simpa using h1
   simp only[d1,Qi,QWd,hc,hb,QOC,QWn,Qa,seval]
  ·have d1:decide (lo≤c.toNat)=false:=by simpa using h1
   simp only[d1,hb,QWg,Qa,seval]
 ·have hb:bt s i lo hi=false:=by simp only[bt,QWa (Nat.le_of_not_lt hlt)]
  simp only[QB hlt,hb,Qa,seval]

def QFF (s:List UInt8)(i n:Nat)(k:Nat)(st:St):Prop :=
 ∃f j,st=⟨f,[Qe],[]⟩∧k=n-j∧j≤n∧tl s i n=tl s (i+j) (n-j)∧f 0=.str s∧f 1=.int .i64 (i:Nat)∧f 2=.int .i64 (n:Nat)∧f 7=.int .i64 (j:Nat)

theorem Ju (a b:Nat)(h:a+b≤maxLen):IntKind.i64.wrap ((a:Int)+(b:Int))=((a+b:Nat):Int):=by
 simp only[maxLen]at h;rw[QG];omega

theorem Hp (s:List UInt8)(i n:Nat)(hi:i+n≤maxLen):Qj Tryz.prog 271 [.str s,.int .i64 (i:Nat),.int .i64 (n:Nat)] (.bool (tl s i n)):=by
 refine QNb.fn (by simp) ?_;simp only[Qa,seval];refine Qd (QFF s i n) _ ⟨_,0,rfl,rfl,QUU _,rfl,rfl,rfl,rfl,rfl⟩ ?_;rintro _ st ⟨f,j,rfl,rfl,hj,ht,h0,h1,h2,h7⟩;simp only[h2,h7,Qa,seval];by_cases hlt:j<n
 ·have e0:=Ju i j (by omega);have e1:=Qq j _ hlt (by omega);simp only[Qm hlt,h0,h1,h7,e0,Qa,seval];refine Qb (F9 s (i+j) 128 191) rfl rfl rfl (.inl rfl) ?_;have hs:tl s i n=(bt s (i+j) 128 191&&tl s (i+(j+1)) (n-(j+1))):=by
   rw[ht];obtain⟨m,hm⟩:∃m,n-j=m+1:=⟨n-j-1,by omega⟩;rw[hm,show n-(j+1)=m by omega];rfl
  cases hb:bt s (i+j) 128 191
  ·rw[hb]at hs;simp only[hs,QWg,Qa,seval]
  ·rw[hb,QWn]at hs;simp only[h7,e1,Qa,seval];exact⟨n-(j+1),by omega,_,j+1,rfl,rfl,by omega,hs,(by exact h0),(by exact h1),(by exact h2),(by rfl)⟩
 ·have hs:tl s i n=true:=by
   rw[ht,show n-j=0 by omega];rfl
  simp only[QB hlt,hs,Qa,seval]

def Ba (s:List UInt8)(i:Nat)(c:UInt8)(D:Nat)(cond:Prop)(g:List Am.Item):Prop :=
 ∀Q:St→Prop,(∀f' B,(B=true↔cond)→f' 0=.str s→f' 1=.int .i64 (i:Nat)→f' 5=.int .u8 (c.toNat:Nat)→f' D=.bool B→Q ⟨f',[Qe],[]⟩)→
  ∀f,f 0=.str s→f 1=.int .i64 (i:Nat)→f 5=.int .u8 (c.toNat:Nat)→QF Tryz.prog g ⟨f,[Qe],[]⟩ Q

section
variable {s:List UInt8}{i:Nat}{c:UInt8}(hi:i<s.length)(hs:s.length+8≤maxLen)
include hi hs

theorem QOD:Ba s i c 12 (194≤c.toNat∧c.toNat≤223∧tl s (i+1) 1=true) FR:=by
 intro Q hQ f h0 h1 h5;have e1:IntKind.i64.wrap ((i:Int)+1)=((i+1:Nat):Int):=Ju i 1 (by omega);have e2:IntKind.i64.wrap ((i:Int)+2)=((i+2:Nat):Int):=Ju i 2 (by omega);simp only[FR,h5,Qa,seval]
 repeat' (first|(refine Q0 (fun h=>?_) (fun h=>?_)<;>simp only[h,h0,h1,h5,e1,e2,eE,seval])|(refine Xz (fun h=>?_) (fun h=>?_)<;>simp only[h,Ql,h0,h1,h5,e1,Qa,seval])|(refine XA (fun h=>?_) (fun h=>?_)<;>simp only[h,Ql,h0,h1,h5,e1,e2,eE,seval])|((with_reducible apply Qb (k:=271));(case hy=>rfl);(case h1=>rfl);(case hk=>exact Hp s (i+1) 1 (by omega));(case h2=>rfl);(case h3=>first|exact .inl rfl|exact .inr rfl);simp only[Qa,seval]))
 all_goals(refine hQ _ _ ?_ (by exact h0) (by exact h1) (by exact h5) rfl)
 all_goals simp only[QUR,QWD]at *
 all_goals
  constructor
  ·intro hh
   first
    |cases hh
    |(refine⟨by omega,?_⟩;first|exact hh|(refine⟨by omega,?_⟩;first|exact hh|(refine⟨by omega,?_⟩;exact hh))|exact⟨by assumption,hh⟩)
  ·intro hh
   first
    |exact hh.2.2.2
    |exact hh.2.2
    |(exfalso;omega)
    |(exfalso;simp_all;done)

theorem QOE:Ba s i c 25 (c.toNat=224∧bt s (i+1) 160 191=true∧tl s (i+2) 1=true) FS:=by
 intro Q hQ f h0 h1 h5;have e1:IntKind.i64.wrap ((i:Int)+1)=((i+1:Nat):Int):=Ju i 1 (by omega);have e2:IntKind.i64.wrap ((i:Int)+2)=((i+2:Nat):Int):=Ju i 2 (by omega);simp only[FS,h5,Qa,seval]
 repeat' (first|(refine Q0 (fun h=>?_) (fun h=>?_)<;>simp only[h,h0,h1,h5,e1,e2,eE,seval])|(refine Xz (fun h=>?_) (fun h=>?_)<;>simp only[h,Ql,h0,h1,e1,e2,Qa,seval])|(refine XA (fun h=>?_) (fun h=>?_)<;>simp only[h,Ql,h0,h1,h5,e1,e2,eE,seval])|((with_reducible apply Qb (k:=272));(case hy=>rfl);(case h1=>rfl);(case hk=>exact F9 s (i+1) 160 191);(case h2=>rfl);(case h3=>first|exact .inl rfl|exact .inr rfl);simp only[Qa,seval])|((with_reducible apply Qb (k:=271));(case hy=>rfl);(case h1=>rfl);(case hk=>exact Hp s (i+2) 1 (by omega));(case h2=>rfl);(case h3=>first|exact .inl rfl|exact .inr rfl);simp only[Qa,seval]))
 all_goals(refine hQ _ _ ?_ (by exact h0) (by exact h1) (by exact h5) rfl)
 all_goals simp only[QUS,QWs,ne_eq]at *
 all_goals
  constructor
  ·intro hh
   first
    |cases hh
    |(refine⟨by omega,?_⟩;first|exact hh|(refine⟨by omega,?_⟩;first|exact hh|(refine⟨by omega,?_⟩;exact hh))|exact⟨by assumption,hh⟩)
  ·intro hh
   first
    |exact hh.2.2.2
    |exact hh.2.2
    |(exfalso;omega)
    |(exfalso;simp_all;done)

theorem QOF:Ba s i c 40 (c.toNat=237∧bt s (i+1) 128 159=true∧tl s (i+2) 1=true) FT:=by
 intro Q hQ f h0 h1 h5;have e1:IntKind.i64.wrap ((i:Int)+1)=((i+1:Nat):Int):=Ju i 1 (by omega);have e2:IntKind.i64.wrap ((i:Int)+2)=((i+2:Nat):Int):=Ju i 2 (by omega);simp only[FT,h5,Qa,seval]
 repeat' (first|(refine Q0 (fun h=>?_) (fun h=>?_)<;>simp only[h,h0,h1,h5,e1,e2,eE,seval])|(refine Xz (fun h=>?_) (fun h=>?_)<;>simp only[h,Ql,h0,h1,e1,e2,Qa,seval])|(refine XA (fun h=>?_) (fun h=>?_)<;>simp only[h,Ql,h0,h1,h5,e1,e2,eE,seval])|((with_reducible apply Qb (k:=272));(case hy=>rfl);(case h1=>rfl);(case hk=>exact F9 s (i+1) 128 159);(case h2=>rfl);(case h3=>first|exact .inl rfl|exact .inr rfl);simp only[Qa,seval])|((with_reducible apply Qb (k:=271));(case hy=>rfl);(case h1=>rfl);(case hk=>exact Hp s (i+2) 1 (by omega));(case h2=>rfl);(case h3=>first|exact .inl rfl|exact .inr rfl);simp only[Qa,seval]))
 all_goals(refine hQ _ _ ?_ (by exact h0) (by exact h1) (by exact h5) rfl)
 all_goals simp only[QUS,QWs,ne_eq]at *
 all_goals
  constructor
  ·intro hh
   first
    |cases hh
    |(refine⟨by omega,?_⟩;first|exact hh|(refine⟨by omega,?_⟩;first|exact hh|(refine⟨by omega,?_⟩;exact hh))|exact⟨by assumption,hh⟩)
  ·intro hh
   first
    |exact hh.2.2.2
    |exact hh.2.2
    |(exfalso;omega)
    |(exfalso;simp_all;done)

theorem QFG:Ba s i c 55 (225≤c.toNat∧c.toNat≤239∧c.toNat≠237∧tl s (i+1) 2=true) G3:=by
 intro Q hQ f h0 h1 h5;have e1:IntKind.i64.wrap ((i:Int)+1)=((i+1:Nat):Int):=Ju i 1 (by omega);have e2:IntKind.i64.wrap ((i:Int)+2)=((i+2:Nat):Int):=Ju i 2 (by omega);simp only[G3,h5,Qa,seval]
 repeat' (first|(refine Q0 (fun h=>?_) (fun h=>?_)<;>simp only[h,h0,h1,h5,e1,e2,eE,seval])|(refine Xz (fun h=>?_) (fun h=>?_)<;>simp only[h,Ql,h0,h1,h5,e1,Qa,seval])|(refine XA (fun h=>?_) (fun h=>?_)<;>simp only[h,Ql,h0,h1,h5,e1,e2,eE,seval])|((with_reducible apply Qb (k:=271));(case hy=>rfl);(case h1=>rfl);(case hk=>exact Hp s (i+1) 2 (by omega));(case h2=>rfl);(case h3=>first|exact .inl rfl|exact .inr rfl);simp only[Qa,seval]))
 all_goals(refine hQ _ _ ?_ (by exact h0) (by exact h1) (by exact h5) rfl)
 all_goals simp only[QUR,QWD,QVc,bne_eq_false_iff_eq,ne_eq]at *
 all_goals
  constructor
  ·intro hh
   first
    |cases hh
    |(refine⟨by omega,?_⟩;first|exact hh|(refine⟨by omega,?_⟩;first|exact hh|(refine⟨by omega,?_⟩;exact hh))|exact⟨by assumption,hh⟩)
  ·intro hh
   first
    |exact hh.2.2.2
    |exact hh.2.2
    |(exfalso;omega)
    |(exfalso;simp_all;done)

theorem QFH:Ba s i c 72 (c.toNat=240∧bt s (i+1) 144 191=true∧tl s (i+2) 2=true) G4:=by
 intro Q hQ f h0 h1 h5;have e1:IntKind.i64.wrap ((i:Int)+1)=((i+1:Nat):Int):=Ju i 1 (by omega);have e2:IntKind.i64.wrap ((i:Int)+2)=((i+2:Nat):Int):=Ju i 2 (by omega);simp only[G4,h5,Qa,seval]
 repeat' (first|(refine Q0 (fun h=>?_) (fun h=>?_)<;>simp only[h,h0,h1,h5,e1,e2,eE,seval])|(refine Xz (fun h=>?_) (fun h=>?_)<;>simp only[h,Ql,h0,h1,e1,e2,Qa,seval])|(refine XA (fun h=>?_) (fun h=>?_)<;>simp only[h,Ql,h0,h1,h5,e1,e2,eE,seval])|((with_reducible apply Qb (k:=272));(case hy=>rfl);(case h1=>rfl);(case hk=>exact F9 s (i+1) 144 191);(case h2=>rfl);(case h3=>first|exact .inl rfl|exact .inr rfl);simp only[Qa,seval])|((with_reducible apply Qb (k:=271));(case hy=>rfl);(case h1=>rfl);(case hk=>exact Hp s (i+2) 2 (by omega));(case h2=>rfl);(case h3=>first|exact .inl rfl|exact .inr rfl);simp only[Qa,seval]))
 all_goals(refine hQ _ _ ?_ (by exact h0) (by exact h1) (by exact h5) rfl)
 all_goals simp only[QUS,QWs,ne_eq]at *
 all_goals
  constructor
  ·intro hh
   first
    |cases hh
    |(refine⟨by omega,?_⟩;first|exact hh|(refine⟨by omega,?_⟩;first|exact hh|(refine⟨by omega,?_⟩;exact hh))|exact⟨by assumption,hh⟩)
  ·intro hh
   first
    |exact hh.2.2.2
    |exact hh.2.2
    |(exfalso;omega)
    |(exfalso;simp_all;done)

theorem QFI:Ba s i c 87 (241≤c.toNat∧c.toNat≤243∧tl s (i+1) 3=true) G5:=by
 intro Q hQ f h0 h1 h5;have e1:IntKind.i64.wrap ((i:Int)+1)=((i+1:Nat):Int):=Ju i 1 (by omega);have e2:IntKind.i64.wrap ((i:Int)+2)=((i+2:Nat):Int):=Ju i 2 (by omega);simp only[G5,h5,Qa,seval]
 repeat' (first|(refine Q0 (fun h=>?_) (fun h=>?_)<;>simp only[h,h0,h1,h5,e1,e2,eE,seval])|(refine Xz (fun h=>?_) (fun h=>?_)<;>simp only[h,Ql,h0,h1,h5,e1,Qa,seval])|(refine XA (fun h=>?_) (fun h=>?_)<;>simp only[h,Ql,h0,h1,h5,e1,e2,eE,seval])|((with_reducible apply Qb (k:=271));(case hy=>rfl);(case h1=>rfl);(case hk=>exact Hp s (i+1) 3 (by omega));(case h2=>rfl);(case h3=>first|exact .inl rfl|exact .inr rfl);simp only[Qa,seval]))
 all_goals(refine hQ _ _ ?_ (by exact h0) (by exact h1) (by exact h5) rfl)
 all_goals simp only[QUR,QWD]at *
 all_goals
  constructor
  ·intro hh
   first
    |cases hh
    |(refine⟨by omega,?_⟩;first|exact hh|(refine⟨by omega,?_⟩;first|exact hh|(refine⟨by omega,?_⟩;exact hh))|exact⟨by assumption,hh⟩)
  ·intro hh
   first
    |exact hh.2.2.2
    |exact hh.2.2
    |(exfalso;omega)
    |(exfalso;simp_all;done)

theorem QFJ:Ba s i c 100 (c.toNat=244∧bt s (i+1) 128 143=true∧tl s (i+2) 2=true) G6:=by
 intro Q hQ f h0 h1 h5;have e1:IntKind.i64.wrap ((i:Int)+1)=((i+1:Nat):Int):=Ju i 1 (by omega);have e2:IntKind.i64.wrap ((i:Int)+2)=((i+2:Nat):Int):=Ju i 2 (by omega);simp only[G6,h5,Qa,seval]
 repeat' (first|(refine Q0 (fun h=>?_) (fun h=>?_)<;>simp only[h,h0,h1,h5,e1,e2,eE,seval])|(refine Xz (fun h=>?_) (fun h=>?_)<;>simp only[h,Ql,h0,h1,e1,e2,Qa,seval])|(refine XA (fun h=>?_) (fun h=>?_)<;>simp only[h,Ql,h0,h1,h5,e1,e2,eE,seval])|((with_reducible apply Qb (k:=272));(case hy=>rfl);(case h1=>rfl);(case hk=>exact F9 s (i+1) 128 143);(case h2=>rfl);(case h3=>first|exact .inl rfl|exact .inr rfl);simp only[Qa,seval])|((with_reducible apply Qb (k:=271));(case hy=>rfl);(case h1=>rfl);(case hk=>exact Hp s (i+2) 2 (by omega));(case h2=>rfl);(case h3=>first|exact .inl rfl|exact .inr rfl);simp only[Qa,seval]))
 all_goals(refine hQ _ _ ?_ (by exact h0) (by exact h1) (by exact h5) rfl)
 all_goals simp only[QUS,QWs,ne_eq]at *
 all_goals
  constructor
  ·intro hh
   first
    |cases hh
    |(refine⟨by omega,?_⟩;first|exact hh|(refine⟨by omega,?_⟩;first|exact hh|(refine⟨by omega,?_⟩;exact hh))|exact⟨by assumption,hh⟩)
  ·intro hh
   first
    |exact hh.2.2.2
    |exact hh.2.2
    |(exfalso;omega)
    |(exfalso;simp_all;done)

end

theorem QOG (s:List UInt8)(i:Nat)(hi:i<s.length)(hs:s.length+8≤maxLen):Qj Tryz.prog 240 [.str s,.int .i64 (i:Nat)] (.int .i64 (sz s i:Nat)):=by
 refine QMJ.fn (by simp) ?_;obtain⟨c,hc⟩:∃c,s[i]? = some c:=⟨s[i],QUN hi⟩;have hz:sz s i=DI s i c.toNat:=by simp only[sz,hc]
 unfold DI at hz;simp only[My,Mz,MA,MB,MD,ME,MF,Nz,NA,NB,NC,ND,Qtb,Qtc,Qi,QWd,hc,Qa,seval];refine Q0 (fun h=>?_) (fun h=>?_)
 ·have h:c.toNat<128:=by simp at h;omega
  rw[hz,QVf h];simp only[Qa,seval]
  try rfl
 have h:¬c.toNat<128:=by simp at h;omega
 rw[hz,QU0 h];simp only[Qa,seval];refine QOD hi hs _ (fun f B hB h0 h1 h5 hd=>?_) _ (by rfl) (by rfl) (by rfl);by_cases hB1:B=true
 ·rw[QVf (hB.1 hB1)];subst hB1;simp only[hd,Qa,seval]
  try rfl
 rw[QU0 (fun hh=>hB1 (hB.2 hh))];have hB2:B=false:=by simpa using hB1
 subst hB2;simp only[hd,Qa,seval];refine QOE hi hs _ (fun f B hB h0 h1 h5 hd=>?_) _ (by exact h0) (by exact h1) (by exact h5);by_cases hB1:B=true
 ·rw[QVf (hB.1 hB1)];subst hB1;simp only[hd,Qa,seval]
  try rfl
 rw[QU0 (fun hh=>hB1 (hB.2 hh))];have hB2:B=false:=by simpa using hB1
 subst hB2;simp only[hd,Qa,seval];refine QOF hi hs _ (fun f B hB h0 h1 h5 hd=>?_) _ (by exact h0) (by exact h1) (by exact h5);by_cases hB1:B=true
 ·rw[QVf (hB.1 hB1)];subst hB1;simp only[hd,Qa,seval]
  try rfl
 rw[QU0 (fun hh=>hB1 (hB.2 hh))];have hB2:B=false:=by simpa using hB1
 subst hB2;simp only[hd,Qa,seval];refine QFG hi hs _ (fun f B hB h0 h1 h5 hd=>?_) _ (by exact h0) (by exact h1) (by exact h5);by_cases hB1:B=true
 ·rw[QVf (hB.1 hB1)];subst hB1;simp only[hd,Qa,seval]
  try rfl
 rw[QU0 (fun hh=>hB1 (hB.2 hh))];have hB2:B=false:=by simpa using hB1
 subst hB2;simp only[hd,Qa,seval];refine QFH hi hs _ (fun f B hB h0 h1 h5 hd=>?_) _ (by exact h0) (by exact h1) (by exact h5);by_cases hB1:B=true
 ·rw[QVf (hB.1 hB1)];subst hB1;simp only[hd,Qa,seval]
  try rfl
 rw[QU0 (fun hh=>hB1 (hB.2 hh))];have hB2:B=false:=by simpa using hB1
 subst hB2;simp only[hd,Qa,seval];refine QFI hi hs _ (fun f B hB h0 h1 h5 hd=>?_) _ (by exact h0) (by exact h1) (by exact h5);by_cases hB1:B=true
 ·rw[QVf (hB.1 hB1)];subst hB1;simp only[hd,Qa,seval]
  try rfl
 rw[QU0 (fun hh=>hB1 (hB.2 hh))];have hB2:B=false:=by simpa using hB1
 subst hB2;simp only[hd,Qa,seval];refine QFJ hi hs _ (fun f B hB h0 h1 h5 hd=>?_) _ (by exact h0) (by exact h1) (by exact h5);by_cases hB1:B=true
 ·rw[QVf (hB.1 hB1)];subst hB1;simp only[hd,Qa,seval]
  try rfl
 rw[QU0 (fun hh=>hB1 (hB.2 hh))];have hB2:B=false:=by simpa using hB1
 subst hB2;simp only[hd,Qa,seval]
 try rfl

theorem SG (s:List UInt8)(i:Nat)(hi:i<s.length)(_h:sz s i≠0):i+sz s i≤s.length:=by
 have tl1:∀n j,tl s j n=true→n≠0→j+n≤s.length:=by
  intro n
  induction n with
  |zero=>intro j _ h;exact absurd rfl h
  |succ n ih=>
   intro j hj _;simp only[tl,QVa]at hj;have hb:j<s.length:=by
    have h1:=hj.1;unfold bt at h1;split at h1
    ·rename_i b hb;exact(QUM.1 hb).1
    ·cases h1
   by_cases h0:n=0
   ·subst h0;omega
   ·have:=ih (j+1) hj.2 h0;omega
 obtain⟨c,hc⟩:∃c,s[i]? = some c:=⟨s[i],QUN hi⟩;simp only[sz,hc]at _h ⊢;unfold DI at _h ⊢
 (repeat' split)<;>first
  |omega
  |(rename_i hh;have:=tl1 _ _ hh.2.2 (by decide);omega)
  |(rename_i hh;have:=tl1 _ _ hh.2.2.2 (by decide);omega)
  |simp_all

def QOH (s:List UInt8)(k:Nat)(st:St):Prop :=
 ∃f i,st=⟨f,[Qe],[]⟩∧i≤s.length∧s.length-i≤k∧WI s s.length 0=WI s k i∧f 0=.str s∧f 3=.int .i64 (i:Nat)

theorem QOI (s:List UInt8)(hs:s.length+8≤maxLen):Qj Tryz.prog 202 [.str s] (.int .i64 (WI s s.length 0)):=by
 refine QMd.fn (by simp) ?_;simp only[Qa,seval];refine Qd (QOH s) s.length ⟨_,0,rfl,QUU _,QUK _,rfl,rfl,rfl⟩ ?_;rintro k st ⟨f,i,rfl,hi,hk,hb,h0,h3⟩;simp only[h0,h3,Qa,seval];by_cases hlt:i<s.length
 ·simp only[Qm hlt,h0,h3,Qa,seval];refine Qb (QOG s i hlt hs) rfl rfl rfl (.inl rfl) ?_;obtain⟨k,rfl⟩:∃n,k=n+1:=⟨k-1,by omega⟩;have hbk:WI s (k+1) i=if sz s i=0 then(i:Int)else WI s k (i+sz s i):=by
   show(if i<s.length then _ else _)=_;rw[QVf hlt]
  by_cases hz:sz s i=0
  ·have b0:((sz s i:Int)==0)=true:=by simp[hz]
   simp only[b0,h3,hb,hbk,QVf hz,Qa,seval]
  ·have b0:((sz s i:Int)==0)=false:=by simp;omega
   have hle:=SG s i hlt hz;have e0:=Ju i (sz s i) (by omega);simp only[b0,h3,e0,Qa,seval];exact⟨k,by omega,_,i+sz s i,rfl,hle,by omega,by rw[hb,hbk,QU0 hz],(by exact h0),(by rfl)⟩
 ·have hbk:WI s k i = -1:=by
   cases k with
   |zero=>rfl
   |succ k=>
    show(if i<s.length then _ else _)=_;rw[QU0 hlt]
  simp only[QB hlt,hb,hbk,Qa,seval]

theorem VH (s:List UInt8)(hs:s.length+8≤maxLen):Qj Tryz.prog 131 [.str s] (.bool (U8 s)):=by
 refine QKS.fn (by simp) ?_;simp only[Qa,seval];refine Qb (QOI s hs) rfl rfl rfl (.inl rfl) ?_;simp only[Qa,seval]
 try rfl

def KM (s:List UInt8)(i:Nat):Bool:=(s.drop i).take 3==[239,191,189]

theorem QOJ (s t:List UInt8):Qj Tryz.prog 293 [.str s,.str t] (.bool (s.take t.length==t)):=by
 refine QNz.fn (by simp) ?_;by_cases h:t.length≤s.length
 ·have d0:decide ((s.length:Int)≥(t.length:Int))=true:=by simp;omega
  have s1:(0≤t.length∧t.length≤s.length)=True:=by simp;omega
  simp only[d0,Qi,s1,QWd,QM,QV5,QVt,Qa,seval]
 ·have d0:decide ((s.length:Int)≥(t.length:Int))=false:=by simp;omega
  have e0:(s.take t.length==t)=false:=by
   rw[QWs];intro hh;have:=congrArg List.length hh;simp at this;omega
  simp only[d0,e0,Qa,seval]

theorem QOK (s t:List UInt8):Qj Tryz.prog 277 [.str s,.str t] (.bool (s.take t.length==t)):=by
 refine QNk.fn (by simp) ?_;simp only[Qa,seval];refine Qb (QOJ s t) rfl rfl rfl (.inl rfl) ?_;simp only[Qa,seval]

theorem QOL (s:List UInt8)(i:Nat)(hi:i≤s.length)(c:Nat):Qj Tryz.prog 248 [.str s,.int .i64 (i:Nat),.int .i32 (c:Nat)] (.bool (decide (c=65533) && !KM s i)):=by
 refine QMV.fn (by simp) ?_;by_cases hc:c=65533
 ·have b0:((c:Int)==65533)=true:=by simp[hc]
  have s1:(i≤s.length∧s.length≤s.length)=True:=by simp;omega
  simp only[b0,Qi,s1,QWd,Qa,seval];refine Qb (QOK (List.take (s.length-i) (List.drop i s)) [239,191,189]) rfl rfl rfl (.inl rfl) ?_;have ht:List.take (s.length-i) (List.drop i s)=List.drop i s:=QVk (by simp);simp only[ht,KM,hc,Qa,seval]
 ·have b0:((c:Int)==65533)=false:=by simp;omega
  simp only[b0,hc,Qa,seval];simp

end Go.Proofs.YtipjfckmopekaaaGreatDoor.Va

namespace Go.Proofs.YtipjfckmopekaaaGreatDoor.Vp

def KN:Nat→Nat→List UInt8
 |0,u=>[UInt8.ofNat u]
 |k+1,u=>if u<128 then [UInt8.ofNat u]else UInt8.ofNat (u % 128+128) :: KN k (u / 128)

def put (u:Nat):List UInt8:=KN 9 u

def KR:Nat→Nat→List UInt8→Nat×Nat×Nat
 |_,_,[]=>(0,0,4)
 |i,acc,c :: t=>
  if i=9∧1<c.toNat then(0,0,6)
  else if c.toNat<128 then(acc+c.toNat*128 ^ i,i+1,0)
  else KR (i+1) (acc+(c.toNat-128)*128 ^ i) t

def take (s:List UInt8):Nat×Nat×Nat:=KR 0 0 s

theorem toNat_ofNat (n:Nat)(h:n<256):(UInt8.ofNat n).toNat=n:=by
 simp[UInt8.toNat_ofNat'];omega

theorem Rg (k u:Nat):1≤(KN k u).length∧(KN k u).length≤k+1:=by
 induction k generalizing u with
 |zero=>simp[KN]
 |succ k ih=>
  unfold KN;split
  ·simp
  ·have:=ih (u / 128);simp;omega

theorem put_len (u:Nat):1≤(put u).length∧(put u).length≤10:=Rg 9 u

theorem Gk (k u:Nat)(h:u<128):KN k u=[UInt8.ofNat u]:=by
 cases k<;>simp[KN,h]

theorem Bb (k u:Nat)(h:¬u<128):KN (k+1) u=UInt8.ofNat (u % 128+128) :: KN k (u / 128):=by
 simp[KN,h]

def Y7 (i:Nat):Nat:=2 ^ (64-7*i)

theorem DJ (i u:Nat)(hi:i<9)(h:u<Y7 i):u / 128<Y7 (i+1):=by
 unfold Y7 at *;have e:64-7*i=(64-7*(i+1))+7:=by omega
 rw[e,Nat.pow_add]at h;omega

theorem VI (i acc:Nat)(s:List UInt8)(hi:i≤9)(ha:acc<128 ^ i)(h:(KR i acc s).2.2=0) :
  i<(KR i acc s).2.1∧(KR i acc s).2.1≤i+s.length∧(KR i acc s).2.1≤10∧(KR i acc s).1<2 ^ 64:=by
 induction s generalizing i acc with
 |nil=>simp[KR]at h
 |cons c t ih=>
  unfold KR at h ⊢;split
  ·rename_i h1;rw[QVf h1]at h;simp at h
  ·rename_i h1;rw[QU0 h1]at h;have hp:128 ^ i=2 ^ (7*i):=by rw[show(128:Nat)=2 ^ 7 from rfl,←Nat.pow_mul]
   split
   ·rename_i h2;refine⟨Nat.lt_succ_self i,by simp,by show i+1≤10;omega,?_⟩;show acc+c.toNat*128 ^ i<2 ^ 64;rcases Nat.lt_or_ge i 9 with h9|h9
    ·have:c.toNat*128 ^ i≤127*128 ^ i:=QVR _ (by omega);have h3:acc+c.toNat*128 ^ i<128 ^ (i+1):=by rw[Nat.pow_succ];omega
     have h4:128 ^ (i+1)≤128 ^ 9:=Nat.pow_le_pow_right (by omega) (by omega);omega
    ·obtain rfl:i=9:=by omega
     have:c.toNat≤1:=by omega
     omega
   ·rename_i h2;rw[QU0 h2]at h;have h9:i<9:=by
     rcases Nat.lt_or_ge i 9 with h9|h9
     ·exact h9
     ·exact absurd ⟨by omega,by omega⟩ h1
    have hc:=c.toNat_lt;have h3:acc+(c.toNat-128)*128 ^ i<128 ^ (i+1):=by
     have:(c.toNat-128)*128 ^ i≤127*128 ^ i:=QVR _ (by omega);rw[Nat.pow_succ];omega
    obtain⟨a,b,d,e⟩:=ih (i+1) _ (by omega) h3 h;exact⟨by omega,by simp;omega,d,e⟩

theorem B4 (s:List UInt8)(h:(take s).2.2=0):0<(take s).2.1∧(take s).2.1≤s.length∧(take s).2.1≤10∧(take s).1<2 ^ 64:=by
 have:=VI 0 0 s (by omega) (by omega) h
 simpa [take]using this

theorem VJ (i acc:Nat)(s t:List UInt8)(h:(KR i acc s).2.2≠4):KR i acc (s++t)=KR i acc s:=by
 induction s generalizing i acc with
 |nil=>simp[KR]at h
 |cons c r ih=>
  simp only[QU8];unfold KR at h ⊢;split
  ·rfl
  ·rename_i h1;rw[QU0 h1]at h;split
   ·rfl
   ·rename_i h2;rw[QU0 h2]at h;exact ih _ _ h

theorem Lu (i acc:Nat)(s:List UInt8)(hi:i≤9)(hl:10≤i+s.length):(KR i acc s).2.2≠4:=by
 induction s generalizing i acc with
 |nil=>simp at hl;omega
 |cons c r ih=>
  unfold KR;split
  ·simp
  ·rename_i h1;split
   ·simp
   ·rename_i h2;exact ih _ _ (by omega) (by simp at hl;omega)

theorem take_take (s:List UInt8):take (s.take 10)=take s:=by
 rcases Nat.lt_or_ge s.length 10 with h|h
 ·rw[QVk (by omega)]
 ·have:=VJ 0 0 (s.take 10) (s.drop 10) (Lu 0 0 _ (by omega) (by simp;omega));rw[QV2]at this;exact this.symm

end Go.Proofs.YtipjfckmopekaaaGreatDoor.Vp

namespace Go.Proofs.YtipjfckmopekaaaGreatDoor.Va
open Go Am Rc Bt Vp

theorem JA (s:List UInt8)(j:Nat)(c:UInt8)(h:s[j]? = some c):(⟨⟨s⟩⟩:ByteArray).get! j=c:=by
 show(⟨s⟩:Array UInt8)[j]! = c;simp[h]

theorem G9 (a:UInt8)(n:Nat)(hn:n<256):(a==UInt8.ofNat n)=decide (a.toNat=n):=by
 rw[QVG,QUS,QUR]
 constructor
 ·rintro rfl;rw[toNat_ofNat _ hn]
 ·intro h;rw[←UInt8.toNat_inj,toNat_ofNat _ hn,h]

set_option maxHeartbeats 4000000 in
theorem QOM (s:List UInt8)(i:Nat)(a b c d:UInt8)(t:List UInt8)(hr:s.drop i=a :: b :: c :: d :: t):(decide ((Xi s i).1=65533) && !KM s i)=decide (sz s i=0)∧(sz s i≠0→(Xi s i).2=sz s i):=by
 have hsz:∀j,(s[i+j]? = (a :: b :: c :: d :: t)[j]?):=fun j=>by rw[←hr,QVq]
 have hn:ByteArray.size ⟨⟨s⟩⟩=s.length:=rfl;have hl:s.length=i+(a :: b :: c :: d :: t).length:=by
  have h:=congrArg List.length hr;simp at h ⊢;omega
 have h0:=hsz 0;have h1:=hsz 1;have h2:=hsz 2;have h3:=hsz 3;simp only[QVh]at h0;have g0:=JA s i a h0;have g1:=JA s (i+1) b h1;have g2:=JA s (i+2) c h2;have g3:=JA s (i+3) d h3;have l1:(i+1<s.length)=True:=by simp at hl ⊢;omega
 have l2:(i+2<s.length)=True:=by simp at hl ⊢;omega
 have l3:(i+3<s.length)=True:=by simp at hl ⊢;omega
 have wa:=a.toNat_lt;have wb:=b.toNat_lt;have wc:=c.toNat_lt;have wd:=d.toNat_lt;have hrep:KM s i=(decide (a.toNat=239)&&(decide (b.toNat=191)&&decide (c.toNat=189))):=by
  rw[←G9 a 239 (by decide),←G9 b 191 (by decide),←G9 c 189 (by decide)];simp[KM,hr]
 simp only[QVS,QVO]at h0 h1 h2 h3;generalize hD:Xi s i=D;generalize hS:sz s i=S;rw[hrep];simp only[Xi,Utf8.decode,Utf8.valid,Utf8.runeError,hn,l1,l2,l3,QVh,g0,g1,g2,g3,sz,h0,DI,tl,bt,QUJ,seval,h1,h2,h3,decide_true,QWn,QVZ,QVa,QUQ,QUR,QUS,ge_iff_le]at hD hS;clear hsz hr hl h0 h1 h2 h3 g0 g1 g2 g3 l1 l2 l3 hrep hn;generalize a.toNat=x at *;generalize b.toNat=y at *;generalize c.toNat=z at *;generalize d.toNat=u at *
 (repeat' split at hD)<;>subst hD<;>(repeat' split at hS)<;>subst hS<;>refine⟨?_,?_⟩<;>(try rw[QVG])<;>(try simp only[QVa,QUR,QVK,Bool.and_eq_false_iff,QWD])<;>first|omega|(intro _;rfl)|(simp;done)|(simp;omega)

theorem Rh (s:List UInt8)(i:Nat)(hi:i<s.length):(decide ((Xi s i).1=65533) && !KM s i)=decide (sz s i=0)∧(sz s i≠0→(Xi s i).2=sz s i):=by
 have hsz:∀j,(s[i+j]? = (s.drop i)[j]?):=fun j=>by rw[QVq]
 have hn:ByteArray.size ⟨⟨s⟩⟩=s.length:=rfl;have hl:s.length=i+(s.drop i).length:=by simp;omega
 generalize hr:s.drop i=r at hsz hl;have h0:=hsz 0;have h1:=hsz 1;have h2:=hsz 2;have h3:=hsz 3;simp only[QVh]at h0
 match r,hl with
 | [],hl=>simp at hl;omega
 | [a],hl=>
  have g0:=JA s i a h0;have l1:(i+1<s.length)=False:=by simp at hl ⊢;omega
  have l2:(i+2<s.length)=False:=by simp at hl ⊢;omega
  have l3:(i+3<s.length)=False:=by simp at hl ⊢;omega
  have wa:=a.toNat_lt;have hrep:KM s i=false:=by simp[KM,hr]
  simp only[QVS,List.getElem?_nil,QVO]at h0 h1 h2 h3;simp only[Xi,Utf8.decode,Utf8.runeError,hn,l1,l2,l3,QVh,g0,sz,h0,DI,tl,bt,QUJ,seval,h1,h2,h3,hrep,decide_false,QWg,QWE,QVZ,QU5,and_false]
  (repeat' split)<;>refine⟨?_,?_⟩<;>(try rw[QVG])<;>(try simp only[QUR,QVT,QVZ])<;>first|omega|(intro _;rfl)|(intro _;omega)|(simp;done)|(simp;omega)
 | [a,b],hl=>
  have g0:=JA s i a h0;have g1:=JA s (i+1) b h1;have l1:(i+1<s.length)=True:=by simp at hl ⊢;omega
  have l2:(i+2<s.length)=False:=by simp at hl ⊢;omega
  have l3:(i+3<s.length)=False:=by simp at hl ⊢;omega
  have wa:=a.toNat_lt;have wb:=b.toNat_lt;have hrep:KM s i=false:=by simp[KM,hr]
  simp only[QVS,List.getElem?_nil,QVO]at h0 h1 h2 h3;simp only[Xi,Utf8.decode,Utf8.runeError,hn,l1,l2,l3,QVh,g0,g1,sz,h0,DI,tl,bt,QUJ,seval,h1,h2,h3,hrep,decide_false,decide_true,QWg,QWE,QWn,QVZ,QU5,and_false,QVa,QUR,QUS,ge_iff_le]
  (repeat' split)<;>refine⟨?_,?_⟩<;>(try rw[QVG])<;>(try simp only[QUR,QVT,QVZ])<;>first|omega|(intro _;rfl)|(intro _;omega)|(simp;done)|(simp;omega)
 | [a,b,c],hl=>
  have g0:=JA s i a h0;have g1:=JA s (i+1) b h1;have g2:=JA s (i+2) c h2;have l1:(i+1<s.length)=True:=by simp at hl ⊢;omega
  have l2:(i+2<s.length)=True:=by simp at hl ⊢;omega
  have l3:(i+3<s.length)=False:=by simp at hl ⊢;omega
  have wa:=a.toNat_lt;have wb:=b.toNat_lt;have wc:=c.toNat_lt;have hrep:KM s i=(decide (a.toNat=239)&&(decide (b.toNat=191)&&decide (c.toNat=189))):=by
   rw[←G9 a 239 (by decide),←G9 b 191 (by decide),←G9 c 189 (by decide)];simp[KM,hr]
  simp only[QVS,List.getElem?_nil,QVO]at h0 h1 h2 h3;simp only[Xi,Utf8.decode,Utf8.valid,Utf8.runeError,hn,l1,l2,l3,QVh,g0,g1,g2,sz,h0,DI,tl,bt,QUJ,seval,h1,h2,h3,hrep,decide_false,decide_true,QWg,QWE,QWn,QVZ,QU5,and_false,QVa,QUQ,QUR,QUS,ge_iff_le]
  (repeat' split)<;>refine⟨?_,?_⟩<;>(try rw[QVG])<;>(try simp only[QVa,QUR,QVK,QWD,Bool.and_eq_false_iff])<;>first|omega|(intro _;rfl)|(intro _;omega)|(simp;done)|(simp;omega)
 |a :: b :: c :: d :: t,hl=>exact QOM s i a b c d t hr

def QON (s:List UInt8)(k:Nat)(st:St):Prop :=
 ∃f fr i,st=⟨f,[fr],[]⟩∧i≤s.length∧s.length-i≤k∧WI s s.length 0=WI s k i∧f 0=.str s∧f 6=.ptr 0 6 0∧fr 6=.iter (.str s) i

theorem QOO (s:List UInt8):Qj Tryz.prog 216 [.str s] (.int .i64 (WI s s.length 0)):=by
 refine QiC.fn (by simp) ?_;simp only[Qa,seval];refine Dx rfl rfl ?_;simp only[Qa,seval];refine Qd (QON s) s.length ⟨_,_,0,rfl,QUU _,QUK _,rfl,(by rfl),(by rfl),(by rfl)⟩ ?_;rintro k st ⟨f,fr,i,rfl,hi,hk,hb,h0,h6,m6⟩;simp only[Qa,seval];refine Dy (by exact h6) m6 (fun hlt=>?_) (fun hge=>?_)
 ·obtain⟨hd,hw⟩:=Rh s i hlt;obtain⟨k,rfl⟩:∃n,k=n+1:=⟨k-1,by omega⟩;have hbk:WI s (k+1) i=if sz s i=0 then(i:Int)else WI s k (i+sz s i):=by
   show(if i<s.length then _ else _)=_;rw[QVf hlt]
  have hwr:=QOL s i hi (Xi s i).1;rw[hd]at hwr;generalize Xi s i=cw at hw hwr;obtain⟨c,w⟩:=cw;simp only[h0,Qa,seval];refine Qb hwr rfl rfl rfl (.inl rfl) ?_;by_cases hz:sz s i=0
  ·simp only[hz,decide_true,hb,hbk,Qa,seval]
  ·have hw:=hw hz;simp only at hw;have hle:=SG s i hlt hz;simp only[hz,decide_false,Qa,seval];exact⟨k,by omega,_,_,i+sz s i,rfl,hle,by omega,by rw[hb,hbk,QU0 hz],(by exact h0),(by exact h6),by rw[←hw]<;>first|rfl|simp only[eE,seval]⟩
 ·have hbk:WI s k i = -1:=by
   cases k with
   |zero=>rfl
   |succ k=>
    show(if i<s.length then _ else _)=_;rw[QU0 (by omega)]
  simp only[hb,hbk,Qa,seval]

theorem Qu4 (s:List UInt8):Qj Tryz.prog 168 [.str s] (.bool (U8 s)):=by
 refine Qfa.fn (by simp) ?_;simp only[Qa,seval];refine Qb (QOO s) rfl rfl rfl (.inl rfl) ?_;simp only[Qa,seval]
 try rfl

end Go.Proofs.YtipjfckmopekaaaGreatDoor.Va

namespace Go.Proofs.YtipjfckmopekaaaGreatDoor.Va
open Go Am Rc Bt

def Yl (k:Int)(b:Nat):Bool :=
 if k=1 then decide ((b:Int)≤1)else if k=2 then decide (IntKind.i64.wrap (b:Int)≥-2147483648)&&decide (IntKind.i64.wrap (b:Int)≤2147483647)
 else if k=4 then decide ((b:Int)<4294967296)else if k=9 then decide ((b:Int)<2147483648)else true

theorem QOP (k:Int)(b:Nat):Qj Tryz.prog 294 [.int .i64 k,.int .u64 (b:Nat)] (.bool (Yl k b)):=by
 have e1:decide ((b:Int)≤4294967295)=decide ((b:Int)<4294967296):=by rw[decide_eq_decide];omega
 have e2:decide ((b:Int)≤2147483647)=decide ((b:Int)<2147483648):=by rw[decide_eq_decide];omega
 refine Qlu.fn (by simp) ?_;simp only[Qa,seval];unfold Yl;by_cases h1:k=1
 ·subst h1;have b1:((1:Int)==1)=true:=rfl;simp only[b1,Qa,seval]
 ·have b1:(k==1)=false:=by simp[h1]
  by_cases h2:k=2
  ·subst h2;have b2:((2:Int)==2)=true:=rfl;simp only[b1,b2,h1,Qa,seval];cases hd:decide (IntKind.i64.wrap (b:Int)≥-2147483648)<;>simp only[QWn,QWg,Qa,seval]
  ·have b2:(k==2)=false:=by simp[h2]
   by_cases h9:k=9
   ·subst h9;have b9:((9:Int)==9)=true:=rfl;simp only[b1,b2,b9,h1,h2,e2,Qa,seval]
   ·have b9:(k==9)=false:=by simp[h9]
    by_cases h4:k=4
    ·subst h4;have b4:((4:Int)==4)=true:=rfl;simp only[b1,b2,b9,b4,h1,h2,e1,Qa,seval]
    ·have b4:(k==4)=false:=by simp[h4]
     simp only[b1,b2,b9,b4,h1,h2,h4,h9,Qa,seval]

end Go.Proofs.YtipjfckmopekaaaGreatDoor.Va

namespace Go.Proofs.YtipjfckmopekaaaGreatDoor.Ev
open Go Am Rc

def tab:FB:=fun k=>match k with
 |9=>some (r9,o9,100)
 |25=>some (r25,o25,34)
 |10=>some (r10,o10,40)
 |24=>some (r24,o24,8)
 |19=>some (r19,o19,16)
 |15=>some (r15,o15,16)
 |12=>some (WE,o12,20)
 |50=>some (r50,o50,10)
 |51=>some (r51,o51,14)
 |26=>some (r26,o26,15)
 |27=>some (r27,o27,19)
 |28=>some (r28,o28,32)
 |29=>some (r29,o29,57)
 |37=>some (RV,o37,30)
 |52=>some (r52,o52,19)
 |53=>some (r53,o53,8)
 |54=>some (r54,o54,24)
 |55=>some (r55,o55,77)
 |56=>some (r56,o56,23)
 |57=>some (r57,o57,86)
 |58=>some (r58,o58,54)
 |72=>some (r72,o72,12)
 |73=>some (r73,o73,14)
 |83=>some (r83,o83,21)
 |84=>some (r84,o84,11)
 |85=>some (r85,o85,23)
 |86=>some (r86,o86,12)
 |87=>some (r87,o87,11)
 |88=>some (r88,o88,12)
 |89=>some (r89,o89,41)
 |90=>some (r90,o90,74)
 |91=>some (r91,o91,69)
 |92=>some (r92,o92,9)
 |95=>some (r95,o95,40)
 |96=>some (RX,Ny,8)
 |97=>some (r97,o97,40)
 |98=>some (r98,o98,67)
 |99=>some (r99,o99,27)
 |100=>some (Qbj,Qbk,9)
 |102=>some (Qbv,Qbw,20)
 |103=>some (QbF,QbG,24)
 |104=>some (QbM,QbN,26)
 |105=>some (QbT,QbU,19)
 |107=>some (QbY,QbZ,13)
 |108=>some (Qb8,Qb9,20)
 |109=>some (Qcd,Qce,14)
 |116=>some (Qci,Qcj,8)
 |117=>some (Qcq,Qcr,20)
 |119=>some (Qcv,Qcw,21)
 |120=>some (QcJ,QcK,47)
 |122=>some (QcO,QcP,15)
 |133=>some (QcT,QcU,8)
 |134=>some (QcY,QcZ,7)
 |135=>some (Qc3,Qc4,8)
 |137=>some (Qc8,Qc9,12)
 |138=>some (Qdd,Qde,11)
 |139=>some (Qdi,Qdj,8)
 |140=>some (Qdn,Qdo,7)
 |141=>some (Qds,Qdt,10)
 |145=>some (QdD,QdE,24)
 |147=>some (QdO,QdP,24)
 |149=>some (QdT,QdU,7)
 |150=>some (Qd4,Qd5,24)
 |151=>some (Qd9,Qea,10)
 |155=>some (Qee,Qef,13)
 |157=>some (Qeq,Qer,20)
 |158=>some (Qev,Qew,5)
 |162=>some (QeA,QeB,6)
 |163=>some (QeF,QeG,11)
 |165=>some (QeK,QeL,13)
 |166=>some (QeY,QeZ,47)
 |167=>some (Qe3,Qe4,35)
 |168=>some (Qe8,Qe9,6)
 |169=>some (Qff,Qfg,22)
 |170=>some (Qfp,Qfq,46)
 |174=>some (Qfu,Qfv,20)
 |175=>some (Qfz,QfA,9)
 |176=>some (QfE,QfF,9)
 |177=>some (QfR,QfS,59)
 |178=>some (Qf2,Qf3,19)
 |180=>some (PR,Vz,8)
 |181=>some (VA,G0,8)
 |182=>some (Qf6,Qf7,9)
 |183=>some (Qga,Qgb,10)
 |184=>some (Qgh,Qgi,17)
 |186=>some (Qgl,Qgm,20)
 |187=>some (QgB,QgC,63)
 |188=>some (QgF,QgG,6)
 |189=>some (QgL,QgM,20)
 |195=>some (QgX,QgY,19)
 |196=>some (Qg2,Qg3,8)
 |197=>some (Qg9,Qha,18)
 |198=>some (Qhl,Qhm,27)
 |203=>some (Qhq,Qhr,9)
 |204=>some (Qhv,Qhw,9)
 |205=>some (QhH,QhI,19)
 |206=>some (QhM,QhN,9)
 |207=>some (QhR,QhS,8)
 |208=>some (Qh4,Qh5,27)
 |209=>some (Qh8,Qh9,9)
 |210=>some (Qik,Qil,36)
 |212=>some (Qip,Qiq,12)
 |216=>some (QiA,QiB,16)
 |217=>some (QiF,QiG,9)
 |219=>some (QiR,QiS,19)
 |220=>some (QiY,QiZ,31)
 |223=>some (Qjd,Qje,63)
 |229=>some (Qjl,Qjm,28)
 |230=>some (Qjx,Qjy,53)
 |241=>some (QjI,QjJ,19)
 |242=>some (QjU,QjV,19)
 |243=>some (Qj8,Qj9,66)
 |244=>some (Qkl,Qkm,27)
 |251=>some (Qky,Qkz,49)
 |254=>some (QkJ,QkK,53)
 |267=>some (QkN,QkO,9)
 |274=>some (Qk1,Qk2,34)
 |275=>some (Qk6,Qk7,8)
 |279=>some (Qld,Qle,39)
 |292=>some (VB,PY,143)
 |294=>some (Qls,Qlt,28)
 |300=>some (Qlx,Qly,8)
 |_=>none

theorem Qu6:H2 Tryz.prog tab:=by
 intro k c rs N h;unfold tab at h;split at h
 ·cases h;exact k9
 ·cases h;exact k25
 ·cases h;exact k10
 ·cases h;exact k24
 ·cases h;exact k19
 ·cases h;exact k15
 ·cases h;exact k12
 ·cases h;exact k50
 ·cases h;exact k51
 ·cases h;exact k26
 ·cases h;exact k27
 ·cases h;exact k28
 ·cases h;exact k29
 ·cases h;exact k37
 ·cases h;exact k52
 ·cases h;exact k53
 ·cases h;exact k54
 ·cases h;exact k55
 ·cases h;exact k56
 ·cases h;exact k57
 ·cases h;exact k58
 ·cases h;exact k72
 ·cases h;exact k73
 ·cases h;exact k83
 ·cases h;exact k84
 ·cases h;exact k85
 ·cases h;exact k86
 ·cases h;exact k87
 ·cases h;exact k88
 ·cases h;exact k89
 ·cases h;exact k90
 ·cases h;exact k91
 ·cases h;exact k92
 ·cases h;exact k95
 ·cases h;exact k96
 ·cases h;exact k97
 ·cases h;exact RY
 ·cases h;exact k99
 ·cases h;exact QJP
 ·cases h;exact Qbx
 ·cases h;exact QbH
 ·cases h;exact QbO
 ·cases h;exact QbV
 ·cases h;exact Qb0
 ·cases h;exact Qca
 ·cases h;exact Qcf
 ·cases h;exact Qck
 ·cases h;exact Qcs
 ·cases h;exact Qcx
 ·cases h;exact QcL
 ·cases h;exact QcQ
 ·cases h;exact QcV
 ·cases h;exact Qc0
 ·cases h;exact Qc5
 ·cases h;exact Qda
 ·cases h;exact Qdf
 ·cases h;exact Qdk
 ·cases h;exact Qdp
 ·cases h;exact Qdu
 ·cases h;exact QdF
 ·cases h;exact QdQ
 ·cases h;exact QdV
 ·cases h;exact Qd6
 ·cases h;exact Qeb
 ·cases h;exact Qeg
 ·cases h;exact Qes
 ·cases h;exact Qex
 ·cases h;exact QeC
 ·cases h;exact QeH
 ·cases h;exact QeM
 ·cases h;exact Qe0
 ·cases h;exact Qe5
 ·cases h;exact Qfa
 ·cases h;exact Qfh
 ·cases h;exact Qfr
 ·cases h;exact Qfw
 ·cases h;exact QfB
 ·cases h;exact QJQ
 ·cases h;exact QJR
 ·cases h;exact QJS
 ·cases h;exact Qf4
 ·cases h;exact PT
 ·cases h;exact QJT
 ·cases h;exact Qgc
 ·cases h;exact PU
 ·cases h;exact Qgn
 ·cases h;exact QJU
 ·cases h;exact QgH
 ·cases h;exact QgN
 ·cases h;exact PV
 ·cases h;exact Qg4
 ·cases h;exact PW
 ·cases h;exact Qhn
 ·cases h;exact Qhs
 ·cases h;exact Qhx
 ·cases h;exact QhJ
 ·cases h;exact QhO
 ·cases h;exact QhT
 ·cases h;exact PX
 ·cases h;exact Qia
 ·cases h;exact Qim
 ·cases h;exact Qir
 ·cases h;exact QiC
 ·cases h;exact QiH
 ·cases h;exact QiT
 ·cases h;exact QJV
 ·cases h;exact QJW
 ·cases h;exact Qjn
 ·cases h;exact QJX
 ·cases h;exact QjK
 ·cases h;exact QjW
 ·cases h;exact Qka
 ·cases h;exact Qkn
 ·cases h;exact QJY
 ·cases h;exact QJZ
 ·cases h;exact QkP
 ·cases h;exact Qk3
 ·cases h;exact Qk8
 ·cases h;exact Qlf
 ·cases h;exact Qlh
 ·cases h;exact Qlu
 ·cases h;exact Qlz
 ·cases h

def nat:KP:=fun _ _ _=>none

theorem nat_ok:K1 Tryz.prog nat:=by
 intro k args m v m' h;cases h

end Go.Proofs.YtipjfckmopekaaaGreatDoor.Ev

namespace Go.Proofs.YtipjfckmopekaaaGreatDoor.Va
open Go Am Rc Bt

def vo (k:Int)(b:Nat)(t:List UInt8)(l p s r:List AV):AV:=.agg [.int .i64 k,.int .u64 (b:Nat),.str t,.list l,.list p,.list s,.list r]

section
variable (k:Int)(b:Nat)(t:List UInt8)(l p s r:List AV)

def WJ:Bool:=(l.length:Int)==0&&(p.length:Int)==0&&(s.length:Int)==0&&(r.length:Int)==0
def Bc:Bool:=isk k&&WJ l p s r&&(b:Int)==0&&t==[]
def emp:Bool:=(k==11&&(l.length:Int)==0)||(k==12&&(p.length:Int)==0)||Bc k b t l p s r

theorem Ri:Qj Tryz.prog 194 [vo k b t l p s r] (.bool (WJ l p s r)):=by
 refine QL2.fn (by simp) ?_;simp only[vo,WJ,eE,seval];cases h0:((l.length:Int)==0)<;>cases h1:((p.length:Int)==0)<;>cases h2:((s.length:Int)==0)<;>simp only[h1,h2,QWn,QWg,eE,seval]

theorem Qu7 (hl:l.length≤140737488351232)(hp:p.length≤140737488351232)(hs:s.length≤140737488351232)(hr:r.length≤140737488351232) :
  Qj Tryz.prog 229 [vo k b t l p s r] (.bool (WJ l p s r&&(if X8 k=true then(b:Int)==0 else t==[]))):=by
 refine Qjn.fn (by simp) ?_;have w:IntKind.i64.wrap (IntKind.i64.wrap (IntKind.i64.wrap ((l.length:Int)+(p.length:Int))+(s.length:Int))+(r.length:Int))=(l.length+p.length+s.length+r.length:Nat):=by
  simp only[QG];omega
 simp only[vo,w,eE,seval];by_cases h:l.length+p.length+s.length+r.length=0
 ·have d:decide (((l.length+p.length+s.length+r.length:Nat):Int) > 0)=false:=QWx (by omega);have e:WJ l p s r=true:=by
   unfold WJ;simp only[QVa,QUS];omega
  simp only[d,e,QWn,eE,seval];refine Qb (QuS k) rfl rfl rfl (.inl rfl) ?_;cases X8 k
  ·simp only[QU5,QM,eE,seval]
  ·simp only[eE,seval]
 ·have d:decide (((l.length+p.length+s.length+r.length:Nat):Int) > 0)=true:=QWC (by omega);have e:WJ l p s r=false:=by
   unfold WJ;rw[QWz];simp only[ne_eq,QVa,QUS];omega
  simp only[d,e,QWg,Qa,seval]

end

end Go.Proofs.YtipjfckmopekaaaGreatDoor.Va

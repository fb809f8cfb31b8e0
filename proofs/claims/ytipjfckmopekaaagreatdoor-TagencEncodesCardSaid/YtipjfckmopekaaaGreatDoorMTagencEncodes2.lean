/- Parts of the proof, in order. -/
import Derived.WalkKit
import Derived.Lib.SmallJoins
import Derived.Deep.Slices
import Derived.DataShut
import Derived.Test.YtipjfckmopekaaaGreatDoorRows
import Derived.Test.YtipjfckmopekaaaGreatDoorProg
import Derived.Lib.IndexLaws
import Derived.Test.YtipjfckmopekaaaGreatDoorMTagencEncodes1

namespace Go.Proofs.YtipjfckmopekaaaGreatDoor.Rc
open Go Am
abbrev QCs:IL:=[je 1 1 0,jd 2 0]
abbrev QCt:IL:=[jf 4 2 1,jr 5 43 4,jz 6 5,ja 3 6]
abbrev QCu:IL:=[jd 2 3]
abbrev QCv:IL:=[jf 8 2 1,jr 9 44 8,jz 10 9,ja 7 10]
abbrev QCw:IL:=[jd 2 8]
abbrev QCx:IL:=[jf 12 2 1,jr 13 45 12,jz 14 13,ja 11 14]
abbrev QCy:IL:=[jd 2 11]
abbrev QCz:IL:=[jf 16 2 1,jr 17 46 16,jz 18 17,ja 15 18]
abbrev QCA:IL:=[jd 2 9]
abbrev QCB:IL:=[jf 20 2 1,jr 21 47 20,jz 22 21,ja 19 22]
abbrev QmH:IL:=[jd 2 6]
abbrev QmI:IL:=[jf 24 2 1,jr 25 48 24,jz 26 25,ja 23 26]
abbrev QmJ:IL:=[jd 2 1]
abbrev QmK:IL:=[jf 28 2 1,jr 29 49 28,jz 30 29,ja 27 30]
abbrev QmL:IL:=[jd 2 19]
abbrev QmM:IL:=[jd 2 0]
abbrev r22:RC:=jQ QCs (.seq (.block 0 (jQ QCt (.cond (.t 3) (jQ QCu (.ret)) (jQ QCv (.cond (.t 7) (jQ QCw (.ret)) (jQ QCx (.cond (.t 11) (jQ QCy (.ret)) (jQ QCz (.cond (.t 15) (jQ QCA (.ret)) (jQ QCB (.cond (.t 19) (jQ QmH (.ret)) (jQ QmI (.cond (.t 23) (jQ QmJ (.ret)) (jQ QmK (.cond (.t 27) (jQ QmL (.ret)) (.skip)))))))))))))))) (jQ QmM (.ret)))
abbrev o22:List RR:=[.tmp 2]
theorem k22:CT 22 31 r22 o22:=ck Tryz.func22 Tryz.ntmps22 (by decide +kernel)
abbrev QCC:IL:=[je 2 2 0,jd 4 0,jh 5]
abbrev QCD:IL:=[jd 6 0]
abbrev QCE:IL:=[ja 7 6,jb 8 0 2,jc 9 8,ji 10 1 9,jn 11 7 10]
abbrev QCF:IL:=[jb 14 0 2,jc 15 14,ja 16 6,jk 17 3 15 16,jb 18 0 17,jc 19 18,ja 20 1,F5 21 19 20]
abbrev QCG:IL:=[ja 22 6,ja 4 22,yl 5]
abbrev QCH:IL:=[ja 12 6,jm 13 12 1,ja 6 13]
abbrev QCI:RC:=.seq (jQ QCE (jX 11 0)) (.seq (.block 1 (jQ QCF (.cond (.t 21) (jQ QCG (.ret)) (.skip)))) (.reg QCH))
abbrev QCJ:IL:=[jd 4 0,jh 5]
abbrev r30:RC:=jQ QCC (.seq (jQ QCD (.block 0 (.loop QCI))) (jQ QCJ (.ret)))
abbrev o30:List RR:=[.tmp 4,.tmp 5]
theorem k30:CT 30 23 r30 o30:=ck Tryz.func30 Tryz.ntmps30 (by decide +kernel)
abbrev QCK:IL:=[je 4 4 0,je 6 6 2,jd 8 0]
abbrev QCL:IL:=[jb 18 0 6,jc 19 18,yg 20 19 10,ja 21 20,yv 22 7 6 21,zi 23 59 22 21,jo 24 21 23]
abbrev QCM:IL:=[jd 8 12]
abbrev QCN:IL:=[ja 25 3,yq 26 25 16]
abbrev QCO:IL:=[jd 8 17]
abbrev QCP:IL:=[jb 27 0 4,jc 28 27,ja 29 1,jk 30 3 28 29,jf 31 3 30,⟨some 9,.allocN 9 [.str [],.nils,.int .i64 0],none⟩,js 3 9 31]
abbrev QCQ:IL:=[jd 10 0]
abbrev QCR:IL:=[ja 32 10,jb 33 5 6,jc 34 33,ji 35 1 34,jn 36 32 35]
abbrev QCS:IL:=[jf 39 3 9,jb 40 5 6,jc 41 40,ja 42 10,yd 43 60 39 41 42,ja 11 43]
abbrev QmN:IL:=[ja 44 11,yg 45 44 0]
abbrev QmO:IL:=[ja 46 11,ja 8 46]
abbrev QmP:IL:=[jw 48 0 9 3 9,jb 49 5 6,yb 50 0 6 49,ja 51 10,jk 52 8 50 51,jb 53 0 52,zx 54 53,jy 55 38 48 54,ja 47 55,jx 56 47 0,jx 57 47 1,zd 12 12,zp 0 12 8 12 56,ja 13 57]
abbrev QmQ:IL:=[jw 58 0 4 2 4,jw 59 0 12 8 12,jb 60 5 6,yb 61 0 6 60,ja 62 10,jk 63 8 61 62,jb 64 1 63,ya 65 7 64,ja 66 3,zj 67 61 58 59 65 66,ja 14 67]
abbrev QmR:IL:=[ja 68 14,yg 69 68 0]
abbrev QmS:IL:=[ja 70 14,ja 8 70]
abbrev QCT:IL:=[ja 37 10,jm 38 37 1,ja 10 38]
abbrev SJ:RC:=.gho (.drop 12) (.seq (jQ QCR (jX 36 0)) (.seq (.block 1 (.seq (jQ QCS (jQ QmN (.cond (.t 45) (jQ QmO (.ret)) (.skip)))) (jD QmP (jD QmQ (jQ QmR (.cond (.t 69) (jQ QmS (.ret)) (.skip))))))) (.reg QCT)))
abbrev QmT:IL:=[jd 15 0]
abbrev QmU:IL:=[ja 71 15,jb 72 1 9,jc 73 72,ji 74 1 73,jn 75 71 74]
abbrev QmV:IL:=[jb 78 1 9,yb 79 0 9 78,ja 80 15,jk 81 8 79 80,jb 82 3 81,zx 83 82,jq 84 83 1,ja 85 84,zt 86 0 6 7 6 85,jl 87 1 9 85,zb 88 0 9 87 85,jg 89 15 85,yc 90 8 88 89 85,jl 91 0 90 85,yp 92 91 85,Gu 93 62 86 92 85,yx 94 93 85,jj 95 85 94]
abbrev QmW:IL:=[jd 8 14]
abbrev QmX:IL:=[ja 76 15,jm 77 76 1,ja 15 77]
abbrev SK:RC:=.seq (jQ QmU (jX 75 2)) (.seq (.block 3 (jD QmV (.cond (.t 95) (jQ QmW (.ret)) (.skip)))) (.reg QmX))
abbrev QmY:IL:=[jd 16 0]
abbrev QmZ:IL:=[ja 96 16,jb 97 6 6,jc 98 97,ji 99 1 98,jn 100 96 99]
abbrev Qm0:IL:=[jb 103 6 6,jc 104 103,ja 105 16,jk 106 4 104 105,jf 107 4 106,zn 17 17,js 4 17 107]
abbrev Qm1:IL:=[jf 108 2 4,jf 109 3 9,jf 110 4 17,yd 111 63 108 109 110,jz 112 111]
abbrev Qm2:IL:=[jd 8 1]
abbrev Qm3:IL:=[jb 113 1 17,jc 114 113,jq 115 114 3,ja 116 115,jl 117 3 17 116,ju 118 117 116,yt 119 0 118 116,F6 120 119 4096 116,jj 121 116 120,ja 122 121,jp 123 3 17 122,jt 124 123 122,yf 125 0 124 122,yk 126 125 65536 122,jo 127 122 126]
abbrev Qm4:IL:=[jd 8 3]
abbrev Qm5:IL:=[ja 101 16,jm 102 101 1,ja 16 102]
abbrev SL:RC:=.gho (.drop 17) (.seq (jQ QmZ (jX 100 4)) (.seq (.block 5 (jQ Qm0 (.seq (jQ Qm1 (.cond (.t 112) (jQ Qm2 (.ret)) (.skip))) (jQ Qm3 (.cond (.t 127) (jQ Qm4 (.ret)) (.skip)))))) (.reg Qm5)))
abbrev Qm6:IL:=[jd 8 0]
abbrev r31:RC:=jQ QCK (.seq (jQ QCL (.cond (.t 24) (jQ QCM (.ret)) (.skip))) (.seq (jQ QCN (.cond (.t 26) (jQ QCO (.ret)) (.skip))) (jQ QCP (.seq (jQ QCQ (.block 0 (.loop SJ))) (.seq (jQ QmT (.block 2 (.loop SK))) (.seq (jQ QmY (.block 4 (.loop SL))) (jQ Qm6 (.ret))))))))
abbrev o31:List RR:=[.tmp 8]
theorem k31:CT 31 128 r31 o31:=ck Tryz.func31 Tryz.ntmps31 (by decide +kernel)
abbrev QCU:IL:=[je 1 1 0,jd 2 0]
abbrev QCV:IL:=[jb 7 6 1,jc 8 7,ji 9 1 8,⟨some 10,.val (.bin .num .add (.c (.int .i64 1)) (.t 9)),none⟩,ja 3 10]
abbrev QCW:IL:=[jd 4 0]
abbrev QCX:IL:=[ja 11 4,jb 12 3 1,jc 13 12,ji 14 1 13,jn 15 11 14]
abbrev QCY:IL:=[ja 18 3,jb 19 3 1,jc 20 19,ja 21 4,jk 22 7 20 21,jf 23 7 22,jr 24 32 23,yj 25 18 24,ja 3 25]
abbrev QCZ:IL:=[ja 16 4,jm 17 16 1,ja 4 17]
abbrev QC0:RC:=.seq (jQ QCX (jX 15 0)) (.seq (.block 1 (.reg QCY)) (.reg QCZ))
abbrev QC1:IL:=[jd 5 0]
abbrev QC2:IL:=[ja 26 5,jb 27 4 1,jc 28 27,ji 29 1 28,jn 30 26 29]
abbrev QC3:IL:=[ja 33 3,jb 34 4 1,yb 35 0 1 34,ja 36 5,jk 37 14 35 36,jb 38 0 37,ya 39 7 38,jr 40 32 39,jb 41 4 1,yb 42 0 1 41,ja 43 5,jk 44 14 42 43,jb 45 7 44,ya 46 7 45,jr 47 32 46,yj 48 40 47,yj 49 33 48,ja 3 49]
abbrev QC4:IL:=[ja 31 5,jm 32 31 1,ja 5 32]
abbrev QC5:RC:=.seq (jQ QC2 (jX 30 2)) (.seq (.block 3 (.draw QC3)) (.reg QC4))
abbrev Qm7:IL:=[jd 6 0]
abbrev Qm8:IL:=[ja 50 6,jb 51 5 1,jc 52 51,ji 53 1 52,jn 54 50 53]
abbrev Qm9:IL:=[ja 57 3,jb 58 5 1,jc 59 58,ja 60 6,jk 61 8 59 60,jb 62 1 61,jf 63 7 62,jr 64 32 63,yj 65 57 64,ja 3 65]
abbrev Qna:IL:=[ja 55 6,jm 56 55 1,ja 6 56]
abbrev QC6:RC:=.seq (jQ Qm8 (jX 54 4)) (.seq (.block 5 (.reg Qm9)) (.reg Qna))
abbrev Qnb:IL:=[ja 66 3,ja 2 66]
abbrev r32:RC:=jQ QCU (jQ QCV (.seq (jQ QCW (.block 0 (.loop QC0))) (.seq (jQ QC1 (.block 2 (.loop QC5))) (.seq (jQ Qm7 (.block 4 (.loop QC6))) (jQ Qnb (.ret))))))
abbrev o32:List RR:=[.tmp 2]
theorem k32:CT 32 67 r32 o32:=ck Tryz.func32 Tryz.ntmps32 (by decide +kernel)
abbrev QC7:IL:=[yi 2]
abbrev QC8:IL:=[yi 3]
abbrev QC9:IL:=[jd 4 0]
abbrev QDa:IL:=[ja 8 4,ja 9 0,ji 10 1 9,jn 11 8 10]
abbrev QDb:IL:=[ja 14 0,ja 15 4,jk 16 4 14 15,jf 17 4 16,zn 5 5,js 4 5 17]
abbrev QDc:IL:=[jf 18 4 5,jr 19 64 18,jz 20 19]
abbrev QDd:IL:=[jb 22 0 5,jc 23 22,jb 24 1 5,jc 25 24,jy 26 65 23 25,ja 21 26,jx 27 21 0,jx 28 21 1,ja 6 27,ja 7 28]
abbrev QDe:IL:=[ja 29 3,ja 30 6,D4 31 29 30,ja 3 31]
abbrev QDf:IL:=[jb 32 1 5,jc 33 32,jq 34 33 2]
abbrev Qnc:IL:=[ja 35 3,jb 36 2 5,jc 37 36,jr 38 66 37,D4 39 35 38,ja 3 39]
abbrev Qnd:IL:=[jb 40 1 5,jc 41 40,jr 42 67 41]
abbrev Qne:IL:=[ja 43 3,jb 44 2 5,jc 45 44,jr 46 68 45,D4 47 43 46,ja 3 47]
abbrev Qnf:IL:=[ja 48 3,jb 49 3 5,yb 50 0 5 49,ji 51 0 50,zo 52 51,jr 53 68 52,jb 54 3 5,yb 55 0 5 54,D4 56 53 55,D4 57 48 56,ja 3 57]
abbrev QDg:IL:=[ja 12 4,jm 13 12 1,ja 4 13]
abbrev QDh:RC:=.gho (.drop 5) (.seq (jQ QDa (jX 11 0)) (.seq (.block 1 (jQ QDb (.seq (jQ QDc (.cond (.t 20) (.exit 1) (.skip))) (jQ QDd (jQ QDe (jQ QDf (.cond (.t 34) (.reg Qnc) (jQ Qnd (.cond (.t 42) (.reg Qne) (.draw Qnf)))))))))) (.reg QDg)))
abbrev Qng:IL:=[ja 58 3,ja 2 58]
abbrev r33:RC:=jQ QC7 (jQ QC8 (.seq (jQ QC9 (.block 0 (.loop QDh))) (jQ Qng (.ret))))
abbrev o33:List RR:=[.tmp 2]
theorem k33:CT 33 59 r33 o33:=ck Tryz.func33 Tryz.ntmps33 (by decide +kernel)
abbrev QDi:IL:=[je 3 3 0,je 5 5 2,yu 6 6]
abbrev QDj:IL:=[ja 12 1,yo 13 12 0,ja 14 13,jv 15 1 14,jp 16 0 3 14,jt 17 16 14,yf 18 1 17 14,DY 19 15 18 14,jo 20 14 19]
abbrev QDk:IL:=[⟨some 21,.val (.build [.int .i64 0,.int .u64 0,.str [],.nils,.nils,.nils,.nils] []),none⟩,js 7 6 21]
abbrev QDl:IL:=[jb 22 6 5,jc 23 22,jr 24 69 23,⟨some 25,.val (.build [.int .i64 0,.int .u64 0,.str [],.nils,.nils,.nils,.nils] [(0,1,(.c (.int .i64 10))),(6,1,(.t 24))]),none⟩,yu 7 7,js 7 7 25]
abbrev QDm:IL:=[jd 8 0]
abbrev QDn:IL:=[ja 26 8,jb 27 0 3,jc 28 27,ja 29 1,jk 30 3 28 29,jb 31 1 30,jc 32 31,ji 33 1 32,jn 34 26 33]
abbrev QDo:IL:=[jb 37 0 3,jc 38 37,ja 39 1,jk 40 3 38 39,jb 41 1 40,jc 42 41,ja 43 8,jk 44 8 42 43,jf 45 8 44,zd 9 9,js 8 9 45]
abbrev QDp:IL:=[jd 10 0]
abbrev QDq:IL:=[ja 46 10,jb 47 5 5,jc 48 47,ji 49 1 48,jn 50 46 49]
abbrev Qnh:IL:=[jb 53 5 5,yb 54 0 5 53,ja 55 10,jk 56 8 54 55,jb 57 0 56,zx 58 57,jb 59 0 9,yb 60 0 9 59,zs 61 58 60]
abbrev Qni:IL:=[jw 62 0 3 2 3,jw 63 0 9 8 9,jb 64 5 5,yb 65 0 5 64,ja 66 10,jk 67 8 65 66,jb 68 1 67,ya 69 7 68,yd 70 70 62 63 69,yu 11 11,zp 0 11 7 11 70]
abbrev Qnj:IL:=[jb 71 3 9,jc 72 71,yo 73 72 3,ja 74 73,yv 75 7 11 74,zi 76 71 75 74,ze 77 76 74,jo 78 74 77]
abbrev Qnk:IL:=[jb 79 5 7,jc 80 79,jb 81 0 9,jc 82 81,jf 83 7 11,⟨some 84,.val (.build [.int .i64 0,.int .i64 0,.int .u64 0,.str [],.nils,.nils,.nils,.nils] [(0,1,(.t 82)),(1,7,(.t 83))]),none⟩,⟨some 85,.bsl 8 1 [.int .i64 0,.int .i64 0,.int .u64 0,.str [],.nils,.nils,.nils,.nils] [(0,8,(.t 84))],none⟩,yh 86 8 136 47 80 85,jb 87 5 7,js 1 87 86]
abbrev Qnl:IL:=[ja 51 10,jm 52 51 1,ja 10 52]
abbrev SM:RC:=.gho (.drop 11) (.seq (jQ QDq (jX 50 2)) (.seq (.block 3 (.seq (jD Qnh (.cond (.t 61) (.exit 3) (.skip))) (jD Qni (jQ Qnj (.cond (.t 78) (.reg Qnk) (.skip)))))) (.reg Qnl)))
abbrev QDr:IL:=[ja 35 8,jm 36 35 1,ja 8 36]
abbrev QDs:RC:=.gho (.drop 11) (.gho (.drop 9) (.seq (jQ QDn (jX 34 0)) (.seq (.block 1 (jQ QDo (jQ QDp (.block 2 (.loop SM))))) (.reg QDr))))
abbrev Qnm:IL:=[jf 88 7 7,js 7 6 88]
abbrev r35:RC:=jQ QDi (.seq (jQ QDj (.cond (.t 20) (jQ QDk (.ret)) (.skip))) (jQ QDl (.gho (.vecc 7 5 1100 8) (.seq (jQ QDm (.block 0 (.loop QDs))) (jQ Qnm (.ret))))))
abbrev o35:List RR:=[.cell 6 (some 7)]
theorem k35:CT 35 89 r35 o35:=ck Tryz.func35 Tryz.ntmps35 (by decide +kernel)
abbrev QDt:IL:=[je 2 2 0,zd 4 4,jh 5]
abbrev QDu:IL:=[jd 6 0]
abbrev QDv:IL:=[ja 7 6,jb 8 1 2,jc 9 8,ji 10 1 9,jn 11 7 10]
abbrev QDw:IL:=[jb 14 1 2,jc 15 14,ja 16 6,jk 17 8 15 16,jb 18 0 17,jc 19 18,ja 20 1,zm 21 19 20]
abbrev QDx:IL:=[jb 22 1 2,jc 23 22,ja 24 6,jk 25 8 23 24,jf 26 8 25,js 8 4 26,yl 5]
abbrev QDy:IL:=[ja 12 6,jm 13 12 1,ja 6 13]
abbrev QDz:RC:=.seq (jQ QDv (jX 11 0)) (.seq (.block 1 (jQ QDw (.cond (.t 21) (jQ QDx (.ret)) (.skip)))) (.reg QDy))
abbrev QDA:IL:=[⟨some 27,.val (.build [.int .i64 0,.str [],.str [],.int .i64 0,.int .i64 0,.int .i64 0,.int .i64 0,.int .i64 0] []),none⟩,js 8 4 27,jh 5]
abbrev r38:RC:=jQ QDt (.seq (jQ QDu (.block 0 (.loop QDz))) (jQ QDA (.ret)))
abbrev o38:List RR:=[.cell 4 (some 8),.tmp 5]
theorem k38:CT 38 28 r38 o38:=ck Tryz.func38 Tryz.ntmps38 (by decide +kernel)
abbrev QDB:IL:=[je 1 1 0,jh 2]
abbrev QDC:IL:=[jb 3 3 1,jc 4 3,jq 5 4 4,ja 6 5,jl 7 5 1 6,ju 8 7 6,Hj 9 8 1 6,jg 10 9 6,jl 11 5 1 10,ju 12 11 10,yy 13 12 6 10,⟨some 14,.val (.pick (.t 10) (.t 13) (.c (.bool false))),(some (6,true))⟩,jg 15 14 6,jp 16 5 1 15,jt 17 16 15,ys 18 17 9 15,zf 19 15 18 6,jj 20 6 19,ja 2 20]
abbrev r41:RC:=jQ QDB (jQ QDC (.ret))
abbrev o41:List RR:=[.tmp 2]
theorem k41:CT 41 21 r41 o41:=ck Tryz.func41 Tryz.ntmps41 (by decide +kernel)
abbrev QDD:IL:=[je 1 1 0,jh 2]
abbrev QDE:IL:=[jb 7 0 1,jc 8 7,ji 9 1 8,⟨some 10,.val (.bin .num .leq (.t 9) (.c (.int .i64 64))),none⟩,ja 11 10,jl 12 1 1 11,ju 13 12 11,yt 14 1 13 11,yy 15 14 64 11,jj 16 11 15,ja 3 16]
abbrev QDF:IL:=[jd 4 0]
abbrev QDG:IL:=[ja 17 4,jb 18 0 1,jc 19 18,ji 20 1 19,jn 21 17 20]
abbrev QDH:IL:=[ja 24 3,ja 25 24,jl 26 0 1 25,ju 27 26 25,jg 28 4 25,yc 29 3 27 28 25,jl 30 1 29 25,ju 31 30 25,yt 32 1 31 25,yy 33 32 64 25,jj 34 25 33,ja 3 34]
abbrev QDI:IL:=[ja 22 4,jm 23 22 1,ja 4 23]
abbrev SN:RC:=.seq (jQ QDG (jX 21 0)) (.seq (.block 1 (.reg QDH)) (.reg QDI))
abbrev QDJ:IL:=[jd 5 0]
abbrev QDK:IL:=[ja 35 5,jb 36 1 1,jc 37 36,ji 38 1 37,jn 39 35 38]
abbrev QDL:IL:=[jb 42 1 1,jc 43 42,ja 44 5,jk 45 5 43 44,jb 46 2 45,jc 47 46,ji 48 1 47,ja 6 48]
abbrev Qnn:IL:=[ja 49 3,ja 50 49,jg 51 6 50,Hj 52 51 1 50,jj 53 50 52,ja 54 53,jg 55 6 54,yy 56 55 64 54,jj 57 54 56,ja 58 57,jl 59 1 1 58,ju 60 59 58,jg 61 5 58,yc 62 5 60 61 58,jl 63 3 62 58,ju 64 63 58,yt 65 1 64 58,yy 66 65 16 58,jj 67 58 66,ja 3 67]
abbrev QDM:IL:=[ja 40 5,jm 41 40 1,ja 5 41]
abbrev SO:RC:=.seq (jQ QDK (jX 39 2)) (.seq (.block 3 (jQ QDL (.reg Qnn))) (.reg QDM))
abbrev Qno:IL:=[ja 68 3,ja 2 68]
abbrev r43:RC:=jQ QDD (jQ QDE (.seq (jQ QDF (.block 0 (.loop SN))) (.seq (jQ QDJ (.block 2 (.loop SO))) (jQ Qno (.ret)))))
abbrev o43:List RR:=[.tmp 2]
theorem k43:CT 43 69 r43 o43:=ck Tryz.func43 Tryz.ntmps43 (by decide +kernel)
abbrev QDN:IL:=[je 1 1 0,jh 2]
abbrev QDO:IL:=[yl 3]
abbrev QDP:IL:=[jd 4 0]
abbrev QDQ:IL:=[ja 8 4,jb 9 0 1,jc 10 9,ji 11 1 10,jn 12 8 11]
abbrev QDR:IL:=[ja 15 3,ja 16 15,jl 17 0 1 16,ju 18 17 16,jg 19 4 16,yc 20 3 18 19 16,jl 21 0 20 16,ju 22 21 16,zh 23 76 22 16,jj 24 16 23,ja 3 24]
abbrev QDS:IL:=[jd 5 0]
abbrev QDT:IL:=[ja 25 5,jb 26 0 1,jc 27 26,ja 28 4,jk 29 3 27 28,jb 30 1 29,jc 31 30,ji 32 1 31,jn 33 25 32]
abbrev QDU:IL:=[ja 36 3,ja 37 36,jl 38 0 1 37,ju 39 38 37,jg 40 4 37,yc 41 3 39 40 37,jl 42 1 41 37,ju 43 42 37,jg 44 5 37,yc 45 8 43 44 37,jl 46 1 45 37,ju 47 46 37,zh 48 77 47 37,jj 49 37 48,ja 3 49]
abbrev QDV:IL:=[ja 34 5,jm 35 34 1,ja 5 35]
abbrev SP:RC:=.seq (jQ QDT (jX 33 2)) (.seq (.block 3 (.reg QDU)) (.reg QDV))
abbrev QDW:IL:=[ja 13 4,jm 14 13 1,ja 4 14]
abbrev SQ:RC:=.seq (jQ QDQ (jX 12 0)) (.seq (.block 1 (jQ QDR (jQ QDS (.block 2 (.loop SP))))) (.reg QDW))
abbrev Qnp:IL:=[jd 6 0]
abbrev Qnq:IL:=[ja 50 6,jb 51 1 1,jc 52 51,ji 53 1 52,jn 54 50 53]
abbrev Qnr:IL:=[ja 57 3,ja 58 57,jl 59 1 1 58,ju 60 59 58,jg 61 6 58,yc 62 5 60 61 58,jl 63 0 62 58,ju 64 63 58,zh 65 76 64 58,jj 66 58 65,ja 3 66]
abbrev Qns:IL:=[jd 7 0]
abbrev Qnt:IL:=[ja 67 7,jb 68 1 1,jc 69 68,ja 70 6,jk 71 5 69 70,jb 72 2 71,jc 73 72,ji 74 1 73,jn 75 67 74]
abbrev Qnu:IL:=[ja 78 3,ja 79 78,jl 80 1 1 79,ju 81 80 79,jg 82 6 79,yc 83 5 81 82 79,jl 84 2 83 79,ju 85 84 79,jg 86 7 79,yc 87 3 85 86 79,jl 88 0 87 79,ju 89 88 79,zh 90 77 89 79,jj 91 79 90,ja 3 91]
abbrev Qnv:IL:=[ja 76 7,jm 77 76 1,ja 7 77]
abbrev SR:RC:=.seq (jQ Qnt (jX 75 6)) (.seq (.block 7 (.reg Qnu)) (.reg Qnv))
abbrev Qnw:IL:=[ja 55 6,jm 56 55 1,ja 6 56]
abbrev SS:RC:=.seq (jQ Qnq (jX 54 4)) (.seq (.block 5 (jQ Qnr (jQ Qns (.block 6 (.loop SR))))) (.reg Qnw))
abbrev Qnx:IL:=[ja 92 3,ja 2 92]
abbrev r44:RC:=jQ QDN (jQ QDO (.seq (jQ QDP (.block 0 (.loop SQ))) (.seq (jQ Qnp (.block 4 (.loop SS))) (jQ Qnx (.ret)))))
abbrev o44:List RR:=[.tmp 2]
theorem k44:CT 44 93 r44 o44:=ck Tryz.func44 Tryz.ntmps44 (by decide +kernel)
abbrev QDX:IL:=[je 1 1 0,jh 2]
abbrev QDY:IL:=[yl 3]
abbrev QDZ:IL:=[jd 4 0]
abbrev QD0:IL:=[ja 8 4,jb 9 0 1,jc 10 9,ji 11 1 10,jn 12 8 11]
abbrev QD1:IL:=[ja 15 3,ja 16 15,jg 17 4 16,ym 18 17 0 16,jg 19 18 16,jp 20 0 1 19,zl 21 0 1 20 19,jv 22 4 19,⟨some 23,.val (.bin .num .sub (.t 22) (.c (.int .i64 1))),(some (19,false))⟩,yz 24 3 21 23 19,jp 25 0 24 19,NW 26 25 19,jp 27 0 1 19,zl 28 0 1 27 19,jv 29 4 19,yz 30 3 28 29 19,jp 31 0 30 19,NW 32 31 19,⟨some 33,.val (.bin .str .lss (.t 26) (.t 32)),(some (19,false))⟩,zf 34 19 33 16,jj 35 16 34,ja 3 35]
abbrev QD2:IL:=[jd 5 1]
abbrev QD3:IL:=[ja 36 5,jb 37 0 1,jc 38 37,ja 39 4,jk 40 3 38 39,jb 41 1 40,jc 42 41,ji 43 1 42,jn 44 36 43]
abbrev QD4:IL:=[ja 47 3,ja 48 47,jl 49 0 1 48,zb 50 0 1 49 48,jg 51 4 48,yc 52 3 50 51 48,jl 53 1 52 48,yp 54 53 48,jg 55 5 48,D2 56 55 1 48,yc 57 8 54 56 48,jl 58 0 57 48,yp 59 58 48,jl 60 0 1 48,zb 61 0 1 60 48,jg 62 4 48,yc 63 3 61 62 48,jl 64 1 63 48,yp 65 64 48,jg 66 5 48,yc 67 8 65 66 48,jl 68 0 67 48,yp 69 68 48,zu 70 59 69 48,jj 71 48 70,ja 3 71]
abbrev QD5:IL:=[ja 45 5,jm 46 45 1,ja 5 46]
abbrev SU:RC:=.seq (jQ QD3 (jX 44 2)) (.seq (.block 3 (.draw QD4)) (.reg QD5))
abbrev QD6:IL:=[ja 13 4,jm 14 13 1,ja 4 14]
abbrev SX:RC:=.seq (jQ QD0 (jX 12 0)) (.seq (.block 1 (jD QD1 (jQ QD2 (.block 2 (.loop SU))))) (.reg QD6))
abbrev Qny:IL:=[jd 6 0]
abbrev Qnz:IL:=[ja 72 6,jb 73 1 1,jc 74 73,ji 75 1 74,jn 76 72 75]
abbrev QnA:IL:=[ja 79 3,ja 80 79,jg 81 6 80,ym 82 81 0 80,jg 83 82 80,jp 84 1 1 83,zl 85 0 1 84 83,jv 86 6 83,⟨some 87,.val (.bin .num .sub (.t 86) (.c (.int .i64 1))),(some (83,false))⟩,yz 88 5 85 87 83,jp 89 0 88 83,NW 90 89 83,jp 91 1 1 83,zl 92 0 1 91 83,jv 93 6 83,yz 94 5 92 93 83,jp 95 0 94 83,NW 96 95 83,⟨some 97,.val (.bin .str .lss (.t 90) (.t 96)),(some (83,false))⟩,zf 98 83 97 80,jj 99 80 98,ja 3 99]
abbrev QnB:IL:=[jd 7 1]
abbrev QnC:IL:=[ja 100 7,jb 101 1 1,jc 102 101,ja 103 6,jk 104 5 102 103,jb 105 2 104,jc 106 105,ji 107 1 106,jn 108 100 107]
abbrev QnD:IL:=[ja 111 3,ja 112 111,jl 113 1 1 112,zb 114 0 1 113 112,jg 115 6 112,yc 116 5 114 115 112,jl 117 2 116 112,yp 118 117 112,jg 119 7 112,D2 120 119 1 112,yc 121 3 118 120 112,jl 122 1 121 112,yp 123 122 112,jl 124 1 1 112,zb 125 0 1 124 112,jg 126 6 112,yc 127 5 125 126 112,jl 128 2 127 112,yp 129 128 112,jg 130 7 112,yc 131 3 129 130 112,jl 132 1 131 112,yp 133 132 112,zu 134 123 133 112,jj 135 112 134,ja 3 135]
abbrev QnE:IL:=[ja 109 7,jm 110 109 1,ja 7 110]
abbrev SY:RC:=.seq (jQ QnC (jX 108 6)) (.seq (.block 7 (.draw QnD)) (.reg QnE))
abbrev QnF:IL:=[ja 77 6,jm 78 77 1,ja 6 78]
abbrev SZ:RC:=.seq (jQ Qnz (jX 76 4)) (.seq (.block 5 (jD QnA (jQ QnB (.block 6 (.loop SY))))) (.reg QnF))
abbrev QnG:IL:=[ja 136 3,ja 2 136]
abbrev r45:RC:=jQ QDX (jQ QDY (.seq (jQ QDZ (.block 0 (.loop SX))) (.seq (jQ Qny (.block 4 (.loop SZ))) (jQ QnG (.ret)))))
abbrev o45:List RR:=[.tmp 2]
theorem k45:CT 45 137 r45 o45:=ck Tryz.func45 Tryz.ntmps45 (by decide +kernel)
abbrev QD7:IL:=[je 1 1 0,jh 2]
abbrev QD8:IL:=[yl 3]
abbrev QD9:IL:=[jd 4 0]
abbrev QEa:IL:=[ja 13 4,jb 14 0 1,jc 15 14,ji 16 1 15,jn 17 13 16]
abbrev QEb:IL:=[jd 5 0]
abbrev QEc:IL:=[ja 20 5,jb 21 1 1,jc 22 21,ji 23 1 22,jn 24 20 23]
abbrev QEd:IL:=[ja 27 3,ja 28 27,jl 29 0 1 28,zb 30 0 1 29 28,jg 31 4 28,yc 32 3 30 31 28,jl 33 0 32 28,yp 34 33 28,jl 35 1 1 28,zb 36 0 1 35 28,jg 37 5 28,yc 38 5 36 37 28,jl 39 0 38 28,yp 40 39 28,⟨some 41,.val (.bin .str .neq (.t 34) (.t 40)),(some (28,true))⟩,jj 42 28 41,ja 3 42]
abbrev QEe:IL:=[ja 25 5,jm 26 25 1,ja 5 26]
abbrev S0:RC:=.seq (jQ QEc (jX 24 2)) (.seq (.block 3 (.draw QEd)) (.reg QEe))
abbrev QEf:IL:=[jb 43 0 1,jc 44 43,ja 45 4,jk 46 3 44 45,jb 47 1 46,jc 48 47,ja 6 48]
abbrev QnH:IL:=[jd 7 0]
abbrev QnI:IL:=[ja 49 7,ja 50 6,ji 51 1 50,jn 52 49 51]
abbrev QnJ:IL:=[jd 8 0]
abbrev QnK:IL:=[ja 55 8,ja 56 7,jn 57 55 56]
abbrev QnL:IL:=[ja 60 3,ja 61 60,jg 62 6 61,jg 63 8 61,yc 64 8 62 63 61,jl 65 1 64 61,yp 66 65 61,jg 67 6 61,jg 68 7 61,yc 69 8 67 68 61,jl 70 1 69 61,yp 71 70 61,⟨some 72,.val (.bin .str .neq (.t 66) (.t 71)),(some (61,true))⟩,jj 73 61 72,ja 3 73]
abbrev QnM:IL:=[ja 58 8,jm 59 58 1,ja 8 59]
abbrev S1:RC:=.seq (jQ QnK (jX 57 6)) (.seq (.block 7 (.draw QnL)) (.reg QnM))
abbrev QnN:IL:=[ja 53 7,jm 54 53 1,ja 7 54]
abbrev S2:RC:=.seq (jQ QnI (jX 52 4)) (.seq (.block 5 (jQ QnJ (.block 6 (.loop S1)))) (.reg QnN))
abbrev QEg:IL:=[ja 18 4,jm 19 18 1,ja 4 19]
abbrev S3:RC:=.seq (jQ QEa (jX 17 0)) (.seq (.block 1 (.seq (jQ QEb (.block 2 (.loop S0))) (jQ QEf (jQ QnH (.block 4 (.loop S2)))))) (.reg QEg))
abbrev QnO:IL:=[jd 9 0]
abbrev QnP:IL:=[ja 74 9,jb 75 1 1,jc 76 75,ji 77 1 76,jn 78 74 77]
abbrev QnQ:IL:=[jb 81 1 1,jc 82 81,ja 83 9,jk 84 5 82 83,jb 85 2 84,jc 86 85,ja 10 86]
abbrev QnR:IL:=[jd 11 0]
abbrev QnS:IL:=[ja 87 11,ja 88 10,ji 89 1 88,jn 90 87 89]
abbrev QnT:IL:=[jd 12 0]
abbrev QnU:IL:=[ja 93 12,ja 94 11,jn 95 93 94]
abbrev QnV:IL:=[ja 98 3,ja 99 98,jg 100 10 99,jg 101 12 99,yc 102 3 100 101 99,jl 103 0 102 99,yp 104 103 99,jg 105 10 99,jg 106 11 99,yc 107 3 105 106 99,jl 108 0 107 99,yp 109 108 99,⟨some 110,.val (.bin .str .neq (.t 104) (.t 109)),(some (99,true))⟩,jj 111 99 110,ja 3 111]
abbrev QnW:IL:=[ja 96 12,jm 97 96 1,ja 12 97]
abbrev S4:RC:=.seq (jQ QnU (jX 95 12)) (.seq (.block 13 (.draw QnV)) (.reg QnW))
abbrev QnX:IL:=[ja 91 11,jm 92 91 1,ja 11 92]
abbrev S5:RC:=.seq (jQ QnS (jX 90 10)) (.seq (.block 11 (jQ QnT (.block 12 (.loop S4)))) (.reg QnX))
abbrev QnY:IL:=[ja 79 9,jm 80 79 1,ja 9 80]
abbrev S6:RC:=.seq (jQ QnP (jX 78 8)) (.seq (.block 9 (jQ QnQ (jQ QnR (.block 10 (.loop S5))))) (.reg QnY))
abbrev QnZ:IL:=[ja 112 3,ja 2 112]
abbrev r46:RC:=jQ QD7 (jQ QD8 (.seq (jQ QD9 (.block 0 (.loop S3))) (.seq (jQ QnO (.block 8 (.loop S6))) (jQ QnZ (.ret)))))
abbrev o46:List RR:=[.tmp 2]
theorem k46:CT 46 113 r46 o46:=ck Tryz.func46 Tryz.ntmps46 (by decide +kernel)
abbrev QEh:IL:=[je 1 1 0,jh 2]
abbrev QEi:IL:=[yl 3]
abbrev QEj:IL:=[jd 4 0]
abbrev QEk:IL:=[ja 13 4,jb 14 0 1,jc 15 14,ji 16 1 15,jn 17 13 16]
abbrev QEl:IL:=[jd 5 0]
abbrev QEm:IL:=[ja 20 5,jb 21 0 1,jc 22 21,ja 23 4,jk 24 3 22 23,jb 25 1 24,jc 26 25,ji 27 1 26,jn 28 20 27]
abbrev QEn:IL:=[jb 31 0 1,jc 32 31,ja 33 4,jk 34 3 32 33,jb 35 1 34,jc 36 35,ja 37 5,jk 38 8 36 37,jb 39 0 38,jc 40 39,ja 6 40]
abbrev QEo:IL:=[ja 41 3,ja 42 41,jg 43 6 42,Hj 44 43 1 42,jj 45 42 44,ja 46 45,jg 47 6 46,yy 48 47 65535 46,jj 49 46 48,ja 3 49]
abbrev QEp:IL:=[ja 29 5,jm 30 29 1,ja 5 30]
abbrev S7:RC:=.seq (jQ QEm (jX 28 2)) (.seq (.block 3 (jQ QEn (.reg QEo))) (.reg QEp))
abbrev QEq:IL:=[ja 18 4,jm 19 18 1,ja 4 19]
abbrev S8:RC:=.seq (jQ QEk (jX 17 0)) (.seq (.block 1 (jQ QEl (.block 2 (.loop S7)))) (.reg QEq))
abbrev Qn0:IL:=[jd 7 0]
abbrev Qn1:IL:=[ja 50 7,jb 51 1 1,jc 52 51,ji 53 1 52,jn 54 50 53]
abbrev Qn2:IL:=[jb 57 1 1,jc 58 57,ja 59 7,jk 60 5 58 59,jf 61 5 60,⟨some 8,.allocN 8 [.str [],.bool false,.nils,.nils,.nils],none⟩,js 5 8 61]
abbrev Qn3:IL:=[jd 9 0]
abbrev Qn4:IL:=[ja 62 9,jb 63 2 8,jc 64 63,ji 65 1 64,jn 66 62 65]
abbrev Qn5:IL:=[jb 69 2 8,jc 70 69,ja 71 9,jk 72 3 70 71,jb 73 1 72,jc 74 73,ja 10 74]
abbrev Qn6:IL:=[ja 75 3,ja 76 75,jg 77 10 76,yy 78 77 2147483647 76,jj 79 76 78,ja 80 79,jg 81 9 80,F6 82 81 0 80,jg 83 82 80,jv 84 10 83,ys 85 84 0 83,zf 86 83 85 80,jj 87 80 86,ja 88 87,jl 89 3 8 88,ju 90 89 88,jg 91 10 88,Gu 92 78 90 91 88,yx 93 92 88,jj 94 88 93,ja 3 94]
abbrev Qn7:IL:=[ja 67 9,jm 68 67 1,ja 9 68]
abbrev S9:RC:=.seq (jQ Qn4 (jX 66 6)) (.seq (.block 7 (jQ Qn5 (.reg Qn6))) (.reg Qn7))
abbrev Qn8:IL:=[jd 11 0]
abbrev Qn9:IL:=[ja 95 11,jb 96 3 8,jc 97 96,ji 98 1 97,jn 99 95 98]
abbrev Qoa:IL:=[jb 102 3 8,jc 103 102,ja 104 11,jk 105 2 103 104,jf 106 2 105,⟨some 12,.allocN 12 [.int .i64 0,.int .i64 0],none⟩,js 2 12 106]
abbrev Qob:IL:=[ja 107 3,ja 108 107,jl 109 0 12 108,zb 110 0 12 109 108,Hj 111 110 0 108,jj 112 108 111,ja 113 112,jl 114 1 12 113,zb 115 0 12 114 113,yy 116 115 2147483647 113,jj 117 113 116,ja 118 117,jl 119 0 12 118,zb 120 0 12 119 118,jl 121 1 12 118,zb 122 0 12 121 118,MF 123 120 122 118,jj 124 118 123,ja 125 124,jg 126 11 125,ym 127 126 0 125,jg 128 127 125,jp 129 0 12 128,zl 130 0 12 129 128,jp 131 3 8 128,zl 132 0 8 131 128,jv 133 11 128,⟨some 134,.val (.bin .num .sub (.t 133) (.c (.int .i64 1))),(some (128,false))⟩,yz 135 2 132 134 128,jp 136 1 135 128,NW 137 136 128,⟨some 138,.val (.bin .num .gtr (.t 130) (.t 137)),(some (128,false))⟩,zf 139 128 138 125,jj 140 125 139,ja 3 140]
abbrev Qoc:IL:=[ja 100 11,jm 101 100 1,ja 11 101]
abbrev Ta:RC:=.gho (.drop 12) (.seq (jQ Qn9 (jX 99 8)) (.seq (.block 9 (jQ Qoa (.draw Qob))) (.reg Qoc)))
abbrev Qod:IL:=[ja 55 7,jm 56 55 1,ja 7 56]
abbrev Tb:RC:=.gho (.drop 12) (.gho (.drop 8) (.seq (jQ Qn1 (jX 54 4)) (.seq (.block 5 (jQ Qn2 (.seq (jQ Qn3 (.block 6 (.loop S9))) (jQ Qn8 (.block 8 (.loop Ta)))))) (.reg Qod))))
abbrev Qoe:IL:=[ja 141 3,ja 2 141]
abbrev r47:RC:=jQ QEh (jQ QEi (.seq (jQ QEj (.block 0 (.loop S8))) (.seq (jQ Qn0 (.block 4 (.loop Tb))) (jQ Qoe (.ret)))))
abbrev o47:List RR:=[.tmp 2]
theorem k47:CT 47 142 r47 o47:=ck Tryz.func47 Tryz.ntmps47 (by decide +kernel)
abbrev QEr:IL:=[je 1 1 0,jh 2]
abbrev QEs:IL:=[yl 3]
abbrev QEt:IL:=[jd 4 0]
abbrev QEu:IL:=[ja 9 4,jb 10 1 1,jc 11 10,ji 12 1 11,jn 13 9 12]
abbrev QEv:IL:=[ja 16 3,ja 17 16,jl 18 1 1 17,ju 19 18 17,jg 20 4 17,yc 21 5 19 20 17,jl 22 4 21 17,ju 23 22 17,yt 24 1 23 17,ym 25 24 0 17,jj 26 17 25,ja 3 26]
abbrev QEw:IL:=[jd 5 0]
abbrev QEx:IL:=[ja 27 5,jb 28 1 1,jc 29 28,ja 30 4,jk 31 5 29 30,jb 32 2 31,jc 33 32,ji 34 1 33,jn 35 27 34]
abbrev QEy:IL:=[jb 38 1 1,jc 39 38,ja 40 4,jk 41 5 39 40,jb 42 2 41,jc 43 42,ja 44 5,jk 45 3 43 44,jb 46 2 45,jc 47 46,ja 6 47]
abbrev Qof:IL:=[ja 48 3,ja 49 48,jg 50 6 49,yt 51 1 50 49,ym 52 51 0 49,jg 53 52 49,jv 54 6 53,yf 55 1 54 53,ys 56 55 1 53,jv 57 56 53,jg 58 6 57,NS 59 8 58 0 57,jl 60 0 59 57,ju 61 60 57,⟨some 62,.val (.bin .str .eql (.t 61) (.c (.str [97,108,105,97,115]))),(some (57,true))⟩,yw 63 57 62 53,jv 64 63 53,jg 65 6 64,⟨some 66,.call (.f 79) [(.t 65),(.c (.int .i64 4))],(some (64,true))⟩,ym 67 66 0 64,yw 68 64 67 53,zf 69 53 68 49,jj 70 49 69,ja 3 70]
abbrev QEz:IL:=[ja 36 5,jm 37 36 1,ja 5 37]
abbrev Tc:RC:=.seq (jQ QEx (jX 35 2)) (.seq (.block 3 (jQ QEy (.reg Qof))) (.reg QEz))
abbrev QEA:IL:=[ja 14 4,jm 15 14 1,ja 4 15]
abbrev Td:RC:=.seq (jQ QEu (jX 13 0)) (.seq (.block 1 (jQ QEv (jQ QEw (.block 2 (.loop Tc))))) (.reg QEA))
abbrev Qog:IL:=[jd 7 0]
abbrev Qoh:IL:=[ja 71 7,jb 72 0 1,jc 73 72,ji 74 1 73,jn 75 71 74]
abbrev Qoi:IL:=[ja 78 3,ja 79 78,jl 80 0 1 79,ju 81 80 79,jg 82 7 79,yc 83 3 81 82 79,zk 84 3 83 79,zh 85 80 84 79,jj 86 79 85,ja 3 86]
abbrev Qoj:IL:=[jd 8 0]
abbrev Qok:IL:=[ja 87 8,jb 88 0 1,jc 89 88,ja 90 7,jk 91 3 89 90,jb 92 1 91,jc 93 92,ji 94 1 93,jn 95 87 94]
abbrev Qol:IL:=[ja 98 3,ja 99 98,zt 100 0 1 2 1 99,jl 101 0 1 99,zb 102 0 1 101 99,jg 103 7 99,yc 104 3 102 103 99,jl 105 1 104 99,yp 106 105 99,jg 107 8 99,yc 108 8 106 107 99,Gt 109 8 108 99,Gu 110 81 100 109 99,jj 111 99 110,ja 3 111]
abbrev Qom:IL:=[ja 96 8,jm 97 96 1,ja 8 97]
abbrev Te:RC:=.seq (jQ Qok (jX 95 6)) (.seq (.block 7 (.draw Qol)) (.reg Qom))
abbrev Qon:IL:=[ja 76 7,jm 77 76 1,ja 7 77]
abbrev Tf:RC:=.seq (jQ Qoh (jX 75 4)) (.seq (.block 5 (jQ Qoi (jQ Qoj (.block 6 (.loop Te))))) (.reg Qon))
abbrev Qoo:IL:=[ja 112 3,ja 2 112]
abbrev r48:RC:=jQ QEr (jQ QEs (.seq (jQ QEt (.block 0 (.loop Td))) (.seq (jQ Qog (.block 4 (.loop Tf))) (jQ Qoo (.ret)))))
abbrev o48:List RR:=[.tmp 2]
theorem k48:CT 48 113 r48 o48:=ck Tryz.func48 Tryz.ntmps48 (by decide +kernel)
abbrev QEB:IL:=[je 1 1 0,jh 2]
abbrev QEC:IL:=[jb 9 0 1,jc 10 9,ji 11 1 10,⟨some 12,.mk 12 4 1 1 [.bool false] (.t 11) (.t 11),none⟩,ja 3 12]
abbrev QED:IL:=[jb 13 0 1,jc 14 13,ji 15 1 14,jq 16 15 0,ja 4 16]
abbrev QEE:IL:=[jb 17 0 1,jc 18 17,ji 19 1 18,jd 20 0]
abbrev QEF:IL:=[jn 21 20 19]
abbrev QEG:IL:=[yl 4]
abbrev QEH:IL:=[jd 5 0]
abbrev QEI:IL:=[ja 22 5,jb 23 0 1,jc 24 23,ji 25 1 24,jn 26 22 25]
abbrev QEJ:IL:=[yl 6]
abbrev Qop:IL:=[jd 7 0]
abbrev Qoq:IL:=[ja 29 7,jb 30 0 1,jc 31 30,ja 32 5,jk 33 3 31 32,jb 34 1 33,jc 35 34,ji 36 1 35,jn 37 29 36]
abbrev Qor:IL:=[jb 40 0 1,jc 41 40,ja 42 5,jk 43 3 41 42,jb 44 1 43,jc 45 44,ja 46 7,jk 47 8 45 46,jf 48 8 47,zd 8 8,js 8 8 48]
abbrev Qos:IL:=[ja 49 6,ja 50 49,jl 51 3 8 50,ju 52 51 50,zv 53 52 1 50,jg 54 53 50,jp 55 5 8 54,jt 56 55 54,NV 57 56 10 54,zf 58 54 57 50,jg 59 58 50,jv 60 3 59,jp 61 6 8 59,jt 62 61 59,yz 63 1 60 62 59,jt 64 63 59,zf 65 59 64 50,jj 66 50 65,ja 6 66]
abbrev Qot:IL:=[ja 38 7,jm 39 38 1,ja 7 39]
abbrev Th:RC:=.gho (.drop 8) (.seq (jQ Qoq (jX 37 4)) (.seq (.block 5 (jQ Qor (.reg Qos))) (.reg Qot)))
abbrev Qou:IL:=[ja 67 3,ja 68 5,ja 69 6,jk 70 1 67 68,js 1 70 69]
abbrev Qov:IL:=[ja 71 4,ja 72 71,jg 73 6 72,jj 74 72 73,ja 4 74]
abbrev QEK:IL:=[ja 27 5,jm 28 27 1,ja 5 28]
abbrev Ti:RC:=.gho (.drop 8) (.seq (jQ QEI (jX 26 2)) (.seq (.block 3 (jQ QEJ (.seq (jQ Qop (.block 4 (.loop Th))) (jQ Qou (.reg Qov))))) (.reg QEK)))
abbrev Qow:IL:=[jm 75 20 1,ja 20 75]
abbrev QEL:RC:=.gho (.drop 8) (jQ QEF (.seq (jX 21 0) (.seq (.block 1 (jQ QEG (jQ QEH (.block 2 (.loop Ti))))) (.reg Qow))))
abbrev Qox:IL:=[ja 76 4,ja 2 76]
abbrev r49:RC:=jQ QEB (jQ QEC (jQ QED (.seq (jQ QEE (.block 0 (.loop QEL))) (jQ Qox (.ret)))))
abbrev o49:List RR:=[.tmp 2]
theorem k49:CT 49 77 r49 o49:=ck Tryz.func49 Tryz.ntmps49 (by decide +kernel)
abbrev QEM:IL:=[je 1 1 0,jh 2]
abbrev QEN:IL:=[jb 5 0 1,jc 6 5,jq 7 6 7,ja 8 7,jp 9 0 1 8,jt 10 9 8,ys 11 10 8 8,jo 12 8 11,ja 3 12]
abbrev QEO:IL:=[jb 13 0 1,jc 14 13,jq 15 14 10,ja 4 15]
abbrev QEP:IL:=[jb 16 3 1,jc 17 16,ji 18 1 17,yq 19 18 0,ja 20 19,jl 21 0 1 20,ju 22 21 20,zv 23 22 11 20,jj 24 20 23,ja 25 24,jp 26 4 1 25,jt 27 26 25,yf 28 1 27 25,yk 29 28 0 25,jv 30 29 25,jl 31 0 1 30,ju 32 31 30,zv 33 32 12 30,yw 34 30 33 25,jo 35 25 34,ja 36 35,jp 37 5 1 36,jt 38 37 36,yf 39 1 38 36,jp 40 6 1 36,jt 41 40 36,yf 42 1 41 36,⟨some 43,.val (.bin .num .add (.t 39) (.t 42)),(some (36,false))⟩,yk 44 43 0 36,jv 45 44 36,jg 46 4 45,yx 47 46 45,yw 48 45 47 36,jo 49 36 48]
abbrev QEQ:IL:=[yl 2]
abbrev QER:IL:=[jb 50 1 1,jc 51 50,⟨some 52,.val (.bin .num .neq (.t 51) (.c (.int .u64 0))),none⟩,ja 53 52,jg 54 3 53,jg 55 54 53,jp 56 0 1 55,jt 57 56 55,ys 58 57 11 55,zf 59 55 58 53,jg 60 59 53,jp 61 0 1 60,jt 62 61 60,ys 63 62 12 60,zf 64 60 63 53,jg 65 64 53,jv 66 4 65,zf 67 65 66 53,jj 68 53 67,ja 69 68,jp 70 2 1 69,jt 71 70 69,⟨some 72,.val (.bin .str .neq (.t 71) (.c (.str []))),(some (69,false))⟩,jv 73 72 69,jg 74 3 73,yx 75 74 73,yw 76 73 75 69,jo 77 69 76,ja 2 77]
abbrev r59:RC:=jQ QEM (jQ QEN (jQ QEO (.seq (jQ QEP (.cond (.t 49) (jQ QEQ (.ret)) (.skip))) (jQ QER (.ret)))))
abbrev o59:List RR:=[.tmp 2]
theorem k59:CT 59 78 r59 o59:=ck Tryz.func59 Tryz.ntmps59 (by decide +kernel)
abbrev QES:IL:=[je 3 3 0,jd 6 0]
abbrev QET:IL:=[jw 14 0 3 3 3,ja 15 1,ja 16 2,jk 17 8 15 16,jb 18 0 17,zx 19 18,jy 20 38 14 19,ja 13 20,jx 21 13 0,jx 22 13 1,zd 7 7,zp 0 7 8 7 21,ja 8 22]
abbrev QEU:IL:=[ja 23 8,jz 24 23]
abbrev QEV:IL:=[jd 6 8]
abbrev QEW:IL:=[jh 9]
abbrev QEX:IL:=[jd 10 0]
abbrev QEY:IL:=[ja 25 10,ja 26 2,jn 27 25 26]
abbrev QEZ:IL:=[ja 30 1,ja 31 10,jk 32 8 30 31,jb 33 0 32,zx 34 33,ja 35 1,ja 36 2,jk 37 8 35 36,jb 38 0 37,zx 39 38,zm 40 34 39]
abbrev QE0:IL:=[jd 6 9]
abbrev Qoy:IL:=[jw 42 0 3 3 3,ja 43 1,ja 44 10,jk 45 8 43 44,jb 46 0 45,zx 47 46,jy 48 38 42 47,ja 41 48,jx 49 41 0,jx 50 41 1,zd 11 11,zp 0 11 8 11 49,ja 12 50]
abbrev Qoz:IL:=[ja 51 9,ja 52 51,jp 53 7 7 52,jt 54 53 52,NV 55 54 (-1) 52,jv 56 55 52,jl 57 7 11 56,ju 58 57 56,jl 59 7 7 56,ju 60 59 56,MA 61 58 60 56,yw 62 56 61 52,jo 63 52 62,ja 9 63]
abbrev QE1:IL:=[ja 28 10,jm 29 28 1,ja 10 29]
abbrev QE2:RC:=.gho (.drop 11) (.seq (jQ QEY (jX 27 0)) (.seq (.block 1 (.seq (jD QEZ (.cond (.t 40) (jQ QE0 (.ret)) (.skip))) (jD Qoy (.reg Qoz)))) (.reg QE1)))
abbrev QoA:IL:=[ja 64 9]
abbrev QoB:IL:=[jd 6 15]
abbrev QoC:IL:=[jd 6 0]
abbrev r60:RC:=jQ QES (jD QET (.seq (jQ QEU (.cond (.t 24) (jQ QEV (.ret)) (.skip))) (jQ QEW (.seq (jQ QEX (.block 0 (.loop QE2))) (.seq (jQ QoA (.cond (.t 64) (jQ QoB (.ret)) (.skip))) (jQ QoC (.ret)))))))
abbrev o60:List RR:=[.tmp 6]
theorem k60:CT 60 65 r60 o60:=ck Tryz.func60 Tryz.ntmps60 (by decide +kernel)
abbrev QE3:IL:=[je 4 4 0,je 5 5 1,je 6 6 2,jd 8 0]
abbrev QE4:IL:=[jb 11 3 5,jc 12 11]
abbrev QE5:IL:=[jq 14 12 5,ja 13 14]
abbrev QE6:IL:=[jb 15 0 6,jc 16 15,yg 17 16 12,ja 18 17,yv 19 7 6 18,zi 20 59 19 18,jo 21 18 20]
abbrev QE7:IL:=[jd 8 12]
abbrev QE8:IL:=[jf 22 2 4,jf 23 8 5,jb 24 4 6,jc 25 24,ja 26 3,zj 27 110 22 23 25 26,ja 8 27]
abbrev QE9:IL:=[jq 29 12 4,ja 28 29]
abbrev QFa:IL:=[jb 30 0 6,jc 31 30,yg 32 31 11,ja 33 32,yv 34 7 6 33,zi 35 59 34 33,jo 36 33 35]
abbrev QFb:IL:=[jd 8 12]
abbrev QFc:IL:=[jd 9 0]
abbrev QoD:IL:=[ja 37 9,jb 38 3 6,jc 39 38,ji 40 1 39,jn 41 37 40]
abbrev QoE:IL:=[jw 44 0 4 2 4,jw 45 0 5 8 5,jb 46 3 6,yb 47 0 6 46,ja 48 9,jk 49 7 47 48,ya 50 7 49,ja 51 3,zj 52 111 44 45 50 51,ja 10 52]
abbrev QoF:IL:=[ja 53 10,yg 54 53 0]
abbrev QoG:IL:=[ja 55 10,ja 8 55]
abbrev QoH:IL:=[ja 42 9,jm 43 42 1,ja 9 43]
abbrev QFd:RC:=.seq (jQ QoD (jX 41 1)) (.seq (.block 2 (jD QoE (jQ QoF (.cond (.t 54) (jQ QoG (.ret)) (.skip))))) (.reg QoH))
abbrev QoI:IL:=[jd 8 0]
abbrev QoJ:IL:=[jf 56 2 4,jf 57 8 5,jf 58 7 6,ja 59 3,zj 60 111 56 57 58 59,ja 8 60]
abbrev r61:RC:=jQ QE3 (.seq (jQ QE4 (.block 0 (jQ QE5 (.cond (.t 13) (.seq (jQ QE6 (.cond (.t 21) (jQ QE7 (.ret)) (.skip))) (jQ QE8 (.ret))) (jQ QE9 (.cond (.t 28) (.seq (jQ QFa (.cond (.t 36) (jQ QFb (.ret)) (.skip))) (.seq (jQ QFc (.block 1 (.loop QFd))) (jQ QoI (.ret)))) (.skip))))))) (jQ QoJ (.ret)))
abbrev o61:List RR:=[.tmp 8]
theorem k61:CT 61 61 r61 o61:=ck Tryz.func61 Tryz.ntmps61 (by decide +kernel)
abbrev QFe:IL:=[je 2 2 0,jh 4]
abbrev QFf:IL:=[jd 5 0]
abbrev QFg:IL:=[ja 6 5,jb 7 5 2,jc 8 7,ji 9 1 8,jn 10 6 9]
abbrev QFh:IL:=[jb 13 5 2,jc 14 13,ja 15 5,jk 16 8 14 15,jb 17 0 16,jc 18 17,ja 19 1,zm 20 18 19]
abbrev QFi:IL:=[yl 4]
abbrev QFj:IL:=[ja 11 5,jm 12 11 1,ja 5 12]
abbrev QFk:RC:=.seq (jQ QFg (jX 10 0)) (.seq (.block 1 (jQ QFh (.cond (.t 20) (jQ QFi (.ret)) (.skip)))) (.reg QFj))
abbrev QFl:IL:=[jh 4]
abbrev r62:RC:=jQ QFe (.seq (jQ QFf (.block 0 (.loop QFk))) (jQ QFl (.ret)))
abbrev o62:List RR:=[.tmp 4]
theorem k62:CT 62 21 r62 o62:=ck Tryz.func62 Tryz.ntmps62 (by decide +kernel)
abbrev QFm:IL:=[je 3 3 0,je 4 4 1,je 5 5 2,jh 6]
abbrev QFn:IL:=[jb 9 0 5,jc 10 9,yo 11 10 1,ja 12 11,jp 13 0 5 12,jt 14 13 12,yk 15 14 65535 12,jo 16 12 15,ja 17 16,jp 18 1 5 17,jt 19 18 17,F7 20 19 0 17,jo 21 17 20,ja 22 21,jp 23 1 5 22,jt 24 23 22,yk 25 24 6 22,jo 26 22 25]
abbrev QFo:IL:=[jh 6]
abbrev QFp:IL:=[jb 27 1 5,jc 28 27,⟨some 29,.val (.bin .num .leq (.t 28) (.c (.int .i64 2))),none⟩,ja 30 29,jl 31 3 5 30,ju 32 31 30,⟨some 33,.val (.bin .str .neq (.t 32) (.c (.str []))),(some (30,true))⟩,jj 34 30 33,ja 35 34,jp 36 1 5 35,jt 37 36 35,yk 38 37 2 35,jv 39 38 35,jl 40 2 5 39,ju 41 40 39,⟨some 42,.val (.bin .num .neq (.t 41) (.c (.int .u64 0))),(some (39,true))⟩,yw 43 39 42 35,jo 44 35 43]
abbrev QFq:IL:=[jh 6]
abbrev QFr:IL:=[jf 46 3 4,jb 47 0 5,jc 48 47,jy 49 38 46 48,ja 45 49,jx 50 45 0,jx 51 45 1,zd 7 7,js 8 7 50,ja 8 51]
abbrev QFs:IL:=[ja 52 8,jz 53 52]
abbrev QFt:IL:=[yl 6]
abbrev QFu:IL:=[jb 54 5 7,jc 55 54,jq 56 55 9,ja 57 56,jl 58 1 3 57,ju 59 58 57,jl 60 6 7 57,ju 61 60 57,yc 62 5 59 61 57,jl 63 1 62 57,ju 64 63 57,yx 65 64 57,jj 66 57 65,ja 67 66,jl 68 3 7 67,ju 69 68 67,zv 70 69 5 67,jj 71 67 70,ja 72 71,jl 73 1 5 72,ju 74 73 72,ym 75 74 0 72,jj 76 72 75,ja 77 76,jl 78 2 5 77,ju 79 78 77,⟨some 80,.val (.bin .num .leq (.t 79) (.c (.int .u64 2147483647))),(some (77,true))⟩,jj 81 77 80,ja 82 81,zk 83 2 3 82,jl 84 6 7 82,ju 85 84 82,jl 86 2 5 82,ju 87 86 82,D3 88 112 83 85 87 82,yx 89 88 82,jj 90 82 89,ja 6 90]
abbrev r63:RC:=jQ QFm (.seq (jQ QFn (.cond (.t 26) (jQ QFo (.ret)) (.skip))) (.seq (jQ QFp (.cond (.t 44) (jQ QFq (.ret)) (.skip))) (jQ QFr (.seq (jQ QFs (.cond (.t 53) (jQ QFt (.ret)) (.skip))) (jQ QFu (.ret))))))
abbrev o63:List RR:=[.tmp 6]
theorem k63:CT 63 91 r63 o63:=ck Tryz.func63 Tryz.ntmps63 (by decide +kernel)
abbrev QFv:IL:=[je 1 1 0,jh 2]
abbrev QFw:IL:=[jb 6 0 1,jc 7 6,jb 8 1 1,jc 9 8,jy 10 65 7 9,ja 5 10,jx 11 5 0,jx 12 5 1,ja 3 11,ja 4 12]
abbrev QFx:IL:=[jb 13 1 1,jc 14 13,jr 15 67 14]
abbrev QFy:IL:=[ja 16 4,jq 17 16 0,ja 18 17,jl 19 3 1 18,ju 20 19 18,⟨some 21,.val (.bin .str .eql (.t 20) (.c (.str []))),(some (18,true))⟩,jj 22 18 21,ja 2 22]
abbrev QFz:IL:=[ja 23 4,jq 24 23 0,ja 25 24,jl 26 2 1 25,ju 27 26 25,My 28 27 0 25,jj 29 25 28,ja 2 29]
abbrev r64:RC:=jQ QFv (jQ QFw (.seq (jQ QFx (.cond (.t 15) (jQ QFy (.ret)) (.skip))) (jQ QFz (.ret))))
abbrev o64:List RR:=[.tmp 2]
theorem k64:CT 64 30 r64 o64:=ck Tryz.func64 Tryz.ntmps64 (by decide +kernel)
abbrev QFA:IL:=[yi 4,jd 5 0]
abbrev QFB:IL:=[ja 6 0,yo 7 6 1,ja 8 7,jv 9 0 8,yk 10 9 65535 8,jo 11 8 10,ja 12 11,jv 13 1 12,F7 14 13 0 12,jo 15 12 14,ja 16 15,jv 17 1 16,yk 18 17 6 16,jo 19 16 18]
abbrev QFC:IL:=[yi 4,jd 5 6]
abbrev QFD:IL:=[ja 20 0,⟨some 21,.val (.bin .num .mul (.t 20) (.c (.int .i64 8))),none⟩,ja 22 1,yj 23 21 22,zo 24 23,jr 25 68 24,ja 4 25,jd 5 0]
abbrev r65:RC:=jQ QFA (.seq (jQ QFB (.cond (.t 19) (jQ QFC (.ret)) (.skip))) (jQ QFD (.ret)))
abbrev o65:List RR:=[.tmp 4,.tmp 5]
theorem k65:CT 65 26 r65 o65:=ck Tryz.func65 Tryz.ntmps65 (by decide +kernel)
abbrev QFE:IL:=[yi 2]
abbrev QFF:IL:=[ye 3]
abbrev QFG:IL:=[jd 4 0]
abbrev QFH:IL:=[ja 5 4,yo 6 5 8]
abbrev QFI:IL:=[ja 9 3,ja 10 0,⟨some 11,.val (.bin .num .rem (.t 10) (.c (.int .u64 256))),none⟩,D1 12 11,NX 13 1 1 0 1 12,yh 14 1 1 5 9 13,ja 3 14]
abbrev QFJ:IL:=[ja 15 0,⟨some 16,.val (.bin .num .quo (.t 15) (.c (.int .u64 256))),none⟩,ja 0 16]
abbrev QFK:IL:=[ja 7 4,jm 8 7 1,ja 4 8]
abbrev QFL:RC:=.seq (jQ QFH (jX 6 0)) (.seq (.block 1 (jQ QFI (.reg QFJ))) (.reg QFK))
abbrev QFM:IL:=[ja 17 3,NY 18 17,ja 2 18]
abbrev r66:RC:=jQ QFE (jQ QFF (.gho (.vec 3 3 1) (.seq (jQ QFG (.block 0 (.loop QFL))) (jQ QFM (.ret)))))
abbrev o66:List RR:=[.tmp 2]
theorem k66:CT 66 19 r66 o66:=ck Tryz.func66 Tryz.ntmps66 (by decide +kernel)
abbrev QFN:IL:=[jh 2]
abbrev QFO:IL:=[ja 3 0,jq 4 3 0,ja 5 4,jv 6 0 5,ys 7 6 1 5,jo 8 5 7,ja 9 8,jv 10 0 9,ys 11 10 2 9,jo 12 9 11,ja 2 12]
abbrev r67:RC:=jQ QFN (jQ QFO (.ret))
abbrev o67:List RR:=[.tmp 2]
theorem k67:CT 67 13 r67 o67:=ck Tryz.func67 Tryz.ntmps67 (by decide +kernel)
abbrev QFP:IL:=[yi 2]
abbrev QFQ:IL:=[ye 3]
abbrev QFR:IL:=[ja 4 0,⟨some 5,.val (.bin .num .geq (.t 4) (.c (.int .u64 128))),none⟩]
abbrev QFS:IL:=[ja 6 3,ja 7 0,⟨some 8,.val (.bin .num .rem (.t 7) (.c (.int .u64 128))),none⟩,⟨some 9,.val (.bin .num .add (.t 8) (.c (.int .u64 128))),none⟩,D1 10 9,NX 11 1 1 0 1 10,yh 12 1 1 5 6 11,ja 3 12]
abbrev QFT:IL:=[ja 13 0,⟨some 14,.val (.bin .num .quo (.t 13) (.c (.int .u64 128))),none⟩,ja 0 14]
abbrev QFU:RC:=.seq (jQ QFR (jX 5 0)) (.block 1 (jQ QFS (.reg QFT)))
abbrev QFV:IL:=[ja 15 3,ja 16 0,D1 17 16,NX 18 1 1 0 1 17,yh 19 1 1 5 15 18,NY 20 19,ja 2 20]
abbrev r68:RC:=jQ QFP (jQ QFQ (.gho (.vec 3 3 1) (.seq (.block 0 (.loop QFU)) (jQ QFV (.ret)))))
abbrev o68:List RR:=[.tmp 2]
theorem k68:CT 68 21 r68 o68:=ck Tryz.func68 Tryz.ntmps68 (by decide +kernel)
abbrev QFW:IL:=[ye 2]
abbrev QFX:IL:=[ye 3]
abbrev QFY:IL:=[jd 4 0]
abbrev QFZ:IL:=[ja 7 4,ja 8 0,ji 9 1 8,jn 10 7 9]
abbrev QF0:IL:=[ja 13 3,ji 14 1 13,ja 5 14]
abbrev QF1:IL:=[ja 15 5,yq 16 15 0,ja 17 16,jg 18 3 17,jg 19 5 17,D2 20 19 1 17,yc 21 4 18 20 17,jl 22 0 21 17,yp 23 22 17,jg 24 0 17,jg 25 4 17,yc 26 4 24 25 17,jl 27 0 26 17,yp 28 27 17,⟨some 29,.val (.bin .num .gtr (.t 23) (.t 28)),(some (17,true))⟩,jj 30 17 29]
abbrev QF2:IL:=[ja 31 5,za 32 31 1,ja 5 32]
abbrev Tj:RC:=.seq (jD QF1 (jX 30 2)) (.block 3 (.reg QF2))
abbrev QF3:IL:=[ja 33 0,ja 34 4,jk 35 4 33 34,ya 36 4 35,⟨some 37,.bslv 37 4 1 [.int .i64 0,.int .i64 0,.int .u64 0,.str []] [(0,4,(.t 36))],none⟩,ja 38 3,ja 39 5,⟨some 40,.val (.slcp (some 4) (.t 38) (some (.t 39)) none none),none⟩,yh 41 4 40 52 37 40,ja 6 41]
abbrev QF4:IL:=[⟨some 42,.bsl0 42 4,none⟩,ja 43 3,ja 44 5,D0 45 4 43 44,yh 46 4 40 52 42 45,ja 47 6,yh 48 4 40 52 46 47,ja 3 48]
abbrev QF5:IL:=[ja 11 4,jm 12 11 1,ja 4 12]
abbrev QF6:RC:=.seq (jQ QFZ (jX 10 0)) (.seq (.block 1 (jQ QF0 (.seq (.block 2 (.loop Tj)) (jD QF3 (.reg QF4))))) (.gho (.pub 3 42) (.reg QF5)))
abbrev QoM:IL:=[ja 49 3,ja 2 49]
abbrev r69:RC:=jQ QFW (jQ QFX (.gho (.lst 3) (.seq (jQ QFY (.block 0 (.loop QF6))) (jQ QoM (.ret)))))
abbrev o69:List RR:=[.tmp 2]
theorem k69:CT 69 50 r69 o69:=ck Tryz.func69 Tryz.ntmps69 (by decide +kernel)
abbrev QF7:IL:=[je 3 3 0,je 4 4 1,je 5 5 2,yu 6 6]
abbrev QF8:IL:=[jb 12 3 4,jc 13 12]
abbrev QF9:IL:=[jq 15 13 4,ja 14 15]
abbrev QGa:IL:=[⟨some 16,.val (.build [.int .i64 0,.int .u64 0,.str [],.nils,.nils,.nils,.nils] [(0,1,(.c (.int .i64 11)))]),none⟩,yu 7 7,js 7 7 16]
abbrev QGb:IL:=[jd 8 0]
abbrev QGc:IL:=[ja 17 8,jb 18 3 5,jc 19 18,ji 20 1 19,jn 21 17 20]
abbrev QGd:IL:=[jb 24 3 7,yb 25 0 7 24,jw 26 0 3 2 3,jw 27 0 4 8 4,jb 28 3 5,yb 29 0 5 28,ja 30 8,jk 31 7 29 30,ya 32 7 31,yd 33 113 26 27 32,⟨some 34,.bsl 7 1 [.int .i64 0,.int .u64 0,.str [],.nils,.nils,.nils,.nils] [(0,7,(.t 33))],none⟩,yh 35 7 128 32 25 34,jb 36 3 7,zp 0 7 1 36 35]
abbrev QGe:IL:=[ja 22 8,jm 23 22 1,ja 8 23]
abbrev QGf:RC:=.seq (jQ QGc (jX 21 1)) (.seq (.block 2 (.draw QGd)) (.reg QGe))
abbrev QGg:IL:=[jf 37 7 7,js 7 6 37]
abbrev QGh:IL:=[jq 39 13 5,ja 38 39]
abbrev QoN:IL:=[⟨some 40,.val (.build [.int .i64 0,.int .u64 0,.str [],.nils,.nils,.nils,.nils] [(0,1,(.c (.int .i64 12)))]),none⟩,yu 9 9,js 7 9 40]
abbrev QoO:IL:=[jb 41 4 5,jc 42 41,jr 43 114 42,ja 10 43]
abbrev QoP:IL:=[jd 11 0]
abbrev QoQ:IL:=[ja 44 11,ja 45 10,ji 46 1 45,jn 47 44 46]
abbrev QoR:IL:=[jb 50 4 9,yb 51 0 9 50,ja 52 10,ja 53 11,jk 54 14 52 53,jb 55 0 54,ya 56 7 55,jr 57 75 56,jw 58 0 3 2 3,jw 59 0 4 8 4,ja 60 10,ja 61 11,jk 62 14 60 61,jb 63 7 62,ya 64 7 63,yd 65 113 58 59 64,⟨some 66,.val (.build [.int .i64 0,.int .u64 0,.str [],.nils,.nils,.nils,.nils,.int .i64 0,.int .u64 0,.str [],.nils,.nils,.nils,.nils] [(0,7,(.t 57)),(7,7,(.t 65))]),none⟩,⟨some 67,.bsl 14 1 [.int .i64 0,.int .u64 0,.str [],.nils,.nils,.nils,.nils,.int .i64 0,.int .u64 0,.str [],.nils,.nils,.nils,.nils] [(0,14,(.t 66))],none⟩,yh 68 14 256 75 51 67,jb 69 4 9,zp 0 9 1 69 68]
abbrev QoS:IL:=[ja 48 11,jm 49 48 1,ja 11 49]
abbrev QGi:RC:=.seq (jQ QoQ (jX 47 3)) (.seq (.block 4 (.draw QoR)) (.reg QoS))
abbrev QoT:IL:=[jf 70 7 9,js 7 6 70]
abbrev QoU:IL:=[jf 71 2 3,jf 72 8 4,jf 73 7 5,yd 74 113 71 72 73,js 7 6 74]
abbrev r70:RC:=jQ QF7 (.seq (jQ QF8 (.block 0 (jQ QF9 (.cond (.t 14) (jQ QGa (.gho (.vecc 7 3 1100 7) (.seq (jQ QGb (.block 1 (.loop QGf))) (jQ QGg (.ret))))) (jQ QGh (.cond (.t 38) (jQ QoN (.gho (.vecc 9 4 1101 14) (jQ QoO (.seq (jQ QoP (.block 3 (.loop QGi))) (jQ QoT (.ret)))))) (.skip))))))) (jQ QoU (.ret)))
abbrev o70:List RR:=[.cell 6 (some 7)]
theorem k70:CT 70 75 r70 o70:=ck Tryz.func70 Tryz.ntmps70 (by decide +kernel)
abbrev QGj:IL:=[je 1 1 0,jh 2]
abbrev QGk:IL:=[jb 3 0 1,jc 4 3]
abbrev QGl:IL:=[jq 6 4 11,ja 5 6]
abbrev QGm:IL:=[jb 7 3 1,jc 8 7,ji 9 1 8,jq 10 9 0,ja 2 10]
abbrev QGn:IL:=[jq 12 4 12,ja 11 12]
abbrev QGo:IL:=[jb 13 4 1,jc 14 13,ji 15 1 14,jq 16 15 0,ja 2 16]
abbrev QGp:IL:=[jf 17 7 1,jr 18 115 17,ja 2 18]
abbrev r71:RC:=jQ QGj (.seq (jQ QGk (.block 0 (jQ QGl (.cond (.t 5) (jQ QGm (.ret)) (jQ QGn (.cond (.t 11) (jQ QGo (.ret)) (.skip))))))) (jQ QGp (.ret)))
abbrev o71:List RR:=[.tmp 2]
theorem k71:CT 71 19 r71 o71:=ck Tryz.func71 Tryz.ntmps71 (by decide +kernel)
abbrev QGq:IL:=[NT 2 0]
abbrev QGr:IL:=[ja 3 0,yn 4 3 0]
abbrev QGs:IL:=[ja 5 0,zo 6 5,⟨some 7,.val (.bin .num .mul (.c (.int .u64 2)) (.t 6)),none⟩,ja 2 7]
abbrev QGt:IL:=[ja 8 0,jm 9 8 1,⟨some 10,.val (.un .neg (.t 9)),none⟩,zo 11 10,⟨some 12,.val (.bin .num .mul (.c (.int .u64 2)) (.t 11)),none⟩,⟨some 13,.val (.bin .num .add (.t 12) (.c (.int .u64 1))),none⟩,ja 2 13]
abbrev r74:RC:=jQ QGq (.seq (jQ QGr (.cond (.t 4) (jQ QGs (.ret)) (.skip))) (jQ QGt (.ret)))
abbrev o74:List RR:=[.tmp 2]
theorem k74:CT 74 14 r74 o74:=ck Tryz.func74 Tryz.ntmps74 (by decide +kernel)
abbrev QGu:IL:=[je 1 1 0,yu 2 2]
abbrev QGv:IL:=[jb 3 0 1,jc 4 3,jq 5 4 6,ja 6 5,jl 7 1 1 6,ju 8 7 6,zh 9 123 8 6,ym 10 9 0 6,jj 11 6 10]
abbrev QGw:IL:=[jb 12 1 1,⟨none,.store 1 (.t 12) (.c (.int .u64 9221120237041090560)),none⟩]
abbrev QGx:IL:=[jf 13 7 1,js 7 2 13]
abbrev r75:RC:=jQ QGu (.seq (jQ QGv (.cond (.t 11) (.reg QGw) (.skip))) (jQ QGx (.ret)))
abbrev o75:List RR:=[.cell 2 (some 7)]
theorem k75:CT 75 14 r75 o75:=ck Tryz.func75 Tryz.ntmps75 (by decide +kernel)
abbrev QGy:IL:=[jh 2]
abbrev QGz:IL:=[ja 5 0,jr 6 124 5,jz 7 6]
abbrev QGA:IL:=[jh 2]
abbrev QGB:IL:=[ja 8 0,⟨some 9,.val (.bin .str .neq (.t 8) (.c (.str []))),none⟩]
abbrev QGC:IL:=[ja 11 0,jr 12 125 11,ja 10 12,jx 13 10 0,jx 14 10 1,ja 3 13,ja 4 14]
abbrev QGD:IL:=[ja 15 4,jr 16 126 15]
abbrev QGE:IL:=[jh 2]
abbrev QGF:IL:=[ja 17 3,ja 0 17]
abbrev QGG:RC:=.seq (jQ QGB (jX 9 0)) (.block 1 (jQ QGC (.seq (jQ QGD (.cond (.t 16) (jQ QGE (.ret)) (.skip))) (.reg QGF))))
abbrev QGH:IL:=[yl 2]
abbrev r76:RC:=jQ QGy (.seq (jQ QGz (.cond (.t 7) (jQ QGA (.ret)) (.skip))) (.seq (.block 0 (.loop QGG)) (jQ QGH (.ret))))
abbrev o76:List RR:=[.tmp 2]
theorem k76:CT 76 18 r76 o76:=ck Tryz.func76 Tryz.ntmps76 (by decide +kernel)
abbrev QGI:IL:=[jh 2]
abbrev QGJ:IL:=[ja 3 0,jr 4 127 3,ja 5 4,jg 6 0 5,zh 7 126 6 5,yx 8 7 5,jj 9 5 8,ja 2 9]
abbrev r77:RC:=jQ QGI (jQ QGJ (.ret))
abbrev o77:List RR:=[.tmp 2]
theorem k77:CT 77 10 r77 o77:=ck Tryz.func77 Tryz.ntmps77 (by decide +kernel)
abbrev QGK:IL:=[jh 4]
abbrev QGL:IL:=[jd 5 0]
abbrev QGM:IL:=[ja 6 5,ja 7 0,ji 8 1 7,jn 9 6 8]
abbrev QGN:IL:=[ja 12 0,ja 13 5,jk 14 2 12 13,jb 15 0 14,jc 16 15,ja 17 1,F9 18 16 17,ja 19 18,jg 20 1 19,jg 21 0 19,jg 22 5 19,yc 23 2 21 22 19,jl 24 1 23 19,ju 25 24 19,MF 26 20 25 19,jj 27 19 26]
abbrev QGO:IL:=[yl 4]
abbrev QGP:IL:=[ja 10 5,jm 11 10 1,ja 5 11]
abbrev QGQ:RC:=.seq (jQ QGM (jX 9 0)) (.seq (.block 1 (jQ QGN (.cond (.t 27) (jQ QGO (.ret)) (.skip)))) (.reg QGP))
abbrev QGR:IL:=[jh 4]
abbrev r78:RC:=jQ QGK (.seq (jQ QGL (.block 0 (.loop QGQ))) (jQ QGR (.ret)))
abbrev o78:List RR:=[.tmp 4]
theorem k78:CT 78 28 r78 o78:=ck Tryz.func78 Tryz.ntmps78 (by decide +kernel)
abbrev QGS:IL:=[jd 4 0]
abbrev QGT:IL:=[ja 6 0,ji 7 1 6,yq 8 7 8]
abbrev QGU:IL:=[jd 4 3]
abbrev QGV:IL:=[jd 5 0]
abbrev QGW:IL:=[ja 9 5,ja 10 0,ji 11 1 10,jn 12 9 11]
abbrev QGX:IL:=[ja 15 0,ja 16 5,jk 17 8 15 16,jb 18 0 17,jc 19 18,jr 20 128 19,jq 21 20 0]
abbrev QGY:IL:=[jd 4 8]
abbrev QGZ:IL:=[ja 22 0,ja 23 5,jk 24 8 22 23,jb 25 0 24,jc 26 25,ja 27 1,jy 28 129 26 27,jz 29 28]
abbrev QG0:IL:=[jd 4 1]
abbrev QoW:IL:=[ja 30 0,ja 31 5,jk 32 8 30 31,jf 33 8 32,jr 34 130 33,jz 35 34]
abbrev QoX:IL:=[jd 4 12]
abbrev QoY:IL:=[ja 36 5,yq 37 36 0,ja 38 37,jg 39 0 38,jg 40 5 38,yc 41 8 39 40 38,jl 42 0 41 38,yp 43 42 38,jg 44 0 38,jg 45 5 38,D2 46 45 1 38,yc 47 8 44 46 38,jl 48 0 47 38,yp 49 48 38,⟨some 50,.val (.bin .str .lss (.t 43) (.t 49)),(some (38,true))⟩,jj 51 38 50]
abbrev QoZ:IL:=[jd 4 11]
abbrev Qo0:IL:=[ja 52 5,yq 53 52 0,ja 54 53,jg 55 0 54,jg 56 5 54,yc 57 8 55 56 54,jl 58 0 57 54,yp 59 58 54,jg 60 0 54,jg 61 5 54,D2 62 61 1 54,yc 63 8 60 62 54,jl 64 0 63 54,yp 65 64 54,Mx 66 59 65 54,jj 67 54 66]
abbrev Qo1:IL:=[jd 4 9]
abbrev QG1:IL:=[ja 13 5,jm 14 13 1,ja 5 14]
abbrev QG2:RC:=.seq (jQ QGW (jX 12 0)) (.seq (.block 1 (.seq (jQ QGX (.cond (.t 21) (jQ QGY (.ret)) (.skip))) (.seq (jQ QGZ (.cond (.t 29) (jQ QG0 (.ret)) (.skip))) (.seq (jQ QoW (.cond (.t 35) (jQ QoX (.ret)) (.skip))) (.seq (jD QoY (.cond (.t 51) (jQ QoZ (.ret)) (.skip))) (jD Qo0 (.cond (.t 67) (jQ Qo1 (.ret)) (.skip)))))))) (.reg QG1))
abbrev Qo2:IL:=[jd 4 0]
abbrev r79:RC:=jQ QGS (.seq (jQ QGT (.cond (.t 8) (jQ QGU (.ret)) (.skip))) (.seq (jQ QGV (.block 0 (.loop QG2))) (jQ Qo2 (.ret))))
abbrev o79:List RR:=[.tmp 4]
theorem k79:CT 79 68 r79 o79:=ck Tryz.func79 Tryz.ntmps79 (by decide +kernel)
abbrev QG3:IL:=[je 1 1 0,jh 2]
abbrev QG4:IL:=[jd 3 0]
abbrev QG5:IL:=[jd 4 0]
abbrev QG6:IL:=[ja 6 4,jb 7 1 1,jc 8 7,ji 9 1 8,jn 10 6 9]
abbrev QG7:IL:=[jb 13 1 1,jc 14 13,ja 15 4,jk 16 8 14 15,jb 17 7 16,jc 18 17,ja 5 18]
abbrev QG8:IL:=[ja 20 5,ja 21 3,zm 22 20 21,ja 19 22]
abbrev QG9:IL:=[ja 23 3,jm 24 23 1,ja 3 24]
abbrev QHa:IL:=[ja 26 5,yg 27 26 (-1),ja 28 27,jg 29 4 28,ym 30 29 0 28,jg 31 30 28,jp 32 1 1 31,jt 33 32 31,jv 34 4 31,⟨some 35,.val (.bin .num .sub (.t 34) (.c (.int .i64 1))),(some (31,false))⟩,yz 36 8 33 35 31,jp 37 7 36 31,jt 38 37 31,jv 39 5 31,Mw 40 38 39 31,zf 41 31 40 28,jj 42 28 41,ja 25 42]
abbrev QHb:IL:=[jh 2]
abbrev QHc:IL:=[ja 11 4,jm 12 11 1,ja 4 12]
abbrev QHd:RC:=.seq (jQ QG6 (jX 10 0)) (.seq (.block 1 (jQ QG7 (.block 2 (jQ QG8 (.cond (.t 19) (.reg QG9) (jQ QHa (.cond (.t 25) (jQ QHb (.ret)) (.skip)))))))) (.reg QHc))
abbrev Qo3:IL:=[jb 43 2 1,jc 44 43,ja 45 3,zm 46 44 45,ja 2 46]
abbrev r80:RC:=jQ QG3 (jQ QG4 (.seq (jQ QG5 (.block 0 (.loop QHd))) (jQ Qo3 (.ret))))
abbrev o80:List RR:=[.tmp 2]
theorem k80:CT 80 47 r80 o80:=ck Tryz.func80 Tryz.ntmps80 (by decide +kernel)
def Tk:IL:=[je 2 2 0,je 3 3 1,jh 4]
def Tl:IL:=[jb 6 2 3,jc 7 6,jr 8 131 7,jz 9 8,ja 10 9,jp 11 2 3 10,jt 12 11 10,yf 13 0 12 10,yk 14 13 4096 10,jo 15 10 14,ja 16 15,jp 17 3 3 16,jt 18 17 16,F7 19 18 1 16,jo 20 16 19,ja 21 20,jp 22 3 3 21,jt 23 22 21,yk 24 23 5 21,jo 25 21 24,ja 26 25,jp 27 5 3 26,jt 28 27 26,F7 29 28 1 26,jo 30 26 29,ja 31 30,jp 32 5 3 31,jt 33 32 31,yk 34 33 10 31,jo 35 31 34]
def Tm:IL:=[jh 4]
def Tn:IL:=[jb 36 4 3,jc 37 36,yn 38 37 1,ja 39 38,jl 40 4 3 39,ju 41 40 39,yy 42 41 5 39,jj 43 39 42,ja 44 43,jp 45 4 3 44,jt 46 45 44,ys 47 46 7 44,jo 48 44 47,ja 5 48]
def To:IL:=[jb 49 3 3,jc 50 49,yg 51 50 5]
def Tp:IL:=[jb 52 4 3,jc 53 52,jq 54 53 0,ja 5 54]
def V7:IL:=[ja 55 5,ja 56 55,zk 57 2 2 56,zk 58 8 3 56,Gu 59 132 57 58 56,jj 60 56 59,ja 61 60,jl 62 7 3 61,ju 63 62 61,ym 64 63 (-1) 61,jg 65 64 61,jp 66 3 3 65,jt 67 66 65,ys 68 67 2 65,zf 69 65 68 61,jj 70 61 69,ja 4 70]
def r81:RC:=jQ Tk (.seq (jQ Tl (.cond (.t 35) (jQ Tm (.ret)) (.skip))) (jQ Tn (.seq (jQ To (.cond (.t 51) (.reg Tp) (.skip))) (jQ V7 (.ret)))))
def o81:List RR:=[.tmp 4]
theorem k81:CT 81 71 r81 o81:=ck Tryz.func81 Tryz.ntmps81 (by decide +kernel)
abbrev QHe:IL:=[jd 2 0]
abbrev QHf:IL:=[ja 5 0,⟨some 6,.val (.bin .num .and (.t 5) (.c (.int .u64 9218868437227405312))),none⟩,ja 7 0,⟨some 8,.val (.bin .num .and (.t 7) (.c (.int .u64 4503599627370495))),none⟩,ja 3 6,ja 4 8]
abbrev QHg:IL:=[ja 10 3,Gs 11 10 9218868437227405312,ja 12 11,jg 13 4 12,⟨some 14,.val (.bin .num .neq (.t 13) (.c (.int .u64 0))),(some (12,true))⟩,jj 15 12 14,ja 9 15]
abbrev QHh:IL:=[jd 2 0]
abbrev QHi:IL:=[ja 17 3,Gs 18 17 9218868437227405312,ja 16 18]
abbrev QHj:IL:=[jd 2 1]
abbrev QHk:IL:=[ja 20 3,Gs 21 20 0,ja 22 21,jg 23 4 22,My 24 23 0 22,jj 25 22 24,ja 19 25]
abbrev QHl:IL:=[jd 2 2]
abbrev QHm:IL:=[ja 27 3,Gs 28 27 0,ja 26 28]
abbrev QHn:IL:=[jd 2 3]
abbrev Qo4:IL:=[jd 2 4]
abbrev r82:RC:=jQ QHe (.seq (jQ QHf (.block 0 (jQ QHg (.cond (.t 9) (jQ QHh (.ret)) (jQ QHi (.cond (.t 16) (jQ QHj (.ret)) (jQ QHk (.cond (.t 19) (jQ QHl (.ret)) (jQ QHm (.cond (.t 26) (jQ QHn (.ret)) (.skip))))))))))) (jQ Qo4 (.ret)))
abbrev o82:List RR:=[.tmp 2]
theorem k82:CT 82 29 r82 o82:=ck Tryz.func82 Tryz.ntmps82 (by decide +kernel)
abbrev QHo:IL:=[je 2 2 0,jh 3]
abbrev QHp:IL:=[jb 4 0 2,jc 5 4,jb 6 0 1,jc 7 6,zm 8 5 7,ja 3 8]
abbrev r93:RC:=jQ QHo (jQ QHp (.ret))
abbrev o93:List RR:=[.tmp 3]
theorem k93:CT 93 9 r93 o93:=ck Tryz.func93 Tryz.ntmps93 (by decide +kernel)
def Tq:IL:=[je 3 3 0,je 4 4 1,je 5 5 2,jd 6 0]
def Tr:IL:=[jb 11 1 5,jc 12 11,⟨some 13,.val (.bin .num .leq (.t 12) (.c (.int .i64 2))),none⟩,ja 7 13]
def Ts:IL:=[jf 15 3 4,jb 16 0 5,jc 17 16,jy 18 72 15 17,ja 14 18,jx 19 14 0,jx 20 14 1,zd 8 8,js 8 8 19,ja 9 20]
def YE:IL:=[jb 21 5 8,jc 22 21,jq 23 22 9,ja 24 23,jl 25 3 8 24,ju 26 25 24,zv 27 26 5 24,jj 28 24 27,ja 29 28,jl 30 1 5 29,ju 31 30 29,ym 32 31 0 29,jj 33 29 32,ja 34 33,jl 35 2 5 34,ju 36 35 34,⟨some 37,.val (.bin .num .leq (.t 36) (.c (.int .u64 2147483647))),(some (34,true))⟩,jj 38 34 37,ja 39 38,jl 40 0 3 39,zk 41 2 40 39,jl 42 6 8 39,ju 43 42 39,jl 44 2 5 39,ju 45 44 39,D3 46 179 41 43 45 39,yx 47 46 39,jj 48 39 47,ja 10 48]
def Tt:IL:=[jb 50 0 5,jc 51 50,yo 52 51 1,ja 53 52,jp 54 0 5 53,jt 55 54 53,yk 56 55 65535 53,jo 57 53 56,ja 58 57,jp 59 1 5 58,jt 60 59 58,F7 61 60 0 58,jo 62 58 61,ja 63 62,jp 64 1 5 63,jt 65 64 63,yk 66 65 6 63,jo 67 63 66,ja 49 67]
def Gv:IL:=[jd 6 1]
def Tu:IL:=[ja 69 7,ja 70 69,jl 71 3 5 70,ju 72 71 70,⟨some 73,.val (.bin .str .neq (.t 72) (.c (.str []))),(some (70,true))⟩,jj 74 70 73,ja 75 74,jv 76 7 75,ze 77 76 75,jv 78 77 75,jl 79 2 5 78,ju 80 79 78,⟨some 81,.val (.bin .num .neq (.t 80) (.c (.int .u64 0))),(some (78,true))⟩,yw 82 78 81 75,jo 83 75 82,ja 84 83,jv 85 9 84,jv 86 85 84,jg 87 10 86,yx 88 87 86,yw 89 86 88 84,jo 90 84 89,ja 68 90]
def Gw:IL:=[jd 6 1]
def V8:IL:=[jb 92 1 5,jc 93 92,jq 94 93 3,ja 95 94,jl 96 3 5 95,ju 97 96 95,yt 98 0 97 95,F6 99 98 4096 95,jj 100 95 99,ja 101 100,jp 102 3 5 101,jt 103 102 101,yf 104 0 103 101,yk 105 104 65536 101,jo 106 101 105,ja 91 106]
def V9:IL:=[jd 6 3]
def Bj:IL:=[jd 6 0]
def r94:RC:=jQ Tq (jQ Tr (jQ Ts (jQ YE (.seq (.block 0 (jQ Tt (.cond (.t 49) (jQ Gv (.ret)) (jQ Tu (.cond (.t 68) (jQ Gw (.ret)) (jQ V8 (.cond (.t 91) (jQ V9 (.ret)) (.skip)))))))) (jQ Bj (.ret))))))
def o94:List RR:=[.tmp 6]
theorem k94:CT 94 107 r94 o94:=ck Tryz.func94 Tryz.ntmps94 (by decide +kernel)
abbrev Qo5:IL:=[je 2 2 0,je 3 3 1,jd 4 0]
abbrev Qo6:IL:=[jb 5 0 2,jc 6 5,jb 7 0 3,jc 8 7,jy 9 102 6 8,ja 4 9]
abbrev QLV:RC:=jQ Qo5 (jQ Qo6 (.ret))
abbrev QLW:List RR:=[.tmp 4]
theorem QLX:CT 101 10 QLV QLW:=ck Tryz.func101 Tryz.ntmps101 (by decide +kernel)
abbrev Qo7:IL:=[yi 2]
abbrev Qo8:IL:=[⟨some 5,.mk 5 5 1 1 [.int .u8 0] (.c (.int .i64 8)) (.c (.int .i64 8)),none⟩,ja 3 5]
abbrev Qo9:IL:=[ja 6 3,ji 7 1 6,jd 8 0]
abbrev Qpa:IL:=[jn 9 8 7]
abbrev Qpb:IL:=[ja 10 8,ja 4 10]
abbrev Qpc:IL:=[ja 11 3,ja 12 4,ja 13 0,ja 14 4,MD 15 8 14,⟨some 16,.val (.bin .num .shr (.t 13) (.t 15)),none⟩,D1 17 16,jk 18 1 11 12,js 1 18 17]
abbrev Qpd:IL:=[jm 19 8 1,ja 8 19]
abbrev Qpe:RC:=jQ Qpa (.seq (jX 9 0) (.seq (.block 1 (jQ Qpb (.reg Qpc))) (.reg Qpd)))
abbrev Qpf:IL:=[ja 20 3,NY 21 20,ja 2 21]
abbrev QLY:RC:=jQ Qo7 (jQ Qo8 (.seq (jQ Qo9 (.block 0 (.loop Qpe))) (jQ Qpf (.ret))))
abbrev QLZ:List RR:=[.tmp 2]
theorem QL0:CT 106 22 QLY QLZ:=ck Tryz.func106 Tryz.ntmps106 (by decide +kernel)
abbrev Qpg:IL:=[je 4 4 0,je 5 5 1,jd 8 0]
abbrev Qph:IL:=[jd 9 0]
abbrev Qpi:IL:=[ja 13 9,ja 14 2,ji 15 1 14,jn 16 13 15]
abbrev Qpj:IL:=[jw 19 0 4 2 4,jb 20 4 5,yb 21 0 5 20,ja 22 2,ja 23 9,jk 24 14 22 23,jb 25 0 24,ya 26 7 25,⟨some 27,.call (.f 190) [(.t 19),(.t 21),(.c (.int .i64 (-1))),(.t 26)],none⟩,ja 10 27]
abbrev Qpk:IL:=[ja 28 10,yg 29 28 0]
abbrev Qpl:IL:=[ja 30 10,ja 8 30]
abbrev Qpm:IL:=[jd 11 0]
abbrev Qpn:IL:=[ja 31 11,ja 32 9,jn 33 31 32]
abbrev IJ:IL:=[ja 36 2,ja 37 11,jk 38 14 36 37,jb 39 0 38,ya 40 7 39,ja 41 2,ja 42 9,jk 43 14 41 42,jb 44 0 43,ya 45 7 44,jy 46 191 40 45]
abbrev IK:IL:=[jd 8 9]
abbrev Qpo:IL:=[ja 34 11,jm 35 34 1,ja 11 35]
abbrev MX:RC:=.seq (jQ Qpn (jX 33 2)) (.seq (.block 3 (jD IJ (.cond (.t 46) (jQ IK (.ret)) (.skip)))) (.reg Qpo))
abbrev IM:IL:=[jw 47 0 4 2 4,jw 48 0 5 8 5,ja 49 2,ja 50 9,jk 51 14 49 50,jb 52 7 51,ya 53 7 52,ja 54 3,zj 55 111 47 48 53 54,ja 12 55]
abbrev IN:IL:=[ja 56 12,yg 57 56 0]
abbrev IP:IL:=[ja 58 12,ja 8 58]
abbrev Qpp:IL:=[ja 17 9,jm 18 17 1,ja 9 18]
abbrev Qpq:RC:=.seq (jQ Qpi (jX 16 0)) (.seq (.block 1 (.seq (jD Qpj (jQ Qpk (.cond (.t 29) (jQ Qpl (.ret)) (.skip)))) (.seq (jQ Qpm (.block 2 (.loop MX))) (jD IM (jQ IN (.cond (.t 57) (jQ IP (.ret)) (.skip))))))) (.reg Qpp))
abbrev IQ:IL:=[jd 8 0]
abbrev QL1:RC:=jQ Qpg (.seq (jQ Qph (.block 0 (.loop Qpq))) (jQ IQ (.ret)))
abbrev QL2:List RR:=[.tmp 8]
theorem QL3:CT 110 59 QL1 QL2:=ck Tryz.func110 Tryz.ntmps110 (by decide +kernel)
abbrev Qpr:IL:=[je 4 4 0,je 5 5 1,je 6 6 2,jd 8 0]
abbrev Qps:IL:=[jb 9 5 5,jc 10 9,jq 11 10 10]
abbrev Qpt:IL:=[jf 12 2 4,jb 13 6 5,jc 14 13,jf 15 7 6,ja 16 3,jm 17 16 1,zj 18 31 12 14 15 17,ja 8 18]
abbrev Qpu:IL:=[jf 19 2 4,jb 20 5 5,jc 21 20,jb 22 6 5,jc 23 22,jf 24 7 6,zj 25 190 19 21 23 24,ja 8 25]
abbrev QL4:RC:=jQ Qpr (.seq (jQ Qps (.cond (.t 11) (jQ Qpt (.ret)) (.skip))) (jQ Qpu (.ret)))
abbrev QL5:List RR:=[.tmp 8]
theorem QL6:CT 111 26 QL4 QL5:=ck Tryz.func111 Tryz.ntmps111 (by decide +kernel)
abbrev Qpv:IL:=[je 3 3 0,jh 6]
abbrev Qpw:IL:=[ja 9 1,yo 10 9 0,ja 11 10,jv 12 1 11,jp 13 1 3 11,jt 14 13 11,yf 15 1 14 11,DY 16 12 15 11,jo 17 11 16,ja 18 17,jv 19 2 18,⟨some 20,.val (.bin .num .gtr (.t 19) (.c (.int .u64 2147483647))),(some (18,false))⟩,jo 21 18 20]
abbrev Qpx:IL:=[jh 6]
abbrev Qpy:IL:=[jb 22 1 3,jc 23 22,ja 24 1,jk 25 5 23 24,jb 26 1 25,jc 27 26,ja 7 27]
abbrev Qpz:IL:=[jd 8 0]
abbrev QpA:IL:=[ja 28 8,jb 29 1 3,jc 30 29,ja 31 1,jk 32 5 30 31,jb 33 2 32,jc 34 33,ji 35 1 34,jn 36 28 35]
abbrev QpB:IL:=[ja 39 7,ja 40 39,jp 41 1 3 40,jt 42 41 40,jv 43 1 40,yz 44 5 42 43 40,jp 45 2 44 40,jt 46 45 40,jv 47 8 40,yz 48 3 46 47 40,jp 49 1 48 40,jt 50 49 40,jv 51 2 40,⟨some 52,.val (.cvi .i64 (.t 51)),(some (40,false))⟩,⟨some 53,.val (.bin .num .eql (.t 50) (.t 52)),(some (40,false))⟩,jo 54 40 53,ja 7 54]
abbrev QpC:IL:=[ja 37 8,jm 38 37 1,ja 8 38]
abbrev QpD:RC:=.seq (jQ QpA (jX 36 0)) (.seq (.block 1 (.reg QpB)) (.reg QpC))
abbrev QpE:IL:=[ja 55 7,ja 6 55]
abbrev QL7:RC:=jQ Qpv (.seq (jQ Qpw (.cond (.t 21) (jQ Qpx (.ret)) (.skip))) (jQ Qpy (.seq (jQ Qpz (.block 0 (.loop QpD))) (jQ QpE (.ret)))))
abbrev QL8:List RR:=[.tmp 6]
theorem QL9:CT 112 56 QL7 QL8:=ck Tryz.func112 Tryz.ntmps112 (by decide +kernel)
abbrev QpF:IL:=[je 3 3 0,je 4 4 1,je 5 5 2,yu 6 6]
abbrev QpG:IL:=[jb 7 5 4,jc 8 7,jq 9 8 10]
abbrev QpH:IL:=[jf 10 2 3,jb 11 6 4,jc 12 11,jf 13 7 5,yd 14 35 10 12 13,js 7 6 14]
abbrev QpI:IL:=[jf 15 7 5,jr 16 75 15,js 7 6 16]
abbrev QMa:RC:=jQ QpF (.seq (jQ QpG (.cond (.t 9) (jQ QpH (.ret)) (.skip))) (jQ QpI (.ret)))
abbrev QMb:List RR:=[.cell 6 (some 7)]
theorem QpJ:CT 113 17 QMa QMb:=ck Tryz.func113 Tryz.ntmps113 (by decide +kernel)
abbrev QpK:IL:=[ye 2]
abbrev QpL:IL:=[ye 3]
abbrev QpM:IL:=[jd 4 0]
abbrev QpN:IL:=[ja 9 4,ja 10 0,ji 11 1 10,jn 12 9 11]
abbrev QpO:IL:=[yl 5]
abbrev QpP:IL:=[ja 15 4,jm 16 15 1,ja 6 16]
abbrev QpQ:IL:=[ja 17 6,ja 18 0,ji 19 1 18,jn 20 17 19]
abbrev QpR:IL:=[ja 23 5,ja 24 23,jg 25 0 24,jg 26 4 24,yc 27 14 25 26 24,jl 28 0 27 24,Gt 29 7 28 24,jg 30 0 24,jg 31 6 24,yc 32 14 30 31 24,jl 33 0 32 24,Gt 34 7 33 24,Gu 35 192 29 34 24,zv 36 35 0 24,jj 37 24 36,ja 5 37]
abbrev QpS:IL:=[ja 21 6,jm 22 21 1,ja 6 22]
abbrev MY:RC:=.seq (jQ QpQ (jX 20 2)) (.seq (.block 3 (.draw QpR)) (.reg QpS))
abbrev IR:IL:=[ja 38 5]
abbrev IS:IL:=[jd 7 0]
abbrev IU:IL:=[ja 39 7,ja 40 3,ji 41 1 40,jn 42 39 41,ja 43 42,jg 44 3 43,jg 45 7 43,yc 46 14 44 45 43,jl 47 0 46 43,Gt 48 7 47 43,jg 49 0 43,jg 50 4 43,yc 51 14 49 50 43,jl 52 0 51 43,Gt 53 7 52 43,Gu 54 192 48 53 43,⟨some 55,.val (.bin .num .lss (.t 54) (.c (.int .i64 0))),(some (43,true))⟩,jj 56 43 55]
abbrev IV:IL:=[ja 57 7,jm 58 57 1,ja 7 58]
abbrev MZ:RC:=.seq (jD IU (jX 56 4)) (.block 5 (.reg IV))
abbrev IW:IL:=[ja 59 0,ja 60 4,jk 61 14 59 60,ya 62 14 61,⟨some 63,.bslv 63 14 1 [.int .i64 0,.int .u64 0,.str [],.nils,.nils,.nils,.nils,.int .i64 0,.int .u64 0,.str [],.nils,.nils,.nils,.nils] [(0,14,(.t 62))],none⟩,ja 64 3,ja 65 7,⟨some 66,.val (.slcp (some 14) (.t 64) (some (.t 65)) none none),none⟩,yh 67 14 256 75 63 66,ja 8 67]
abbrev IX:IL:=[⟨some 68,.bsl0 68 14,none⟩,ja 69 3,ja 70 7,D0 71 14 69 70,yh 72 14 256 75 68 71,ja 73 8,yh 74 14 256 75 72 73,ja 3 74]
abbrev QpT:IL:=[ja 13 4,jm 14 13 1,ja 4 14]
abbrev QpU:RC:=.seq (jQ QpN (jX 12 0)) (.seq (.block 1 (jQ QpO (.seq (jQ QpP (.block 2 (.loop MY))) (jQ IR (.cond (.t 38) (jQ IS (.seq (.block 4 (.loop MZ)) (jD IW (.reg IX)))) (.skip)))))) (.gho (.pub 3 68) (.reg QpT)))
abbrev IY:IL:=[ja 75 3,ja 2 75]
abbrev QMc:RC:=jQ QpK (jQ QpL (.gho (.lst 3) (.seq (jQ QpM (.block 0 (.loop QpU))) (jQ IY (.ret)))))
abbrev QMd:List RR:=[.tmp 2]
theorem QMe:CT 114 76 QMc QMd:=ck Tryz.func114 Tryz.ntmps114 (by decide +kernel)
abbrev QpV:IL:=[je 1 1 0,jh 2]
abbrev QpW:IL:=[jb 3 0 1,jc 4 3,jr 5 193 4,ja 6 5,jl 7 1 1 6,ju 8 7 6,My 9 8 0 6,jj 10 6 9,ja 11 10,jl 12 2 1 11,ju 13 12 11,⟨some 14,.val (.bin .str .eql (.t 13) (.c (.str []))),(some (11,true))⟩,jj 15 11 14,ja 16 15,zk 17 7 1 16,zh 18 194 17 16,jj 19 16 18,ja 2 19]
abbrev QMf:RC:=jQ QpV (jQ QpW (.ret))
abbrev QMg:List RR:=[.tmp 2]
theorem QMh:CT 115 20 QMf QMg:=ck Tryz.func115 Tryz.ntmps115 (by decide +kernel)
abbrev QpX:IL:=[je 3 3 0,je 4 4 1,je 5 5 2,ye 6]
abbrev QpY:IL:=[ye 7]
abbrev QpZ:IL:=[jb 11 4 5,jc 12 11,ji 13 1 12,jd 14 0]
abbrev Qp0:IL:=[jn 15 14 13]
abbrev Qp1:IL:=[jk 16 14 12 14,jf 17 14 16,MB 9 9,js 14 9 17]
abbrev Qp2:IL:=[jb 18 0 9,jw 19 0 9 7 18,jr 20 25 19,⟨some 21,.call (.f 196) [(.c (.int .i64 1)),(.t 20)],none⟩,jw 22 0 3 2 3,jw 23 0 4 8 4,jb 24 7 9,jw 25 0 9 7 24,yd 26 197 22 23 25,⟨some 27,.call (.f 196) [(.c (.int .i64 2)),(.t 26)],none⟩,⟨some 28,.bsl 4 2 [.int .i64 0,.int .i64 0,.int .u64 0,.str []] [(0,4,(.t 21)),(4,4,(.t 27))],none⟩,ja 10 28]
abbrev Qp3:IL:=[ja 29 7,jb 30 0 4,yb 31 0 4 30,ja 32 10,jr 33 58 32,⟨some 34,.val (.build [.int .i64 0,.int .i64 0,.int .u64 0,.str []] [(0,1,(.t 31)),(1,1,(.c (.int .i64 6))),(3,1,(.t 33))]),none⟩,zw 35 4 1 0 4 34,yh 36 4 40 52 29 35,ja 7 36]
abbrev Qp4:IL:=[jm 37 14 1,ja 14 37]
abbrev Qp5:RC:=.gho (.drop 9) (jQ Qp0 (.seq (jX 15 0) (.seq (.block 1 (jQ Qp1 (jD Qp2 (.draw Qp3)))) (.reg Qp4))))
abbrev Qp6:IL:=[ja 38 7,ja 6 38]
abbrev QMi:RC:=jQ QpX (jQ QpY (.gho (.vec 7 7 4) (.seq (jQ QpZ (.block 0 (.loop Qp5))) (jQ Qp6 (.ret)))))
abbrev QMj:List RR:=[.tmp 6]
theorem QMk:CT 118 39 QMi QMj:=ck Tryz.func118 Tryz.ntmps118 (by decide +kernel)
abbrev Qp7:IL:=[je 3 3 0,je 4 4 1,je 5 5 2,ye 6]
abbrev Qp8:IL:=[ye 7]
abbrev Qp9:IL:=[jb 10 3 5,jc 11 10,ji 12 1 11,jd 13 0]
abbrev Qqa:IL:=[jn 14 13 12]
abbrev Qqb:IL:=[jk 15 7 11 13,jf 16 7 15,yu 9 9,js 7 9 16]
abbrev Qqc:IL:=[ja 17 7,jb 18 0 4,yb 19 0 4 18,jw 20 0 3 2 3,jw 21 0 4 8 4,jw 22 0 9 7 9,yd 23 197 20 21 22,jy 24 196 19 23,zw 25 4 1 0 4 24,yh 26 4 40 52 17 25,ja 7 26]
abbrev Qqd:IL:=[jm 27 13 1,ja 13 27]
abbrev Qqe:RC:=.gho (.drop 9) (jQ Qqa (.seq (jX 14 0) (.seq (.block 1 (jQ Qqb (.draw Qqc))) (.reg Qqd))))
abbrev Qqf:IL:=[ja 28 7,ja 6 28]
abbrev QMl:RC:=jQ Qp7 (jQ Qp8 (.gho (.vec 7 7 4) (.seq (jQ Qp9 (.block 0 (.loop Qqe))) (jQ Qqf (.ret)))))
abbrev QMm:List RR:=[.tmp 6]
theorem QMn:CT 121 29 QMl QMm:=ck Tryz.func121 Tryz.ntmps121 (by decide +kernel)
abbrev Qqg:IL:=[jd 2 0]
abbrev Qqh:IL:=[ja 4 0,⟨some 5,.val (.bin .num .rem (.t 4) (.c (.int .u64 9223372036854775808))),none⟩,ja 3 5]
abbrev Qqi:IL:=[ja 7 3,⟨some 8,.val (.bin .num .gtr (.t 7) (.c (.int .u64 9218868437227405312))),none⟩,ja 6 8]
abbrev Qqj:IL:=[jd 2 0]
abbrev Qqk:IL:=[ja 10 3,Gs 11 10 9218868437227405312,ja 9 11]
abbrev Qql:IL:=[jd 2 1]
abbrev Qqm:IL:=[ja 13 3,Gs 14 13 0,ja 12 14]
abbrev Qqn:IL:=[jd 2 2]
abbrev Qqo:IL:=[ja 16 3,⟨some 17,.val (.bin .num .lss (.t 16) (.c (.int .u64 4503599627370496))),none⟩,ja 15 17]
abbrev Qqp:IL:=[jd 2 3]
abbrev IZ:IL:=[jd 2 4]
abbrev QMo:RC:=jQ Qqg (jQ Qqh (.seq (.block 0 (jQ Qqi (.cond (.t 6) (jQ Qqj (.ret)) (jQ Qqk (.cond (.t 9) (jQ Qql (.ret)) (jQ Qqm (.cond (.t 12) (jQ Qqn (.ret)) (jQ Qqo (.cond (.t 15) (jQ Qqp (.ret)) (.skip)))))))))) (jQ IZ (.ret))))
abbrev QMp:List RR:=[.tmp 2]
theorem Qqq:CT 123 18 QMo QMp:=ck Tryz.func123 Tryz.ntmps123 (by decide +kernel)
abbrev Qqr:IL:=[jh 2]
abbrev Qqs:IL:=[ja 5 0,ji 6 0 5,yq 7 6 120]
abbrev Qqt:IL:=[jh 2]
abbrev Qqu:IL:=[yi 3]
abbrev Qqv:IL:=[jd 4 0]
abbrev Qqw:IL:=[ja 8 4,ja 9 0,ji 10 0 9,jn 11 8 10]
abbrev Qqx:IL:=[ja 14 0,ja 15 4,NZ 16 14 15,⟨some 17,.val (.bin .num .neq (.t 16) (.c (.int .u8 46))),none⟩]
abbrev Qqy:IL:=[ja 18 3,ja 19 0,ja 20 4,ja 21 4,jm 22 21 1,⟨some 23,.val (.slc none (.t 19) (some (.t 20)) (some (.t 22)) none),none⟩,D4 24 18 23,ja 3 24]
abbrev Qqz:IL:=[ja 25 3,jr 26 127 25,jz 27 26]
abbrev I0:IL:=[jh 2]
abbrev I3:IL:=[yi 3]
abbrev QqA:IL:=[ja 12 4,jm 13 12 1,ja 4 13]
abbrev QqB:RC:=.seq (jQ Qqw (jX 11 0)) (.seq (.block 1 (.seq (jQ Qqx (.cond (.t 17) (jQ Qqy (.exit 1)) (.skip))) (.seq (jQ Qqz (.cond (.t 27) (jQ I0 (.ret)) (.skip))) (.reg I3)))) (.reg QqA))
abbrev I4:IL:=[ja 28 3,jr 29 127 28,ja 2 29]
abbrev QMq:RC:=jQ Qqr (.seq (jQ Qqs (.cond (.t 7) (jQ Qqt (.ret)) (.skip))) (jQ Qqu (.seq (jQ Qqv (.block 0 (.loop QqB))) (jQ I4 (.ret)))))
abbrev QMr:List RR:=[.tmp 2]
theorem QMs:CT 124 30 QMq QMr:=ck Tryz.func124 Tryz.ntmps124 (by decide +kernel)
abbrev QqC:IL:=[yi 2,yi 3]
abbrev QqD:IL:=[ja 5 0,ji 6 0 5,za 7 6 1,ja 4 7]
abbrev QqE:IL:=[ja 8 4,yn 9 8 0]
abbrev QqF:IL:=[ja 12 0,ja 13 4,NZ 14 12 13,MG 15 14 46]
abbrev QqG:IL:=[ja 16 0,ja 17 4,⟨some 18,.val (.slc none (.t 16) none (some (.t 17)) none),none⟩,ja 19 0,ja 20 4,jm 21 20 1,ME 22 19 21,ja 2 18,ja 3 22]
abbrev QqH:IL:=[ja 10 4,za 11 10 1,ja 4 11]
abbrev QqI:RC:=.seq (jQ QqE (jX 9 0)) (.seq (.block 1 (jQ QqF (.cond (.t 15) (jD QqG (.ret)) (.skip)))) (.reg QqH))
abbrev QqJ:IL:=[ja 23 0,yi 2,ja 3 23]
abbrev QMt:RC:=jQ QqC (.seq (jQ QqD (.block 0 (.loop QqI))) (jQ QqJ (.ret)))
abbrev QMu:List RR:=[.tmp 2,.tmp 3]
theorem QMv:CT 125 24 QMt QMu:=ck Tryz.func125 Tryz.ntmps125 (by decide +kernel)
abbrev QqK:IL:=[jh 2]
abbrev QqL:IL:=[ja 3 0]
abbrev QqM:IL:=[⟨some 5,.val (.bin .str .eql (.t 3) (.c (.str [109,101,115,115,97,103,101]))),none⟩,ja 4 5]
abbrev QqN:IL:=[⟨some 6,.val (.bin .str .eql (.t 3) (.c (.str [101,110,117,109]))),none⟩,ja 4 6]
abbrev QqO:IL:=[⟨some 7,.val (.bin .str .eql (.t 3) (.c (.str [115,101,114,118,105,99,101]))),none⟩,ja 4 7]
abbrev QqP:IL:=[⟨some 8,.val (.bin .str .eql (.t 3) (.c (.str [117,110,105,111,110]))),none⟩,ja 4 8]
abbrev QqQ:IL:=[⟨some 9,.val (.bin .str .eql (.t 3) (.c (.str [109,97,112]))),none⟩,ja 4 9]
abbrev QqR:IL:=[⟨some 10,.val (.bin .str .eql (.t 3) (.c (.str [108,105,115,116]))),none⟩,ja 4 10]
abbrev QqS:IL:=[⟨some 11,.val (.bin .str .eql (.t 3) (.c (.str [114,101,113,117,105,114,101,100]))),none⟩,ja 4 11]
abbrev QqT:IL:=[⟨some 12,.val (.bin .str .eql (.t 3) (.c (.str [111,112,116,105,111,110,97,108]))),none⟩,ja 4 12]
abbrev I5:IL:=[⟨some 13,.val (.bin .str .eql (.t 3) (.c (.str [112,108,97,105,110]))),none⟩,ja 4 13]
abbrev I6:IL:=[⟨some 14,.val (.bin .str .eql (.t 3) (.c (.str [100,101,102,97,117,108,116]))),none⟩,ja 4 14]
abbrev I7:IL:=[⟨some 15,.val (.bin .str .eql (.t 3) (.c (.str [114,101,115,101,114,118,101,100]))),none⟩,ja 4 15]
abbrev I8:IL:=[⟨some 16,.val (.bin .str .eql (.t 3) (.c (.str [105,109,112,111,114,116]))),none⟩,ja 4 16]
abbrev I9:IL:=[⟨some 17,.val (.bin .str .eql (.t 3) (.c (.str [115,112,97,99,101]))),none⟩,ja 4 17]
abbrev La:IL:=[⟨some 18,.val (.bin .str .eql (.t 3) (.c (.str [114,112,99]))),none⟩,ja 4 18]
abbrev Lb:IL:=[⟨some 19,.val (.bin .str .eql (.t 3) (.c (.str [115,116,114,101,97,109]))),none⟩,ja 4 19]
abbrev Lc:IL:=[⟨some 20,.val (.bin .str .eql (.t 3) (.c (.str [114,101,116,117,114,110,115]))),none⟩,ja 4 20]
abbrev Ld:IL:=[⟨some 21,.val (.bin .str .eql (.t 3) (.c (.str [111,112,101,110]))),none⟩,ja 4 21]
abbrev Le:IL:=[⟨some 22,.val (.bin .str .eql (.t 3) (.c (.str [116,114,117,101]))),none⟩,ja 4 22]
abbrev Lf:IL:=[⟨some 23,.val (.bin .str .eql (.t 3) (.c (.str [102,97,108,115,101]))),none⟩,ja 4 23]
abbrev Lg:IL:=[⟨some 24,.val (.bin .str .eql (.t 3) (.c (.str [110,97,110]))),none⟩,ja 4 24]
abbrev Lh:IL:=[⟨some 25,.val (.bin .str .eql (.t 3) (.c (.str [105,110,102]))),none⟩,ja 4 25]
abbrev Li:IL:=[yl 2]
abbrev Lj:IL:=[jh 2]
abbrev QMw:RC:=jQ QqK (.seq (jQ QqL (.block 0 (.seq (jQ QqM (.cond (.t 4) (.skip) (jQ QqN (.cond (.t 4) (.skip) (jQ QqO (.cond (.t 4) (.skip) (jQ QqP (.cond (.t 4) (.skip) (jQ QqQ (.cond (.t 4) (.skip) (jQ QqR (.cond (.t 4) (.skip) (jQ QqS (.cond (.t 4) (.skip) (jQ QqT (.cond (.t 4) (.skip) (jQ I5 (.cond (.t 4) (.skip) (jQ I6 (.cond (.t 4) (.skip) (jQ I7 (.cond (.t 4) (.skip) (jQ I8 (.cond (.t 4) (.skip) (jQ I9 (.cond (.t 4) (.skip) (jQ La (.cond (.t 4) (.skip) (jQ Lb (.cond (.t 4) (.skip) (jQ Lc (.cond (.t 4) (.skip) (jQ Ld (.cond (.t 4) (.skip) (jQ Le (.cond (.t 4) (.skip) (jQ Lf (.cond (.t 4) (.skip) (jQ Lg (.cond (.t 4) (.skip) (.reg Lh))))))))))))))))))))))))))))))))))))))))) (.cond (.t 4) (jQ Li (.ret)) (.skip))))) (jQ Lj (.ret)))
abbrev QMx:List RR:=[.tmp 2]
theorem QMy:CT 126 26 QMw QMx:=ck Tryz.func126 Tryz.ntmps126 (by decide +kernel)
abbrev QqU:IL:=[jh 2]
abbrev QqV:IL:=[ja 4 0,ji 5 0 4,jq 6 5 0,ja 7 6,jv 8 0 7,yf 9 0 8 7,yk 10 9 40 7,jo 11 7 10,ja 12 11,jv 13 0 12,⟨some 14,.val (.idx (.t 13) (.c (.int .i64 0))),(some (12,false))⟩,zi 15 199 14 12,ze 16 15 12,jv 17 16 12,jg 18 0 17,⟨some 19,.val (.idx (.t 18) (.c (.int .i64 0))),(some (17,true))⟩,zh 20 200 19 17,yx 21 20 17,yw 22 17 21 12,jo 23 12 22]
abbrev QqW:IL:=[jh 2]
abbrev QqX:IL:=[jd 3 1]
abbrev QqY:IL:=[ja 24 3,ja 25 0,ji 26 0 25,jn 27 24 26]
abbrev QqZ:IL:=[ja 30 0,ja 31 3,NZ 32 30 31,jr 33 199 32,jz 34 33,ja 35 34,jg 36 0 35,jg 37 3 35,MH 38 36 37 35,zh 39 200 38 35,yx 40 39 35,jj 41 35 40,ja 42 41,jg 43 0 42,jg 44 3 42,MH 45 43 44 42,⟨some 46,.val (.bin .num .neq (.t 45) (.c (.int .u8 95))),(some (42,true))⟩,jj 47 42 46,ja 48 47,jg 49 0 48,jg 50 3 48,MH 51 49 50 48,⟨some 52,.val (.bin .num .lss (.t 51) (.c (.int .u8 48))),(some (48,true))⟩,jg 53 52 48,jv 54 0 53,jv 55 3 53,⟨some 56,.val (.idx (.t 54) (.t 55)),(some (53,false))⟩,⟨some 57,.val (.bin .num .gtr (.t 56) (.c (.int .u8 57))),(some (53,false))⟩,zf 58 53 57 48,jj 59 48 58]
abbrev Qq0:IL:=[jh 2]
abbrev Qq1:IL:=[ja 28 3,jm 29 28 1,ja 3 29]
abbrev M0:RC:=.seq (jQ QqY (jX 27 0)) (.seq (.block 1 (jQ QqZ (.cond (.t 59) (jQ Qq0 (.ret)) (.skip)))) (.reg Qq1))
abbrev Qq2:IL:=[yl 2]
abbrev QMz:RC:=jQ QqU (.seq (jQ QqV (.cond (.t 23) (jQ QqW (.ret)) (.skip))) (.seq (jQ QqX (.block 0 (.loop M0))) (jQ Qq2 (.ret))))
abbrev QMA:List RR:=[.tmp 2]
theorem QMB:CT 127 60 QMz QMA:=ck Tryz.func127 Tryz.ntmps127 (by decide +kernel)
abbrev Qq3:IL:=[jd 2 0]
abbrev Qq4:IL:=[ja 3 0]
abbrev Qq5:IL:=[⟨some 5,.val (.bin .str .eql (.t 3) (.c (.str [100,101,112,114,101,99,97,116,101,100]))),none⟩,ja 4 5]
abbrev Qq6:IL:=[⟨some 6,.val (.bin .str .eql (.t 3) (.c (.str [115,101,99,114,101,116]))),none⟩,ja 4 6]
abbrev Qq7:IL:=[⟨some 7,.val (.bin .str .eql (.t 3) (.c (.str [105,100,101,109,112,111,116,101,110,116]))),none⟩,ja 4 7]
abbrev Qq8:IL:=[jd 2 1]
abbrev Qq9:IL:=[⟨some 9,.val (.bin .str .eql (.t 3) (.c (.str [100,111,99]))),none⟩,ja 8 9]
abbrev Qra:IL:=[⟨some 10,.val (.bin .str .eql (.t 3) (.c (.str [97,108,105,97,115]))),none⟩,ja 8 10]
abbrev Qrb:IL:=[⟨some 11,.val (.bin .str .eql (.t 3) (.c (.str [114,111,117,116,101]))),none⟩,ja 8 11]
abbrev Qrc:IL:=[⟨some 12,.val (.bin .str .eql (.t 3) (.c (.str [111,119,110,101,114]))),none⟩,ja 8 12]
abbrev Lk:IL:=[jd 2 7]
abbrev Ll:IL:=[⟨some 14,.val (.bin .str .eql (.t 3) (.c (.str [115,105,110,99,101]))),none⟩,ja 13 14]
abbrev Lm:IL:=[⟨some 15,.val (.bin .str .eql (.t 3) (.c (.str [117,110,116,105,108]))),none⟩,ja 13 15]
abbrev Ln:IL:=[⟨some 16,.val (.bin .str .eql (.t 3) (.c (.str [108,101,110,103,116,104]))),none⟩,ja 13 16]
abbrev Lo:IL:=[⟨some 17,.val (.bin .str .eql (.t 3) (.c (.str [116,105,109,101,111,117,116]))),none⟩,ja 13 17]
abbrev Lp:IL:=[jd 2 4]
abbrev Lq:IL:=[⟨some 19,.val (.bin .str .eql (.t 3) (.c (.str [109,105,110]))),none⟩,ja 18 19]
abbrev Lr:IL:=[⟨some 20,.val (.bin .str .eql (.t 3) (.c (.str [109,97,120]))),none⟩,ja 18 20]
abbrev Ls:IL:=[jd 2 3]
abbrev Lt:IL:=[jd 2 0]
abbrev QMC:RC:=jQ Qq3 (.seq (jQ Qq4 (.block 0 (.seq (jQ Qq5 (.cond (.t 4) (.skip) (jQ Qq6 (.cond (.t 4) (.skip) (.reg Qq7))))) (.cond (.t 4) (jQ Qq8 (.ret)) (.seq (jQ Qq9 (.cond (.t 8) (.skip) (jQ Qra (.cond (.t 8) (.skip) (jQ Qrb (.cond (.t 8) (.skip) (.reg Qrc))))))) (.cond (.t 8) (jQ Lk (.ret)) (.seq (jQ Ll (.cond (.t 13) (.skip) (jQ Lm (.cond (.t 13) (.skip) (jQ Ln (.cond (.t 13) (.skip) (.reg Lo))))))) (.cond (.t 13) (jQ Lp (.ret)) (.seq (jQ Lq (.cond (.t 18) (.skip) (.reg Lr))) (.cond (.t 18) (jQ Ls (.ret)) (.skip))))))))))) (jQ Lt (.ret)))
abbrev QMD:List RR:=[.tmp 2]
theorem QME:CT 128 21 QMC QMD:=ck Tryz.func128 Tryz.ntmps128 (by decide +kernel)
abbrev Qrd:IL:=[jh 4]
abbrev Qre:IL:=[ja 5 0]
abbrev Qrf:IL:=[⟨some 7,.val (.bin .str .eql (.t 5) (.c (.str [100,101,112,114,101,99,97,116,101,100]))),none⟩,ja 6 7]
abbrev Qrg:IL:=[⟨some 8,.val (.bin .str .eql (.t 5) (.c (.str [100,111,99]))),none⟩,ja 6 8]
abbrev Qrh:IL:=[ja 9 1,yn 10 9 1,ja 11 10,jg 12 1 11,yy 13 12 6 11,jj 14 11 13,ja 4 14]
abbrev Qri:IL:=[⟨some 16,.val (.bin .str .eql (.t 5) (.c (.str [97,108,105,97,115]))),none⟩,ja 15 16]
abbrev Qrj:IL:=[⟨some 17,.val (.bin .str .eql (.t 5) (.c (.str [115,105,110,99,101]))),none⟩,ja 15 17]
abbrev Qrk:IL:=[⟨some 18,.val (.bin .str .eql (.t 5) (.c (.str [117,110,116,105,108]))),none⟩,ja 15 18]
abbrev Qrl:IL:=[ja 19 1,jq 20 19 2,ja 21 20,jv 22 1 21,ys 23 22 4 21,jo 24 21 23,ja 25 24,jv 26 1 25,ys 27 26 6 25,jo 28 25 27,ja 4 28]
abbrev Qrm:IL:=[⟨some 30,.val (.bin .str .eql (.t 5) (.c (.str [109,105,110]))),none⟩,ja 29 30]
abbrev Lu:IL:=[⟨some 31,.val (.bin .str .eql (.t 5) (.c (.str [109,97,120]))),none⟩,ja 29 31]
abbrev Lv:IL:=[⟨some 32,.val (.bin .str .eql (.t 5) (.c (.str [108,101,110,103,116,104]))),none⟩,ja 29 32]
abbrev Lw:IL:=[⟨some 33,.val (.bin .str .eql (.t 5) (.c (.str [115,101,99,114,101,116]))),none⟩,ja 29 33]
abbrev Lx:IL:=[ja 34 1,jq 35 34 2,ja 4 35]
abbrev Ly:IL:=[⟨some 37,.val (.bin .str .eql (.t 5) (.c (.str [105,100,101,109,112,111,116,101,110,116]))),none⟩,ja 36 37]
abbrev Lz:IL:=[⟨some 38,.val (.bin .str .eql (.t 5) (.c (.str [116,105,109,101,111,117,116]))),none⟩,ja 36 38]
abbrev LA:IL:=[⟨some 39,.val (.bin .str .eql (.t 5) (.c (.str [114,111,117,116,101]))),none⟩,ja 36 39]
abbrev LB:IL:=[ja 40 1,jq 41 40 6,ja 4 41]
abbrev LC:IL:=[ja 42 1,jq 43 42 1,ja 44 43,jv 45 1 44,ys 46 45 5 44,jo 47 44 46,ja 4 47]
abbrev QMF:RC:=jQ Qrd (.seq (jQ Qre (.block 0 (.seq (jQ Qrf (.cond (.t 6) (.skip) (.reg Qrg))) (.cond (.t 6) (jQ Qrh (.ret)) (.seq (jQ Qri (.cond (.t 15) (.skip) (jQ Qrj (.cond (.t 15) (.skip) (.reg Qrk))))) (.cond (.t 15) (jQ Qrl (.ret)) (.seq (jQ Qrm (.cond (.t 29) (.skip) (jQ Lu (.cond (.t 29) (.skip) (jQ Lv (.cond (.t 29) (.skip) (.reg Lw))))))) (.cond (.t 29) (jQ Lx (.ret)) (.seq (jQ Ly (.cond (.t 36) (.skip) (jQ Lz (.cond (.t 36) (.skip) (.reg LA))))) (.cond (.t 36) (jQ LB (.ret)) (.skip))))))))))) (jQ LC (.ret)))
abbrev QMG:List RR:=[.tmp 4]
theorem QMH:CT 129 48 QMF QMG:=ck Tryz.func129 Tryz.ntmps129 (by decide +kernel)
abbrev Qrn:IL:=[je 1 1 0,jh 2]
abbrev Qro:IL:=[jb 4 0 1,jc 5 4,jr 6 128 5,ja 3 6]
abbrev Qrp:IL:=[ja 7 3,yg 8 7 0,ja 9 8,jl 10 1 1 9,jl 11 0 10 9,ju 12 11 9,jg 13 3 9,MA 14 12 13 9,jj 15 9 14,ja 16 15,jg 17 3 16,jl 18 1 1 16,zk 19 7 18 16,Gu 20 201 17 19 16,jj 21 16 20,ja 2 21]
abbrev QMI:RC:=jQ Qrn (jQ Qro (jQ Qrp (.ret)))
abbrev QMJ:List RR:=[.tmp 2]
theorem QMK:CT 130 22 QMI QMJ:=ck Tryz.func130 Tryz.ntmps130 (by decide +kernel)
abbrev Qrq:IL:=[jh 2]
abbrev Qrr:IL:=[ja 3 0,jr 4 202 3,yo 5 4 0,ja 2 5]
abbrev QML:RC:=jQ Qrq (jQ Qrr (.ret))
abbrev QMM:List RR:=[.tmp 2]
theorem QMN:CT 131 6 QML QMM:=ck Tryz.func131 Tryz.ntmps131 (by decide +kernel)
abbrev Qrs:IL:=[je 2 2 0,je 3 3 1,jh 4]
abbrev Qrt:IL:=[jb 5 5 3,jc 6 5]
abbrev Qru:IL:=[jq 8 6 10,ja 7 8]
abbrev Qrv:IL:=[jb 9 6 3,jc 10 9,yn 11 10 0,ja 12 11,jl 13 6 3 12,ju 14 13 12,jl 15 0 2 12,ju 16 15 12,yt 17 1 16 12,zu 18 14 17 12,jj 19 12 18,ja 20 19,jl 21 3 3 20,ju 22 21 20,zv 23 22 3 20,jj 24 20 23,ja 4 24]
abbrev Qrw:IL:=[jq 26 6 9,ja 25 26]
abbrev Qrx:IL:=[jb 27 6 3,jc 28 27,yn 29 28 0,ja 30 29,jl 31 6 3 30,ju 32 31 30,jl 33 1 2 30,ju 34 33 30,yt 35 1 34 30,zu 36 32 35 30,jj 37 30 36,ja 4 37]
abbrev Qry:IL:=[jb 38 6 3,jc 39 38,jq 40 39 (-1),ja 4 40]
abbrev QMO:RC:=jQ Qrs (.seq (jQ Qrt (.block 0 (jQ Qru (.cond (.t 7) (jQ Qrv (.ret)) (jQ Qrw (.cond (.t 25) (jQ Qrx (.ret)) (.skip))))))) (jQ Qry (.ret)))
abbrev QMP:List RR:=[.tmp 4]
theorem QMQ:CT 132 41 QMO QMP:=ck Tryz.func132 Tryz.ntmps132 (by decide +kernel)
abbrev Qrz:IL:=[je 1 1 0,jh 2]
abbrev QrA:IL:=[jb 3 2 1,jc 4 3,ji 5 1 4,yo 6 5 1,ja 7 6,jp 8 2 1 7,jt 9 8 7,yf 10 1 9 7,yk 11 10 64 7,jo 12 7 11,ja 13 12,jp 14 3 1 13,jt 15 14 13,yf 16 1 15 13,yk 17 16 16 13,jo 18 13 17,ja 2 18]
abbrev QMR:RC:=jQ Qrz (jQ QrA (.ret))
abbrev QMS:List RR:=[.tmp 2]
theorem QMT:CT 136 19 QMR QMS:=ck Tryz.func136 Tryz.ntmps136 (by decide +kernel)
abbrev QrB:IL:=[je 1 1 0,jh 2]
abbrev QrC:IL:=[jb 3 0 1,jc 4 3,jr 5 138 4,jz 6 5,ja 7 6,jp 8 2 1 7,jt 9 8 7,zq 10 143 9 144 7,jo 11 7 10,ja 2 11]
abbrev QMU:RC:=jQ QrB (jQ QrC (.ret))
abbrev QMV:List RR:=[.tmp 2]
theorem QMW:CT 142 12 QMU QMV:=ck Tryz.func142 Tryz.ntmps142 (by decide +kernel)
abbrev QrD:IL:=[jh 4]
abbrev QrE:IL:=[ja 5 0,ja 6 1,yr 7 211 5 6,ja 4 7]
abbrev QMX:RC:=jQ QrD (jQ QrE (.ret))
abbrev QMY:List RR:=[.tmp 4]
theorem QMZ:CT 143 8 QMX QMY:=ck Tryz.func143 Tryz.ntmps143 (by decide +kernel)
abbrev QrF:IL:=[je 1 1 0,jh 2]
abbrev QrG:IL:=[jb 3 0 1,jc 4 3,jr 5 141 4,jz 6 5,ja 2 6]
abbrev QM0:RC:=jQ QrF (jQ QrG (.ret))
abbrev QM1:List RR:=[.tmp 2]
theorem QM2:CT 144 7 QM0 QM1:=ck Tryz.func144 Tryz.ntmps144 (by decide +kernel)
abbrev QrH:IL:=[je 2 2 0,je 3 3 1,jh 4]
abbrev QrI:IL:=[jb 5 0 2,jc 6 5,jb 7 0 3,jc 8 7,⟨some 9,.val (.bin .str .lss (.t 6) (.t 8)),none⟩,ja 4 9]
abbrev QM3:RC:=jQ QrH (jQ QrI (.ret))
abbrev QM4:List RR:=[.tmp 4]
theorem QM5:CT 146 10 QM3 QM4:=ck Tryz.func146 Tryz.ntmps146 (by decide +kernel)
abbrev QrJ:IL:=[je 2 2 0,je 3 3 1,jh 4]
abbrev QrK:IL:=[jb 5 0 2,jc 6 5,jb 7 0 3,jc 8 7,⟨some 9,.val (.bin .str .lss (.t 6) (.t 8)),none⟩,ja 4 9]
abbrev QM6:RC:=jQ QrJ (jQ QrK (.ret))
abbrev QM7:List RR:=[.tmp 4]
theorem QM8:CT 148 10 QM6 QM7:=ck Tryz.func148 Tryz.ntmps148 (by decide +kernel)
abbrev QrL:IL:=[je 1 1 0,jh 2]
abbrev QrM:IL:=[jb 3 2 1,jc 4 3,Hi 5 153 4 154,jz 6 5,ja 2 6]
abbrev QM9:RC:=jQ QrL (jQ QrM (.ret))
abbrev QNa:List RR:=[.tmp 2]
theorem QNb:CT 152 7 QM9 QNa:=ck Tryz.func152 Tryz.ntmps152 (by decide +kernel)
abbrev QrN:IL:=[jh 4]
abbrev QrO:IL:=[jd 5 1]
abbrev QrP:IL:=[ja 6 5,ja 7 0,ji 8 1 7,jn 9 6 8]
abbrev QrQ:IL:=[ja 12 1,ja 13 0,ja 14 5,za 15 14 1,jk 16 3 13 15,ya 17 3 16,ja 18 0,ja 19 5,jk 20 3 18 19,ya 21 3 20,⟨some 22,.callF (.t 12) [(.t 17),(.t 21)],none⟩,jz 23 22]
abbrev QrR:IL:=[jh 4]
abbrev QrS:IL:=[ja 10 5,jm 11 10 1,ja 5 11]
abbrev QrT:RC:=.seq (jQ QrP (jX 9 0)) (.seq (.block 1 (jD QrQ (.cond (.t 23) (jQ QrR (.ret)) (.skip)))) (.reg QrS))
abbrev QrU:IL:=[yl 4]
abbrev QNc:RC:=jQ QrN (.seq (jQ QrO (.block 0 (.loop QrT))) (jQ QrU (.ret)))
abbrev QNd:List RR:=[.tmp 4]
theorem QNe:CT 153 24 QNc QNd:=ck Tryz.func153 Tryz.ntmps153 (by decide +kernel)
abbrev QrV:IL:=[je 2 2 0,je 3 3 1,jh 4]
abbrev QrW:IL:=[jb 5 1 2,jc 6 5,jb 7 1 3,jc 8 7,jn 9 6 8,ja 4 9]
abbrev QNf:RC:=jQ QrV (jQ QrW (.ret))
abbrev QNg:List RR:=[.tmp 4]
theorem QNh:CT 154 10 QNf QNg:=ck Tryz.func154 Tryz.ntmps154 (by decide +kernel)
abbrev QrX:IL:=[je 2 2 0,jh 3]
abbrev QrY:IL:=[jb 4 0 2,jc 5 4,jb 6 0 1,jc 7 6,F5 8 5 7,ja 3 8]
abbrev QNi:RC:=jQ QrX (jQ QrY (.ret))
abbrev QNj:List RR:=[.tmp 3]
theorem QNk:CT 156 9 QNi QNj:=ck Tryz.func156 Tryz.ntmps156 (by decide +kernel)
abbrev QrZ:IL:=[je 1 1 0,jh 2]
abbrev Qr0:IL:=[jb 3 2 1,jc 4 3,Hi 5 160 4 161,ja 2 5]
abbrev QNl:RC:=jQ QrZ (jQ Qr0 (.ret))
abbrev QNm:List RR:=[.tmp 2]
theorem QNn:CT 159 6 QNl QNm:=ck Tryz.func159 Tryz.ntmps159 (by decide +kernel)
abbrev Qr1:IL:=[je 3 3 1,jh 4]
abbrev Qr2:IL:=[ja 7 0,ji 8 1 7,jd 9 0]
abbrev Qr3:IL:=[jn 10 9 8]
abbrev Qr4:IL:=[ja 11 9,jk 12 3 7 9,jf 13 3 12,⟨some 6,.allocN 6 [.str [],.int .i64 0,.nils],none⟩,ja 5 11,js 3 6 13]
abbrev Qr5:IL:=[ja 14 0,ja 15 5,D0 16 3 14 15,⟨some 17,.val (.mkfn (.func 213) [] [(.t 3),(.t 6)]),none⟩,yr 18 143 16 17]
abbrev Qr6:IL:=[yl 4]
abbrev Qr7:IL:=[jm 19 9 1,ja 9 19]
abbrev Qr8:RC:=.gho (.drop 6) (jQ Qr3 (.seq (jX 10 0) (.seq (.block 1 (jQ Qr4 (jQ Qr5 (.cond (.t 18) (jQ Qr6 (.ret)) (.skip))))) (.reg Qr7))))
abbrev Qr9:IL:=[jh 4]
abbrev QNo:RC:=jQ Qr1 (.seq (jQ Qr2 (.block 0 (.loop Qr8))) (jQ Qr9 (.ret)))
abbrev QNp:List RR:=[.tmp 4]
theorem QNq:CT 160 20 QNo QNp:=ck Tryz.func160 Tryz.ntmps160 (by decide +kernel)
abbrev Qsa:IL:=[je 1 1 0,yi 2]
abbrev Qsb:IL:=[jb 3 0 1,jc 4 3,ja 2 4]
abbrev QNr:RC:=jQ Qsa (jQ Qsb (.ret))
abbrev QNs:List RR:=[.tmp 2]
theorem QNt:CT 161 5 QNr QNs:=ck Tryz.func161 Tryz.ntmps161 (by decide +kernel)
abbrev Qsc:IL:=[je 1 1 0,jh 2]
abbrev Qsd:IL:=[jb 5 3 1,jc 6 5,ji 7 1 6,jd 8 0]
abbrev Qse:IL:=[jn 9 8 7]
abbrev Qsf:IL:=[ja 10 8,jk 11 2 6 8,jf 12 2 11,⟨some 4,.allocN 4 [.int .i64 0,.int .i64 0],none⟩,ja 3 10,js 2 4 12]
abbrev Qsg:IL:=[jb 13 0 4,yb 14 0 4 13,yo 15 14 0,ja 16 15,jp 17 1 4 16,zl 18 0 4 17 16,yk 19 18 2147483647 16,jo 20 16 19,ja 21 20,jp 22 1 4 21,zl 23 0 4 22 21,jp 24 0 4 21,zl 25 0 4 24 21,⟨some 26,.val (.bin .num .lss (.t 23) (.t 25)),(some (21,false))⟩,jo 27 21 26,ja 28 27,jv 29 3 28,yk 30 29 0 28,jv 31 30 28,jl 32 0 4 31,zb 33 0 4 32 31,jl 34 3 1 31,zb 35 0 1 34 31,jg 36 3 31,D2 37 36 1 31,yc 38 2 35 37 31,jl 39 1 38 31,yp 40 39 31,MF 41 33 40 31,yw 42 31 41 28,jo 43 28 42]
abbrev Qsh:IL:=[yl 2]
abbrev Qsi:IL:=[jm 44 8 1,ja 8 44]
abbrev Qsj:RC:=.gho (.drop 4) (jQ Qse (.seq (jX 9 0) (.seq (.block 1 (jQ Qsf (jD Qsg (.cond (.t 43) (jQ Qsh (.ret)) (.skip))))) (.reg Qsi))))
abbrev Qsk:IL:=[jb 45 2 1,jc 46 45,⟨some 47,.val (.iaddr 3 none (.t 46) (.c (.int .i64 0))),none⟩,jb 48 1 47,jc 49 48,yg 50 49 0,ja 51 50,jp 52 2 1 51,jt 53 52 51,⟨some 54,.val (.mkfn (.func 214) [] [(.t 1)]),(some (51,false))⟩,⟨some 55,.callF (.f 143) [(.t 53),(.t 54)],(some (51,false))⟩,jo 56 51 55,ja 2 56]
abbrev QNu:RC:=jQ Qsc (.seq (jQ Qsd (.block 0 (.loop Qsj))) (jQ Qsk (.ret)))
abbrev QNv:List RR:=[.tmp 2]
theorem QNw:CT 164 57 QNu QNv:=ck Tryz.func164 Tryz.ntmps164 (by decide +kernel)
abbrev Qsl:IL:=[je 1 1 0,jh 2]
abbrev Qsm:IL:=[jb 3 4 1,jc 4 3,ji 5 1 4,yq 6 5 0,ja 7 6,jp 8 2 1 7,jt 9 8 7,zq 10 143 9 172 7,jo 11 7 10,ja 2 11]
abbrev QNx:RC:=jQ Qsl (jQ Qsm (.ret))
abbrev QNy:List RR:=[.tmp 2]
theorem QNz:CT 171 12 QNx QNy:=ck Tryz.func171 Tryz.ntmps171 (by decide +kernel)
abbrev Qsn:IL:=[je 1 1 0,jh 2]
abbrev Qso:IL:=[jb 3 2 1,jc 4 3,ji 5 1 4,yq 6 5 1,ja 7 6,jp 8 2 1 7,jt 9 8 7,yf 10 1 9 7,ys 11 10 1 7,jv 12 11 7,jl 13 2 1 12,ju 14 13 12,NS 15 8 14 0 12,jl 16 0 15 12,ju 17 16 12,⟨some 18,.val (.bin .str .neq (.t 17) (.c (.str [97,108,105,97,115]))),(some (12,true))⟩,jg 19 18 12,jp 20 2 1 19,jt 21 20 19,⟨some 22,.call (.f 173) [(.t 21),(.c (.int .i64 4))],(some (19,false))⟩,NV 23 22 0 19,zf 24 19 23 12,yw 25 12 24 7,jo 26 7 25,ja 2 26]
abbrev QNA:RC:=jQ Qsn (jQ Qso (.ret))
abbrev QNB:List RR:=[.tmp 2]
theorem QNC:CT 172 27 QNA QNB:=ck Tryz.func172 Tryz.ntmps172 (by decide +kernel)
abbrev Qsp:IL:=[jd 4 0]
abbrev Qsq:IL:=[ja 9 0,ji 10 1 9,yq 11 10 8]
abbrev Qsr:IL:=[jd 4 3]
abbrev Qss:IL:=[yi 5]
abbrev Qst:IL:=[ja 12 0,ji 13 1 12,jd 14 0]
abbrev Qsu:IL:=[jn 15 14 13]
abbrev Qsv:IL:=[ja 16 14,jk 17 8 12 14,jf 18 8 17,⟨some 7,.allocN 7 [.str [],.int .i64 0,.int .u64 0,.str [],.nils,.nils,.nils,.nils],none⟩,ja 6 16,js 8 7 18]
abbrev Qsw:IL:=[jf 19 8 7,ja 20 1,ja 21 5,ja 22 6,yq 23 22 0,zj 24 218 19 20 21 23,ja 8 24]
abbrev Qsx:IL:=[ja 25 8,yg 26 25 0]
abbrev Qsy:IL:=[ja 27 8,ja 4 27]
abbrev LD:IL:=[jb 28 0 7,jc 29 28,ja 5 29]
abbrev LF:IL:=[jm 30 14 1,ja 14 30]
abbrev Qsz:RC:=.gho (.drop 7) (jQ Qsu (.seq (jX 15 0) (.seq (.block 1 (jQ Qsv (.seq (jQ Qsw (jQ Qsx (.cond (.t 26) (jQ Qsy (.ret)) (.skip)))) (.reg LD)))) (.reg LF))))
abbrev LG:IL:=[jd 4 0]
abbrev QND:RC:=jQ Qsp (.seq (jQ Qsq (.cond (.t 11) (jQ Qsr (.ret)) (.skip))) (jQ Qss (.seq (jQ Qst (.block 0 (.loop Qsz))) (jQ LG (.ret)))))
abbrev QNE:List RR:=[.tmp 4]
theorem QNF:CT 173 31 QND QNE:=ck Tryz.func173 Tryz.ntmps173 (by decide +kernel)
abbrev QsA:IL:=[je 3 3 0,je 5 5 2,jh 6]
abbrev QsB:IL:=[ja 8 1,yo 9 8 0,ja 10 9,jv 11 1 10,jp 12 1 3 10,jt 13 12 10,yf 14 1 13 10,DY 15 11 14 10,jo 16 10 15,ja 17 16,jt 18 5 17,⟨some 19,.val (.bin .num .gtr (.t 18) (.c (.int .u64 2147483647))),(some (17,false))⟩,jo 20 17 19]
abbrev QsC:IL:=[jh 6]
abbrev QsD:IL:=[jb 21 1 3,jc 22 21,ja 23 1,jk 24 5 22 23,jf 25 5 24,⟨some 7,.allocN 7 [.str [],.bool false,.nils,.nils,.nils],none⟩,js 5 7 25]
abbrev QsE:IL:=[jb 26 1 7,jc 27 26,ja 28 27,jp 29 2 7 28,jt 30 29 28,⟨some 31,.val (.mkfn (.func 222) [] [(.t 5)]),(some (28,false))⟩,⟨some 32,.callF (.f 211) [(.t 30),(.t 31)],(some (28,false))⟩,jo 33 28 32,ja 6 33]
abbrev QNG:RC:=jQ QsA (.seq (jQ QsB (.cond (.t 20) (jQ QsC (.ret)) (.skip))) (jQ QsD (jQ QsE (.ret))))
abbrev QNH:List RR:=[.tmp 6]
theorem QNI:CT 179 34 QNG QNH:=ck Tryz.func179 Tryz.ntmps179 (by decide +kernel)
abbrev QsF:IL:=[ye 2]
abbrev QsG:IL:=[ja 7 0,NU 8 224 7,ja 3 8]
abbrev QsH:IL:=[ja 9 3,Hi 10 225 9 226]
abbrev QsI:IL:=[ye 4]
abbrev QsJ:IL:=[ja 11 3,ji 12 1 11,jd 13 0]
abbrev QsK:IL:=[jn 14 13 12]
abbrev QsL:IL:=[ja 15 13,jk 16 14 11 13,jf 17 14 16,MB 6 6,ja 5 15,js 14 6 17]
abbrev QsM:IL:=[ja 18 5,jm 19 18 1,ja 20 3,ji 21 1 20,zm 22 19 21,ja 23 22,jp 24 0 6 23,⟨some 25,.val (.loadv 0 6 (some 7) (.t 24)),(some (23,false))⟩,jv 26 3 23,jv 27 5 23,⟨some 28,.val (.bin .num .add (.t 27) (.c (.int .i64 1))),(some (23,false))⟩,yz 29 14 26 28 23,jp 30 0 29 23,jbq 31 7 30 23,SB 32 228 25 31 23,ze 33 32 23,jo 34 23 33]
abbrev QsN:IL:=[ja 35 4,jf 36 14 6,⟨some 37,.bsl 14 1 [.int .i64 0,.int .u64 0,.str [],.nils,.nils,.nils,.nils,.int .i64 0,.int .u64 0,.str [],.nils,.nils,.nils,.nils] [(0,14,(.t 36))],none⟩,yh 38 14 256 75 35 37,ja 4 38]
abbrev QsO:IL:=[jm 39 13 1,ja 13 39]
abbrev QsP:RC:=.gho (.drop 6) (jQ QsK (.seq (jX 14 0) (.seq (.block 1 (jQ QsL (jD QsM (.cond (.t 34) (.reg QsN) (.skip))))) (.reg QsO))))
abbrev LH:IL:=[ja 40 4,ja 2 40]
abbrev QNJ:RC:=jQ QsF (jQ QsG (jQ QsH (jQ QsI (.gho (.vec 4 4 14) (.seq (jQ QsJ (.block 0 (.loop QsP))) (jQ LH (.ret)))))))
abbrev QNK:List RR:=[.tmp 2]
theorem QNL:CT 185 41 QNJ QNK:=ck Tryz.func185 Tryz.ntmps185 (by decide +kernel)
abbrev QsQ:IL:=[je 4 4 0,je 7 7 3,jd 8 0]
abbrev QsR:IL:=[jb 10 0 7,jc 11 10,ja 12 1,zs 13 11 12,ja 14 13,yv 15 7 7 14,zi 16 59 15 14,jo 17 14 16,ja 9 17]
abbrev QsS:IL:=[jd 8 12]
abbrev QsT:IL:=[jb 19 2 7,jc 20 19,ji 21 0 20,yq 22 21 4096,ja 18 22]
abbrev QsU:IL:=[jd 8 3]
abbrev QsV:IL:=[ja 24 1,jq 25 24 7,ja 26 25,jl 27 2 7 26,ju 28 27 26,zh 29 131 28 26,yx 30 29 26,jj 31 26 30,ja 23 31]
abbrev QsW:IL:=[jd 8 7]
abbrev QsX:IL:=[ja 33 1,jf 34 7 7,jy 35 201 33 34,jz 36 35,ja 32 36]
abbrev QsY:IL:=[jd 8 12]
abbrev QsZ:IL:=[ja 38 1,jq 39 38 9,ja 40 39,zk 41 2 4 40,jg 42 2 40,jl 43 1 7 40,ju 44 43 40,D3 45 112 41 42 44 40,yx 46 45 40,jj 47 40 46,ja 37 47]
abbrev LI:IL:=[jd 8 16]
abbrev LJ:IL:=[jd 8 0]
abbrev QNM:RC:=jQ QsQ (.seq (.block 0 (jQ QsR (.cond (.t 9) (jQ QsS (.ret)) (jQ QsT (.cond (.t 18) (jQ QsU (.ret)) (jQ QsV (.cond (.t 23) (jQ QsW (.ret)) (jQ QsX (.cond (.t 32) (jQ QsY (.ret)) (jQ QsZ (.cond (.t 37) (jQ LI (.ret)) (.skip)))))))))))) (jQ LJ (.ret)))
abbrev QNN:List RR:=[.tmp 8]
theorem QNO:CT 190 48 QNM QNN:=ck Tryz.func190 Tryz.ntmps190 (by decide +kernel)
abbrev Qs0:IL:=[je 2 2 0,je 3 3 1,jh 4]
abbrev Qs1:IL:=[jf 5 7 2,jf 6 7 3,jy 7 192 5 6,jq 8 7 0,ja 4 8]
abbrev QNP:RC:=jQ Qs0 (jQ Qs1 (.ret))
abbrev QNQ:List RR:=[.tmp 4]
theorem QNR:CT 191 9 QNP QNQ:=ck Tryz.func191 Tryz.ntmps191 (by decide +kernel)
abbrev Qs2:IL:=[je 2 2 0,je 3 3 1,jd 4 0]
abbrev Qs3:IL:=[jb 6 0 2,jc 7 6,jb 8 0 3,jc 9 8,zs 10 7 9]
abbrev Qs4:IL:=[jb 11 0 2,jc 12 11,jb 13 0 3,jc 14 13,jy 15 233 12 14,ja 4 15]
abbrev Qs5:IL:=[jb 16 0 2,jc 17 16]
abbrev Qs6:IL:=[jq 19 17 11,ja 18 19]
abbrev Qs7:IL:=[jb 20 3 2,jc 21 20,jb 22 3 3,jc 23 22,jy 24 234 21 23,ja 4 24]
abbrev Qs8:IL:=[jq 26 17 12,ja 25 26]
abbrev Qs9:IL:=[jb 27 4 2,jc 28 27,jb 29 4 3,jc 30 29,jy 31 235 28 30,ja 4 31]
abbrev Qta:IL:=[jq 33 17 10,ja 32 33]
abbrev Qtb:IL:=[jb 34 5 2,jc 35 34,jb 36 5 3,jc 37 36,jy 38 236 35 37,ja 5 38]
abbrev LK:IL:=[ja 39 5,yg 40 39 0]
abbrev LL:IL:=[ja 41 5,ja 4 41]
abbrev LM:IL:=[jb 42 6 2,jc 43 42,jb 44 6 3,jc 45 44,jy 46 237 43 45,ja 4 46]
abbrev LN:IL:=[jf 47 7 2,jf 48 7 3,jy 49 238 47 48,ja 4 49]
abbrev QNS:RC:=jQ Qs2 (.seq (jQ Qs3 (.cond (.t 10) (jQ Qs4 (.ret)) (.skip))) (.seq (jQ Qs5 (.block 0 (jQ Qs6 (.cond (.t 18) (jQ Qs7 (.ret)) (jQ Qs8 (.cond (.t 25) (jQ Qs9 (.ret)) (jQ Qta (.cond (.t 32) (.seq (jQ Qtb (jQ LK (.cond (.t 40) (jQ LL (.ret)) (.skip)))) (jQ LM (.ret))) (.skip))))))))) (jQ LN (.ret))))
abbrev QNT:List RR:=[.tmp 4]
theorem QNU:CT 192 50 QNS QNT:=ck Tryz.func192 Tryz.ntmps192 (by decide +kernel)
abbrev Qtc:IL:=[jh 2]
abbrev Qtd:IL:=[ja 3 0,yn 4 3 1,ja 5 4,jg 6 0 5,yy 7 6 9 5,jj 8 5 7,ja 2 8]
abbrev QNV:RC:=jQ Qtc (jQ Qtd (.ret))
abbrev QNW:List RR:=[.tmp 2]
theorem QNX:CT 193 9 QNV QNW:=ck Tryz.func193 Tryz.ntmps193 (by decide +kernel)
abbrev Qte:IL:=[je 1 1 0,jh 2]
abbrev Qtf:IL:=[jb 3 3 1,jc 4 3,ji 5 1 4,jq 6 5 0,ja 7 6,jl 8 4 1 7,ju 9 8 7,yt 10 1 9 7,ym 11 10 0 7,jj 12 7 11,ja 13 12,jl 14 5 1 13,ju 15 14 13,yt 16 1 15 13,ym 17 16 0 13,jj 18 13 17,ja 19 18,jl 20 6 1 19,ju 21 20 19,yt 22 1 21 19,ym 23 22 0 19,jj 24 19 23,ja 2 24]
abbrev QNY:RC:=jQ Qte (jQ Qtf (.ret))
abbrev QNZ:List RR:=[.tmp 2]
theorem QN0:CT 194 25 QNY QNZ:=ck Tryz.func194 Tryz.ntmps194 (by decide +kernel)
abbrev Qtg:IL:=[jh 2]
abbrev Qth:IL:=[ja 3 0,MI 4 3 97,ja 5 4,jg 6 0 5,MJ 7 6 122 5,jj 8 5 7,ja 2 8]
abbrev QN1:RC:=jQ Qtg (jQ Qth (.ret))
abbrev QN2:List RR:=[.tmp 2]
theorem QN3:CT 199 9 QN1 QN2:=ck Tryz.func199 Tryz.ntmps199 (by decide +kernel)
abbrev Qti:IL:=[jh 2]
abbrev Qtj:IL:=[ja 3 0,MI 4 3 65,ja 5 4,jg 6 0 5,MJ 7 6 90 5,jj 8 5 7,ja 2 8]
abbrev QN4:RC:=jQ Qti (jQ Qtj (.ret))
abbrev QN5:List RR:=[.tmp 2]
theorem QN6:CT 200 9 QN4 QN5:=ck Tryz.func200 Tryz.ntmps200 (by decide +kernel)
abbrev Qtk:IL:=[je 3 3 1,jh 4]
abbrev Qtl:IL:=[ja 6 0,jr 7 193 6,jz 8 7,ja 9 8,jp 10 0 3 9,jt 11 10 9,jv 12 0 9,Mw 13 11 12 9,jo 14 9 13,ja 15 14,yv 16 7 3 15,zi 17 194 16 15,ze 18 17 15,jo 19 15 18]
abbrev Qtm:IL:=[jh 4]
abbrev Qtn:IL:=[ja 20 0,jr 21 239 20]
abbrev Qto:IL:=[jb 22 1 3,jc 23 22,Gs 24 23 0,ja 25 24,jl 26 2 3 25,ju 27 26 25,yt 28 0 27 25,yy 29 28 4096 25,jj 30 25 29,ja 31 30,jg 32 0 31,ym 33 32 8 31,jg 34 33 31,jp 35 2 3 34,jt 36 35 34,zi 37 131 36 34,zf 38 34 37 31,jj 39 31 38,ja 4 39]
abbrev Qtp:IL:=[jb 40 2 3,jc 41 40,⟨some 42,.val (.bin .str .neq (.t 41) (.c (.str []))),none⟩]
abbrev Qtq:IL:=[jh 4]
abbrev Qtr:IL:=[ja 43 0]
abbrev Qts:IL:=[jq 45 43 1,ja 44 45]
abbrev Qtt:IL:=[jb 46 1 3,jc 47 46,⟨some 48,.val (.bin .num .leq (.t 47) (.c (.int .u64 1))),none⟩,ja 4 48]
abbrev LO:IL:=[jq 50 43 2,ja 49 50]
abbrev LP:IL:=[jb 51 1 3,jc 52 51,NQ 53 52,ja 5 53]
abbrev LQ:IL:=[ja 54 5,yn 55 54 (-2147483648),ja 56 55,jg 57 5 56,yy 58 57 2147483647 56,jj 59 56 58,ja 4 59]
abbrev LR:IL:=[jq 61 43 4,ja 60 61]
abbrev LS:IL:=[jb 62 1 3,jc 63 62,⟨some 64,.val (.bin .num .lss (.t 63) (.c (.int .u64 4294967296))),none⟩,ja 4 64]
abbrev LU:IL:=[jq 66 43 9,ja 65 66]
abbrev LV:IL:=[jb 67 1 3,jc 68 67,⟨some 69,.val (.bin .num .lss (.t 68) (.c (.int .u64 2147483648))),none⟩,ja 4 69]
abbrev LW:IL:=[yl 4]
abbrev QN7:RC:=jQ Qtk (.seq (jQ Qtl (.cond (.t 19) (jQ Qtm (.ret)) (.skip))) (.seq (jQ Qtn (.cond (.t 21) (jQ Qto (.ret)) (.skip))) (.seq (jQ Qtp (.cond (.t 42) (jQ Qtq (.ret)) (.skip))) (.seq (jQ Qtr (.block 0 (jQ Qts (.cond (.t 44) (jQ Qtt (.ret)) (jQ LO (.cond (.t 49) (jQ LP (jQ LQ (.ret))) (jQ LR (.cond (.t 60) (jQ LS (.ret)) (jQ LU (.cond (.t 65) (jQ LV (.ret)) (.skip))))))))))) (jQ LW (.ret))))))
abbrev QN8:List RR:=[.tmp 4]
theorem Qtu:CT 201 70 QN7 QN8:=ck Tryz.func201 Tryz.ntmps201 (by decide +kernel)
abbrev Qtv:IL:=[jd 2 0]
abbrev Qtw:IL:=[jd 3 0]
abbrev Qtx:IL:=[ja 5 3,ja 6 0,ji 7 0 6,jn 8 5 7]
abbrev Qty:IL:=[ja 9 0,ja 10 3,jy 11 240 9 10,ja 4 11]
abbrev Qtz:IL:=[ja 12 4,jq 13 12 0]
abbrev QtA:IL:=[ja 14 3,ja 2 14]
abbrev QtB:IL:=[ja 15 3,ja 16 4,yj 17 15 16,ja 3 17]
abbrev QtC:RC:=.seq (jQ Qtx (jX 8 0)) (.block 1 (jQ Qty (.seq (jQ Qtz (.cond (.t 13) (jQ QtA (.ret)) (.skip))) (.reg QtB))))
abbrev QtD:IL:=[jd 2 (-1)]
abbrev QN9:RC:=jQ Qtv (.seq (jQ Qtw (.block 0 (.loop QtC))) (jQ QtD (.ret)))
abbrev QOa:List RR:=[.tmp 2]
theorem QOb:CT 202 18 QN9 QOa:=ck Tryz.func202 Tryz.ntmps202 (by decide +kernel)
abbrev QtE:IL:=[jh 4]
abbrev QtF:IL:=[ja 5 0,ja 6 1,yr 7 245 5 6,yn 8 7 0,ja 4 8]
abbrev QOc:RC:=jQ QtE (jQ QtF (.ret))
abbrev QOd:List RR:=[.tmp 4]
theorem QtG:CT 211 9 QOc QOd:=ck Tryz.func211 Tryz.ntmps211 (by decide +kernel)
abbrev QtH:IL:=[je 3 3 0,jh 4]
abbrev QtI:IL:=[jc 5 1,jw 6 0 3 3 3,⟨some 7,.call (.t 5) [(.t 6)],none⟩,jc 8 1,jf 9 3 2,⟨some 10,.call (.t 8) [(.t 9)],none⟩,F5 11 7 10,ja 4 11]
abbrev QOe:RC:=jQ QtH (jD QtI (.ret))
abbrev QOf:List RR:=[.tmp 4]
theorem QOg:CT 213 12 QOe QOf:=ck Tryz.func213 Tryz.ntmps213 (by decide +kernel)
abbrev QtJ:IL:=[je 2 2 0,jh 3]
abbrev QtK:IL:=[jb 4 1 2,jc 5 4,yq 6 5 2147483647,ja 7 6,jp 8 3 1 7,jt 9 8 7,jp 10 1 2 7,jt 11 10 7,SB 12 215 9 11 7,jo 13 7 12,ja 3 13]
abbrev QOh:RC:=jQ QtJ (jQ QtK (.ret))
abbrev QOi:List RR:=[.tmp 3]
theorem QOj:CT 214 14 QOh QOi:=ck Tryz.func214 Tryz.ntmps214 (by decide +kernel)
abbrev QtL:IL:=[je 3 3 1,jh 4]
abbrev QtM:IL:=[ja 5 0,DX 6 247 3,yr 7 246 5 6,ja 4 7]
abbrev QOk:RC:=jQ QtL (jQ QtM (.ret))
abbrev QOl:List RR:=[.tmp 4]
theorem QOm:CT 215 8 QOk QOl:=ck Tryz.func215 Tryz.ntmps215 (by decide +kernel)
abbrev QtN:IL:=[je 4 4 0,jd 8 0]
abbrev QtO:IL:=[zz 12 249,jb 13 0 4,yb 14 0 4 13,⟨some 15,.val (.mgetp true (.agg [.int .i64 0,.int .i64 0]) (.t 12) (.t 14)),none⟩,ja 11 15,jx 16 11 0,jx 17 11 1,⟨some 9,.allocN 9 [.int .i64 0,.int .i64 0],none⟩,zp 0 9 2 9 16,ja 10 17]
abbrev QtP:IL:=[ja 19 10,jz 20 19,ja 18 20]
abbrev QtQ:IL:=[jd 8 8]
abbrev QtR:IL:=[ja 22 1,yo 23 22 1,ja 24 23,jv 25 1 24,yk 26 25 6 24,jo 27 24 26,ja 28 27,jp 29 1 9 28,jt 30 29 28,jv 31 1 28,⟨some 32,.val (.bin .num .shr (.t 30) (.t 31)),(some (28,false))⟩,⟨some 33,.val (.bin .num .and (.t 32) (.c (.int .i64 1))),(some (28,false))⟩,ys 34 33 0 28,jo 35 28 34,ja 21 35]
abbrev QtS:IL:=[jd 8 1]
abbrev QtT:IL:=[jf 37 8 4,jr 38 250 37,jz 39 38,ja 36 39]
abbrev QtU:IL:=[jd 8 12]
abbrev QtV:IL:=[ja 41 3,ja 42 41,jl 43 0 4 42,ju 44 43 42,jg 45 2 42,⟨some 46,.val (.bin .str .lss (.t 44) (.t 45)),(some (42,true))⟩,jj 47 42 46,ja 40 47]
abbrev QtW:IL:=[jd 8 11]
abbrev LX:IL:=[ja 49 3,ja 50 49,jl 51 0 4 50,ju 52 51 50,jg 53 2 50,Mx 54 52 53 50,jj 55 50 54,ja 48 55]
abbrev LY:IL:=[jd 8 9]
abbrev LZ:IL:=[jd 8 0]
abbrev QOn:RC:=jQ QtN (jD QtO (.seq (.block 0 (jQ QtP (.cond (.t 18) (jQ QtQ (.ret)) (jQ QtR (.cond (.t 21) (jQ QtS (.ret)) (jQ QtT (.cond (.t 36) (jQ QtU (.ret)) (jQ QtV (.cond (.t 40) (jQ QtW (.ret)) (jQ LX (.cond (.t 48) (jQ LY (.ret)) (.skip)))))))))))) (jQ LZ (.ret))))
abbrev QOo:List RR:=[.tmp 8]
theorem QOp:CT 218 56 QOn QOo:=ck Tryz.func218 Tryz.ntmps218 (by decide +kernel)
abbrev QtX:IL:=[je 4 4 0,je 5 5 1,jd 8 0]
abbrev QtY:IL:=[ja 13 2,ji 14 1 13,jd 15 0]
abbrev QtZ:IL:=[jn 16 15 14]
abbrev Qt0:IL:=[ja 17 15,jk 18 14 13 15,jf 19 14 18,MB 10 10,ja 9 17,js 14 10 19]
abbrev Qt1:IL:=[jf 20 2 4,jb 21 4 5,jc 22 21,jb 23 0 10,jf 24 7 23,⟨some 25,.call (.f 251) [(.t 20),(.t 22),(.c (.int .i64 (-1))),(.t 24)],none⟩,ja 11 25]
abbrev Qt2:IL:=[ja 26 11,yg 27 26 0]
abbrev Qt3:IL:=[ja 28 11,ja 8 28]
abbrev Qt4:IL:=[ja 29 2,ja 30 9,D0 31 14 29 30,DX 32 253 10,yr 33 252 31 32]
abbrev Qt5:IL:=[jd 8 9]
abbrev Qt6:IL:=[jf 34 2 4,jf 35 8 5,jb 36 7 10,jf 37 7 36,ja 38 3,zj 39 220 34 35 37 38,ja 12 39]
abbrev L0:IL:=[ja 40 12,yg 41 40 0]
abbrev L1:IL:=[ja 42 12,ja 8 42]
abbrev L2:IL:=[jm 43 15 1,ja 15 43]
abbrev Qt7:RC:=.gho (.drop 10) (jQ QtZ (.seq (jX 16 0) (.seq (.block 1 (jQ Qt0 (.seq (jQ Qt1 (jQ Qt2 (.cond (.t 27) (jQ Qt3 (.ret)) (.skip)))) (.seq (jQ Qt4 (.cond (.t 33) (jQ Qt5 (.ret)) (.skip))) (jQ Qt6 (jQ L0 (.cond (.t 41) (jQ L1 (.ret)) (.skip)))))))) (.reg L2))))
abbrev L3:IL:=[jd 8 0]
abbrev QOq:RC:=jQ QtX (.seq (jQ QtY (.block 0 (.loop Qt7))) (jQ L3 (.ret)))
abbrev QOr:List RR:=[.tmp 8]
theorem QOs:CT 221 44 QOq QOr:=ck Tryz.func221 Tryz.ntmps221 (by decide +kernel)
abbrev Qt8:IL:=[je 2 2 0,jh 3]
abbrev Qt9:IL:=[jb 4 1 2,jc 5 4,zo 6 5,jc 7 1,zm 8 6 7,ja 3 8]
abbrev QOt:RC:=jQ Qt8 (jQ Qt9 (.ret))
abbrev QOu:List RR:=[.tmp 3]
theorem QOv:CT 222 9 QOt QOu:=ck Tryz.func222 Tryz.ntmps222 (by decide +kernel)
def M1:IL:=[ye 2]
def M2:IL:=[ja 3 0,⟨some 4,.isnil false (.t 3),none⟩]
def M3:IL:=[ye 2]
def M4:IL:=[⟨some 5,.bsl0 5 14,none⟩,ja 6 0,yh 7 14 256 75 5 6,ja 2 7]
def Qua:RC:=jQ M1 (.seq (jQ M2 (.cond (.t 4) (jQ M3 (.gho (.vec 2 2 14) (.gho (.give 2 2 1 1000) (.ret)))) (.skip))) (jQ M4 (.gho (.give 2 5 1 1000) (.ret))))
def Ry:List RR:=[.tmp 2]
theorem QOw:CT 224 8 Qua Ry:=ck Tryz.func224 Tryz.ntmps224 (by decide +kernel)
abbrev Qub:IL:=[je 2 2 0,je 3 3 1,jd 4 0]
abbrev Quc:IL:=[jb 5 0 2,jf 6 7 5,jb 7 0 3,jf 8 7 7,jy 9 227 6 8,ja 4 9]
abbrev QOx:RC:=jQ Qub (jQ Quc (.ret))
abbrev QOy:List RR:=[.tmp 4]
theorem QOz:CT 226 10 QOx QOy:=ck Tryz.func226 Tryz.ntmps226 (by decide +kernel)
abbrev Qud:IL:=[je 2 2 0,je 3 3 1,jd 4 0]
abbrev Que:IL:=[jb 11 0 2,jc 12 11,jb 13 0 3,jc 14 13,zs 15 12 14]
abbrev Quf:IL:=[jb 16 0 2,jc 17 16,jb 18 0 3,jc 19 18,jy 20 102 17 19,ja 4 20]
abbrev Qug:IL:=[jf 21 7 3,jr 22 257 21,ja 5 22]
abbrev Quh:IL:=[jf 23 7 2,jr 24 257 23]
abbrev Qui:IL:=[⟨some 25,.val (.tas 218 true (.agg [.int .i64 0,.int .u64 0,.str [],.nils,.nils,.nils,.nils]) (.t 24)),none⟩,jx 26 25 1,jx 27 25 0]
abbrev Quj:IL:=[yu 6 6,js 7 6 27]
abbrev Quk:IL:=[jf 28 7 6,jf 29 7 3,jy 30 258 28 29,ja 4 30]
abbrev Qul:IL:=[⟨some 31,.val (.tas 219 true (.nils) (.t 24)),none⟩,jx 32 31 1,jx 33 31 0]
abbrev Qum:IL:=[ja 7 33]
abbrev L4:IL:=[ja 34 7,ja 35 5,⟨some 36,.val (.tas 219 false (.nils) (.t 35)),none⟩,⟨some 37,.callF (.f 259) [(.t 34),(.t 36),(.f 227)],none⟩,ja 4 37]
abbrev L5:IL:=[⟨some 38,.val (.tas 221 true (.nils) (.t 24)),none⟩,jx 39 38 1,jx 40 38 0]
abbrev L6:IL:=[ja 8 40]
abbrev L7:IL:=[ja 41 8,ja 42 5,⟨some 43,.val (.tas 221 false (.nils) (.t 42)),none⟩,⟨some 44,.callF (.f 260) [(.t 41),(.t 43),(.f 261)],none⟩,ja 4 44]
abbrev L8:IL:=[⟨some 45,.val (.tas 224 true (.agg [.nils,.nils]) (.t 24)),none⟩,jx 46 45 1,jx 47 45 0]
abbrev L9:IL:=[⟨some 9,.allocN 9 [.nils,.nils],none⟩,js 2 9 47]
abbrev Qaa:IL:=[ja 48 5,⟨some 49,.val (.tas 224 false (.agg [.nils,.nils]) (.t 48)),none⟩,⟨some 10,.allocN 10 [.nils,.nils],none⟩,js 2 10 49]
abbrev Qab:IL:=[jd 4 0]
abbrev QOA:RC:=jQ Qud (.seq (jQ Que (.cond (.t 15) (jQ Quf (.ret)) (.skip))) (jQ Qug (.seq (jQ Quh (.block 0 (jQ Qui (.cond (.t 26) (jQ Quj (jQ Quk (.ret))) (jQ Qul (.cond (.t 32) (jQ Qum (jQ L4 (.ret))) (jQ L5 (.cond (.t 39) (jQ L6 (jQ L7 (.ret))) (jQ L8 (.cond (.t 46) (jQ L9 (jQ Qaa (.seq (.no) (.ret)))) (.skip))))))))))) (jQ Qab (.ret)))))
abbrev QOB:List RR:=[.tmp 4]
theorem QOC:CT 227 62 QOA QOB:=ck Tryz.func227 Tryz.ntmps227 (by decide +kernel)
abbrev Qun:IL:=[je 2 2 0,je 3 3 1,jh 4]
abbrev Quo:IL:=[jf 5 7 2,jf 6 7 3,jy 7 227 5 6,jq 8 7 0,ja 4 8]
abbrev QOD:RC:=jQ Qun (jQ Quo (.ret))
abbrev QOE:List RR:=[.tmp 4]
theorem QOF:CT 228 9 QOD QOE:=ck Tryz.func228 Tryz.ntmps228 (by decide +kernel)
abbrev Qup:IL:=[je 2 2 0,je 3 3 1,jd 4 0]
abbrev Quq:IL:=[jb 6 0 2,jc 7 6,jb 8 0 3,jc 9 8,jn 10 7 9,ja 5 10]
abbrev Qur:IL:=[jd 4 (-1)]
abbrev Qus:IL:=[jb 12 0 2,jc 13 12,jb 14 0 3,jc 15 14,F3 16 13 15,ja 11 16]
abbrev Qut:IL:=[jd 4 1]
abbrev Quu:IL:=[jb 18 0 2,jc 19 18,jr 20 193 19,jz 21 20,ja 17 21]
abbrev Quv:IL:=[jd 4 0]
abbrev Quw:IL:=[jb 23 0 2,jc 24 23,jr 25 239 24,ja 26 25,jl 27 2 2 26,ju 28 27 26,jl 29 2 3 26,ju 30 29 26,⟨some 31,.val (.bin .str .lss (.t 28) (.t 30)),(some (26,true))⟩,jj 32 26 31,ja 22 32]
abbrev Qux:IL:=[jd 4 (-1)]
abbrev Quy:IL:=[jb 34 0 2,jc 35 34,jr 36 239 35,ja 37 36,jl 38 2 2 37,ju 39 38 37,jl 40 2 3 37,ju 41 40 37,⟨some 42,.val (.bin .str .gtr (.t 39) (.t 41)),(some (37,true))⟩,jj 43 37 42,ja 33 43]
abbrev Qac:IL:=[jd 4 1]
abbrev Qad:IL:=[jb 45 0 2,jc 46 45,jr 47 239 46,ja 44 47]
abbrev Qae:IL:=[jd 4 0]
abbrev Qaf:IL:=[jw 49 0 2 7 2,jr 50 270 49,jw 51 0 3 7 3,jr 52 270 51,jn 53 50 52,ja 48 53]
abbrev Qag:IL:=[jd 4 (-1)]
abbrev Qah:IL:=[jw 55 0 2 7 2,jr 56 270 55,jw 57 0 3 7 3,jr 58 270 57,F3 59 56 58,ja 54 59]
abbrev Qai:IL:=[jd 4 1]
abbrev Qaj:IL:=[jd 4 0]
abbrev QOG:RC:=jQ Qup (.seq (.block 0 (jQ Quq (.cond (.t 5) (jQ Qur (.ret)) (jQ Qus (.cond (.t 11) (jQ Qut (.ret)) (jQ Quu (.cond (.t 17) (jQ Quv (.ret)) (jQ Quw (.cond (.t 22) (jQ Qux (.ret)) (jQ Quy (.cond (.t 33) (jQ Qac (.ret)) (jQ Qad (.cond (.t 44) (jQ Qae (.ret)) (jD Qaf (.cond (.t 48) (jQ Qag (.ret)) (jD Qah (.cond (.t 54) (jQ Qai (.ret)) (.skip)))))))))))))))))) (jQ Qaj (.ret)))
abbrev QOH:List RR:=[.tmp 4]
theorem QOI:CT 238 60 QOG QOH:=ck Tryz.func238 Tryz.ntmps238 (by decide +kernel)
abbrev Quz:IL:=[jh 2]
abbrev QuA:IL:=[ja 3 0,jq 4 3 7,ja 5 4,jv 6 0 5,ys 7 6 8 5,jo 8 5 7,ja 2 8]
abbrev QOJ:RC:=jQ Quz (jQ QuA (.ret))
abbrev QOK:List RR:=[.tmp 2]
theorem QOL:CT 239 9 QOJ QOK:=ck Tryz.func239 Tryz.ntmps239 (by decide +kernel)
def M5:IL:=[jd 4 0]
def M6:IL:=[ja 6 0,ja 7 1,NZ 8 6 7,ja 5 8]
def M7:IL:=[ja 10 5,⟨some 11,.val (.bin .num .lss (.t 10) (.c (.int .u8 128))),none⟩,ja 9 11]
def M8:IL:=[jd 4 1]
def Bk:IL:=[ja 13 5,MI 14 13 194,ja 15 14,jg 16 5 15,MJ 17 16 223 15,jj 18 15 17,ja 19 18,jg 20 0 19,jg 21 1 19,zy 22 21 1 19,Ba 23 271 20 22 1 19,jj 24 19 23,ja 12 24]
def M9:IL:=[jd 4 2]
def Bl:IL:=[ja 26 5,MG 27 26 224,ja 28 27,jg 29 0 28,jg 30 1 28,zy 31 30 1 28,⟨some 32,.call (.f 272) [(.t 29),(.t 31),(.c (.int .u8 160)),(.c (.int .u8 191))],(some (28,true))⟩,jj 33 28 32,ja 34 33,jg 35 0 34,jg 36 1 34,zy 37 36 2 34,Ba 38 271 35 37 1 34,jj 39 34 38,ja 25 39]
def Pa:IL:=[jd 4 3]
def Bm:IL:=[ja 41 5,MG 42 41 237,ja 43 42,jg 44 0 43,jg 45 1 43,zy 46 45 1 43,⟨some 47,.call (.f 272) [(.t 44),(.t 46),(.c (.int .u8 128)),(.c (.int .u8 159))],(some (43,true))⟩,jj 48 43 47,ja 49 48,jg 50 0 49,jg 51 1 49,zy 52 51 2 49,Ba 53 271 50 52 1 49,jj 54 49 53,ja 40 54]
def Pb:IL:=[jd 4 3]
def Dm:IL:=[ja 56 5,MI 57 56 225,ja 58 57,jg 59 5 58,MJ 60 59 239 58,jj 61 58 60,ja 62 61,jg 63 5 62,⟨some 64,.val (.bin .num .neq (.t 63) (.c (.int .u8 237))),(some (62,true))⟩,jj 65 62 64,ja 66 65,jg 67 0 66,jg 68 1 66,zy 69 68 1 66,Ba 70 271 67 69 2 66,jj 71 66 70,ja 55 71]
def N1:IL:=[jd 4 3]
def Dn:IL:=[ja 73 5,MG 74 73 240,ja 75 74,jg 76 0 75,jg 77 1 75,zy 78 77 1 75,⟨some 79,.call (.f 272) [(.t 76),(.t 78),(.c (.int .u8 144)),(.c (.int .u8 191))],(some (75,true))⟩,jj 80 75 79,ja 81 80,jg 82 0 81,jg 83 1 81,zy 84 83 2 81,Ba 85 271 82 84 2 81,jj 86 81 85,ja 72 86]
def N2:IL:=[jd 4 4]
def Dp:IL:=[ja 88 5,MI 89 88 241,ja 90 89,jg 91 5 90,MJ 92 91 243 90,jj 93 90 92,ja 94 93,jg 95 0 94,jg 96 1 94,zy 97 96 1 94,Ba 98 271 95 97 3 94,jj 99 94 98,ja 87 99]
def N3:IL:=[jd 4 4]
def Dq:IL:=[ja 101 5,MG 102 101 244,ja 103 102,jg 104 0 103,jg 105 1 103,zy 106 105 1 103,⟨some 107,.call (.f 272) [(.t 104),(.t 106),(.c (.int .u8 128)),(.c (.int .u8 143))],(some (103,true))⟩,jj 108 103 107,ja 109 108,jg 110 0 109,jg 111 1 109,zy 112 111 2 109,Ba 113 271 110 112 2 109,jj 114 109 113,ja 100 114]
def N4:IL:=[jd 4 4]
def N5:IL:=[jd 4 0]
def QuB:RC:=jQ M5 (jQ M6 (.seq (.block 0 (jQ M7 (.cond (.t 9) (jQ M8 (.ret)) (jQ Bk (.cond (.t 12) (jQ M9 (.ret)) (jQ Bl (.cond (.t 25) (jQ Pa (.ret)) (jQ Bm (.cond (.t 40) (jQ Pb (.ret)) (jQ Dm (.cond (.t 55) (jQ N1 (.ret)) (jQ Dn (.cond (.t 72) (jQ N2 (.ret)) (jQ Dp (.cond (.t 87) (jQ N3 (.ret)) (jQ Dq (.cond (.t 100) (jQ N4 (.ret)) (.skip)))))))))))))))))) (jQ N5 (.ret))))
def QuC:List RR:=[.tmp 4]
theorem QOM:CT 240 115 QuB QuC:=ck Tryz.func240 Tryz.ntmps240 (by decide +kernel)
abbrev QuD:IL:=[jd 4 0]
abbrev QuE:IL:=[ja 6 0,ji 7 1 6,jd 8 0]
abbrev QuF:IL:=[jn 9 8 7]
abbrev QuG:IL:=[ja 10 8,ja 5 10]
abbrev QuH:IL:=[ja 11 1,ja 12 0,ja 13 5,jk 14 3 12 13,jf 15 3 14,DZ 16 11 15]
abbrev QuI:IL:=[ja 17 5,ja 4 17]
abbrev QuJ:IL:=[jm 18 8 1,ja 8 18]
abbrev QuK:RC:=jQ QuF (.seq (jX 9 0) (.seq (.block 1 (jQ QuG (jQ QuH (.cond (.t 16) (jQ QuI (.ret)) (.skip))))) (.reg QuJ)))
abbrev QuL:IL:=[jd 4 (-1)]
abbrev QON:RC:=jQ QuD (.seq (jQ QuE (.block 0 (.loop QuK))) (jQ QuL (.ret)))
abbrev QOO:List RR:=[.tmp 4]
theorem QuM:CT 245 19 QON QOO:=ck Tryz.func245 Tryz.ntmps245 (by decide +kernel)
abbrev QuN:IL:=[jh 4]
abbrev QuO:IL:=[ja 5 0,ja 6 1,yr 7 276 5 6,yn 8 7 0,ja 4 8]
abbrev QOP:RC:=jQ QuN (jQ QuO (.ret))
abbrev QOQ:List RR:=[.tmp 4]
theorem QOR:CT 246 9 QOP QOQ:=ck Tryz.func246 Tryz.ntmps246 (by decide +kernel)
abbrev QuP:IL:=[je 2 2 0,jh 3]
abbrev QuQ:IL:=[jb 4 0 2,jc 5 4,jc 6 1,F9 7 5 6,ja 8 7,ju 9 1 8,jl 10 1 2 8,ju 11 10 8,MF 12 9 11 8,jj 13 8 12,ja 3 13]
abbrev QOS:RC:=jQ QuP (jQ QuQ (.ret))
abbrev QOT:List RR:=[.tmp 3]
theorem QOU:CT 247 14 QOS QOT:=ck Tryz.func247 Tryz.ntmps247 (by decide +kernel)
abbrev QuR:IL:=[jh 6]
abbrev QuS:IL:=[ja 7 2,⟨some 8,.val (.bin .num .eql (.t 7) (.c (.int .i32 65533))),none⟩,ja 9 8,jg 10 0 9,jg 11 1 9,⟨some 12,.val (.slc none (.t 10) (some (.t 11)) none none),(some (9,true))⟩,⟨some 13,.call (.f 277) [(.t 12),(.c (.str [239,191,189]))],(some (9,true))⟩,yx 14 13 9,jj 15 9 14,ja 6 15]
abbrev QOV:RC:=jQ QuR (jQ QuS (.ret))
abbrev QOW:List RR:=[.tmp 6]
theorem QOX:CT 248 16 QOV QOW:=ck Tryz.func248 Tryz.ntmps248 (by decide +kernel)
abbrev QuT:IL:=[⟨some 0,.val (.mov (.c (.nilm))),none⟩]
abbrev QuU:IL:=[⟨some 1,.mkm 1,none⟩,⟨some 2,.val (.build [.int .i64 0,.int .i64 0] [(0,1,(.c (.int .i64 1))),(1,1,(.c (.int .i64 126)))]),none⟩,⟨none,.mput (.t 1) (.c (.str [100,101,112,114,101,99,97,116,101,100])) (.t 2),none⟩,⟨some 3,.val (.build [.int .i64 0,.int .i64 0] [(0,1,(.c (.int .i64 7))),(1,1,(.c (.int .i64 126)))]),none⟩,⟨none,.mput (.t 1) (.c (.str [100,111,99])) (.t 3),none⟩,⟨some 4,.val (.build [.int .i64 0,.int .i64 0] [(0,1,(.c (.int .i64 7))),(1,1,(.c (.int .i64 84)))]),none⟩,⟨none,.mput (.t 1) (.c (.str [97,108,105,97,115])) (.t 4),none⟩,⟨some 5,.val (.build [.int .i64 0,.int .i64 0] [(0,1,(.c (.int .i64 4))),(1,1,(.c (.int .i64 84)))]),none⟩,⟨none,.mput (.t 1) (.c (.str [115,105,110,99,101])) (.t 5),none⟩,⟨some 6,.val (.build [.int .i64 0,.int .i64 0] [(0,1,(.c (.int .i64 4))),(1,1,(.c (.int .i64 84)))]),none⟩,⟨none,.mput (.t 1) (.c (.str [117,110,116,105,108])) (.t 6),none⟩,⟨some 7,.val (.build [.int .i64 0,.int .i64 0] [(0,1,(.c (.int .i64 3))),(1,1,(.c (.int .i64 4)))]),none⟩,⟨none,.mput (.t 1) (.c (.str [109,105,110])) (.t 7),none⟩,⟨some 8,.val (.build [.int .i64 0,.int .i64 0] [(0,1,(.c (.int .i64 3))),(1,1,(.c (.int .i64 4)))]),none⟩,⟨none,.mput (.t 1) (.c (.str [109,97,120])) (.t 8),none⟩,⟨some 9,.val (.build [.int .i64 0,.int .i64 0] [(0,1,(.c (.int .i64 4))),(1,1,(.c (.int .i64 4)))]),none⟩,⟨none,.mput (.t 1) (.c (.str [108,101,110,103,116,104])) (.t 9),none⟩,⟨some 10,.val (.build [.int .i64 0,.int .i64 0] [(0,1,(.c (.int .i64 1))),(1,1,(.c (.int .i64 4)))]),none⟩,⟨none,.mput (.t 1) (.c (.str [115,101,99,114,101,116])) (.t 10),none⟩,⟨some 11,.val (.build [.int .i64 0,.int .i64 0] [(0,1,(.c (.int .i64 1))),(1,1,(.c (.int .i64 64)))]),none⟩,⟨none,.mput (.t 1) (.c (.str [105,100,101,109,112,111,116,101,110,116])) (.t 11),none⟩,⟨some 12,.val (.build [.int .i64 0,.int .i64 0] [(0,1,(.c (.int .i64 4))),(1,1,(.c (.int .i64 64)))]),none⟩,⟨none,.mput (.t 1) (.c (.str [116,105,109,101,111,117,116])) (.t 12),none⟩,⟨some 13,.val (.build [.int .i64 0,.int .i64 0] [(0,1,(.c (.int .i64 7))),(1,1,(.c (.int .i64 64)))]),none⟩,⟨none,.mput (.t 1) (.c (.str [114,111,117,116,101])) (.t 13),none⟩,⟨some 14,.val (.build [.int .i64 0,.int .i64 0] [(0,1,(.c (.int .i64 7))),(1,1,(.c (.int .i64 34)))]),none⟩,⟨none,.mput (.t 1) (.c (.str [111,119,110,101,114])) (.t 14),none⟩,ja 15 1,ja 0 15]
abbrev QuV:RC:=jQ QuT (jQ QuU (.ret))
abbrev QuW:List RR:=[.tmp 0]
theorem QOY:CT 249 16 QuV QuW:=ck Tryz.func249 Tryz.ntmps249 (by decide +kernel)
abbrev QuX:IL:=[je 1 1 0,jh 2]
abbrev QuY:IL:=[jb 4 0 1,jc 5 4,jr 6 278 5,ja 3 6]
abbrev QuZ:IL:=[ja 7 3,yg 8 7 0,ja 9 8,jg 10 3 9,jl 11 1 1 9,zk 12 7 11 9,Gu 13 279 10 12 9,jj 14 9 13,ja 2 14]
abbrev QOZ:RC:=jQ QuX (jQ QuY (jQ QuZ (.ret)))
abbrev QO0:List RR:=[.tmp 2]
theorem QO1:CT 250 15 QOZ QO0:=ck Tryz.func250 Tryz.ntmps250 (by decide +kernel)
abbrev Qu0:IL:=[jh 4]
abbrev Qu1:IL:=[ja 5 0,ja 6 1,yr 7 280 5 6,yn 8 7 0,ja 4 8]
abbrev QO2:RC:=jQ Qu0 (jQ Qu1 (.ret))
abbrev QO3:List RR:=[.tmp 4]
theorem QO4:CT 252 9 QO2 QO3:=ck Tryz.func252 Tryz.ntmps252 (by decide +kernel)
abbrev Qu2:IL:=[je 2 2 0,jh 3]
abbrev Qu3:IL:=[jb 4 0 2,jf 5 7 4,jb 6 0 1,jf 7 7 6,jy 8 228 5 7,ja 3 8]
abbrev QO5:RC:=jQ Qu2 (jQ Qu3 (.ret))
abbrev QO6:List RR:=[.tmp 3]
theorem QO7:CT 253 9 QO5 QO6:=ck Tryz.func253 Tryz.ntmps253 (by decide +kernel)
abbrev Qu4:IL:=[je 1 1 0,⟨some 2,.val (.mov (.c (.nili))),none⟩]
abbrev Qu5:IL:=[jb 4 0 1,jc 5 4,jr 6 217 5,ja 3 6]
abbrev Qu6:IL:=[jf 7 7 1,⟨some 8,.val (.mki 218 (.t 7)),none⟩,ja 2 8]
abbrev Qu7:IL:=[jb 10 0 1,jc 11 10,jq 12 11 11,ja 9 12]
abbrev Qu8:IL:=[jb 13 3 1,jc 14 13,⟨some 15,.val (.mki 219 (.t 14)),none⟩,ja 2 15]
abbrev Qu9:IL:=[jb 17 0 1,jc 18 17,jq 19 18 12,ja 16 19]
abbrev Qva:IL:=[jb 20 4 1,jc 21 20,⟨some 22,.val (.mki 221 (.t 21)),none⟩,ja 2 22]
abbrev Qvb:IL:=[jb 24 0 1,jc 25 24,jq 26 25 10,ja 23 26]
abbrev Qvc:IL:=[jb 27 5 1,jc 28 27,jb 29 6 1,jc 30 29,⟨some 31,.val (.build [.nils,.nils] [(0,1,(.t 28)),(1,1,(.t 30))]),none⟩,⟨some 32,.val (.mki 224 (.t 31)),none⟩,ja 2 32]
abbrev Qvd:IL:=[⟨some 2,.val (.mov (.c (.nili))),none⟩]
abbrev QO8:RC:=jQ Qu4 (.seq (.block 0 (jQ Qu5 (.cond (.t 3) (jQ Qu6 (.ret)) (jQ Qu7 (.cond (.t 9) (jQ Qu8 (.ret)) (jQ Qu9 (.cond (.t 16) (jQ Qva (.ret)) (jQ Qvb (.cond (.t 23) (jQ Qvc (.ret)) (.skip)))))))))) (jQ Qvd (.ret)))
abbrev QO9:List RR:=[.tmp 2]
theorem QPa:CT 257 33 QO8 QO9:=ck Tryz.func257 Tryz.ntmps257 (by decide +kernel)
abbrev Qve:IL:=[je 2 2 0,je 3 3 1,jd 4 0]
abbrev Qvf:IL:=[jb 6 0 2,jc 7 6,jb 8 0 3,jc 9 8,zs 10 7 9,ja 5 10]
abbrev Qvg:IL:=[jb 11 0 2,jc 12 11,jb 13 0 3,jc 14 13,jy 15 102 12 14,ja 4 15]
abbrev Qvh:IL:=[jb 17 0 2,jc 18 17,jr 19 217 18,jz 20 19,ja 16 20]
abbrev Qvi:IL:=[jd 4 0]
abbrev Qvj:IL:=[jb 22 0 2,jc 23 22,jr 24 267 23,ja 21 24]
abbrev Qvk:IL:=[jb 25 2 2,jc 26 25,jb 27 2 3,jc 28 27,jy 29 284 26 28,ja 4 29]
abbrev Qvl:IL:=[jb 31 0 2,jc 32 31,jq 33 32 2,ja 34 33,jp 35 0 2 34,jt 36 35 34,ys 37 36 3 34,jo 38 34 37,ja 30 38]
abbrev Qvm:IL:=[jb 39 1 2,jc 40 39,NQ 41 40,jb 42 1 3,jc 43 42,NQ 44 43,jy 45 102 41 44,ja 4 45]
abbrev Qvn:IL:=[jb 47 0 2,jc 48 47,jq 49 48 6,ja 46 49]
abbrev Qak:IL:=[jb 50 1 2,yb 51 0 2 50,jr 52 286 51,jb 53 1 3,yb 54 0 3 53,jr 55 286 54,jy 56 285 52 55,ja 4 56]
abbrev Qal:IL:=[jb 57 1 2,jc 58 57,jb 59 1 3,jc 60 59,jy 61 285 58 60,ja 4 61]
abbrev QPb:RC:=jQ Qve (.seq (.block 0 (jQ Qvf (.cond (.t 5) (jQ Qvg (.ret)) (jQ Qvh (.cond (.t 16) (jQ Qvi (.ret)) (jQ Qvj (.cond (.t 21) (jQ Qvk (.ret)) (jQ Qvl (.cond (.t 30) (jQ Qvm (.ret)) (jQ Qvn (.cond (.t 46) (jD Qak (.ret)) (.skip)))))))))))) (jQ Qal (.ret)))
abbrev QPc:List RR:=[.tmp 4]
theorem QPd:CT 258 62 QPb QPc:=ck Tryz.func258 Tryz.ntmps258 (by decide +kernel)
abbrev Qvo:IL:=[je 1 1 0,NT 2 0]
abbrev Qvp:IL:=[jb 4 0 1,jc 5 4,jr 6 288 5,ja 3 6]
abbrev Qvq:IL:=[jb 7 1 1,jc 8 7,⟨some 9,.val (.bin .num .add (.t 8) (.c (.int .u64 9223372036854775808))),none⟩,ja 2 9]
abbrev Qvr:IL:=[jb 11 0 1,jc 12 11,yg 13 12 6,ja 10 13]
abbrev Qvs:IL:=[jb 14 1 1,jc 15 14,ja 2 15]
abbrev Qvt:IL:=[jb 17 1 1,jc 18 17,jr 19 123 18,jq 20 19 0,ja 16 20]
abbrev Qvu:IL:=[NT 2 18446744073709551615]
abbrev Qvv:IL:=[jb 22 1 1,jc 23 22,⟨some 24,.val (.bin .num .geq (.t 23) (.c (.int .u64 9223372036854775808))),none⟩,ja 21 24]
abbrev Qvw:IL:=[jb 25 1 1,jc 26 25,⟨some 27,.val (.bin .num .sub (.c (.int .u64 18446744073709551615)) (.t 26)),none⟩,ja 2 27]
abbrev Qvx:IL:=[jb 28 1 1,jc 29 28,⟨some 30,.val (.bin .num .add (.t 29) (.c (.int .u64 9223372036854775808))),none⟩,ja 2 30]
abbrev QPe:RC:=jQ Qvo (.seq (.block 0 (jQ Qvp (.cond (.t 3) (jQ Qvq (.ret)) (jQ Qvr (.cond (.t 10) (jQ Qvs (.ret)) (jQ Qvt (.cond (.t 16) (jQ Qvu (.ret)) (jQ Qvv (.cond (.t 21) (jQ Qvw (.ret)) (.skip)))))))))) (jQ Qvx (.ret)))
abbrev QPf:List RR:=[.tmp 2]
theorem QPg:CT 270 31 QPe QPf:=ck Tryz.func270 Tryz.ntmps270 (by decide +kernel)
abbrev Qvy:IL:=[jh 6]
abbrev Qvz:IL:=[jd 7 0]
abbrev QvA:IL:=[ja 8 7,ja 9 2,jn 10 8 9]
abbrev QvB:IL:=[ja 13 0,ja 14 1,ja 15 7,yj 16 14 15,⟨some 17,.call (.f 272) [(.t 13),(.t 16),(.c (.int .u8 128)),(.c (.int .u8 191))],none⟩,jz 18 17]
abbrev QvC:IL:=[jh 6]
abbrev QvD:IL:=[ja 11 7,jm 12 11 1,ja 7 12]
abbrev QvE:RC:=.seq (jQ QvA (jX 10 0)) (.seq (.block 1 (jQ QvB (.cond (.t 18) (jQ QvC (.ret)) (.skip)))) (.reg QvD))
abbrev QvF:IL:=[yl 6]
abbrev QPh:RC:=jQ Qvy (.seq (jQ Qvz (.block 0 (.loop QvE))) (jQ QvF (.ret)))
abbrev QPi:List RR:=[.tmp 6]
theorem QPj:CT 271 19 QPh QPi:=ck Tryz.func271 Tryz.ntmps271 (by decide +kernel)
abbrev QvG:IL:=[jh 8]
abbrev QvH:IL:=[ja 9 1,ja 10 0,ji 11 0 10,jn 12 9 11,ja 13 12,jg 14 0 13,jg 15 1 13,MH 16 14 15 13,jg 17 2 13,⟨some 18,.val (.bin .num .geq (.t 16) (.t 17)),(some (13,true))⟩,jj 19 13 18,ja 20 19,jg 21 0 20,jg 22 1 20,MH 23 21 22 20,jg 24 3 20,MF 25 23 24 20,jj 26 20 25,ja 8 26]
abbrev QPk:RC:=jQ QvG (jQ QvH (.ret))
abbrev QPl:List RR:=[.tmp 8]
theorem QPm:CT 272 27 QPk QPl:=ck Tryz.func272 Tryz.ntmps272 (by decide +kernel)
abbrev QvI:IL:=[jd 4 0]
abbrev QvJ:IL:=[ja 6 0,ji 7 1 6,jd 8 0]
abbrev QvK:IL:=[jn 9 8 7]
abbrev QvL:IL:=[ja 10 8,ja 5 10]
abbrev QvM:IL:=[ja 11 1,ja 12 0,ja 13 5,jk 14 2 12 13,jf 15 2 14,DZ 16 11 15]
abbrev QvN:IL:=[ja 17 5,ja 4 17]
abbrev QvO:IL:=[jm 18 8 1,ja 8 18]
abbrev QvP:RC:=jQ QvK (.seq (jX 9 0) (.seq (.block 1 (jQ QvL (jQ QvM (.cond (.t 16) (jQ QvN (.ret)) (.skip))))) (.reg QvO)))
abbrev QvQ:IL:=[jd 4 (-1)]
abbrev QPn:RC:=jQ QvI (.seq (jQ QvJ (.block 0 (.loop QvP))) (jQ QvQ (.ret)))
abbrev QPo:List RR:=[.tmp 4]
theorem QPp:CT 276 19 QPn QPo:=ck Tryz.func276 Tryz.ntmps276 (by decide +kernel)
abbrev QvR:IL:=[jh 4]
abbrev QvS:IL:=[ja 5 0,ja 6 1,jy 7 293 5 6,ja 4 7]
abbrev QPq:RC:=jQ QvR (jQ QvS (.ret))
abbrev QPr:List RR:=[.tmp 4]
theorem QPs:CT 277 8 QPq QPr:=ck Tryz.func277 Tryz.ntmps277 (by decide +kernel)
abbrev QvT:IL:=[jd 2 0]
abbrev QvU:IL:=[zz 3 249,ja 4 0,⟨some 5,.val (.mget false (.agg [.int .i64 0,.int .i64 0]) (.t 3) (.t 4)),none⟩,⟨some 6,.val (.fld 0 none (.t 5)),none⟩,ja 2 6]
abbrev QPt:RC:=jQ QvT (jQ QvU (.ret))
abbrev QPu:List RR:=[.tmp 2]
theorem QPv:CT 278 7 QPt QPu:=ck Tryz.func278 Tryz.ntmps278 (by decide +kernel)
abbrev QvV:IL:=[jd 4 0]
abbrev QvW:IL:=[ja 6 0,ji 7 1 6,jd 8 0]
abbrev QvX:IL:=[jn 9 8 7]
abbrev QvY:IL:=[ja 10 8,ja 5 10]
abbrev QvZ:IL:=[ja 11 1,ja 12 0,ja 13 5,jk 14 14 12 13,jf 15 14 14,DZ 16 11 15]
abbrev Qv0:IL:=[ja 17 5,ja 4 17]
abbrev Qv1:IL:=[jm 18 8 1,ja 8 18]
abbrev Qv2:RC:=jQ QvX (.seq (jX 9 0) (.seq (.block 1 (jQ QvY (jQ QvZ (.cond (.t 16) (jQ Qv0 (.ret)) (.skip))))) (.reg Qv1)))
abbrev Qv3:IL:=[jd 4 (-1)]
abbrev QPw:RC:=jQ QvV (.seq (jQ QvW (.block 0 (.loop Qv2))) (jQ Qv3 (.ret)))
abbrev QPx:List RR:=[.tmp 4]
theorem QPy:CT 280 19 QPw QPx:=ck Tryz.func280 Tryz.ntmps280 (by decide +kernel)
abbrev Qv4:IL:=[jd 4 0]
abbrev Qv5:IL:=[ja 7 0,jr 8 297 7,ja 5 8]
abbrev Qv6:IL:=[ja 9 1,jr 10 297 9,ja 6 10]
abbrev Qv7:IL:=[ja 11 5]
abbrev Qv8:IL:=[ja 12 6]
abbrev Qv9:IL:=[jd 4 0]
abbrev Qwa:IL:=[jd 4 (-1)]
abbrev Qwb:IL:=[ja 13 6]
abbrev Qwc:IL:=[jd 4 1]
abbrev Qwd:IL:=[ja 14 0,ja 15 1,⟨some 16,.val (.bin .str .lss (.t 14) (.t 15)),none⟩]
abbrev Qam:IL:=[jd 4 (-1)]
abbrev Qan:IL:=[ja 17 0,ja 18 1,⟨some 19,.val (.bin .str .gtr (.t 17) (.t 18)),none⟩]
abbrev Qao:IL:=[jd 4 1]
abbrev Qap:IL:=[jd 4 0]
abbrev QPz:RC:=jQ Qv4 (jQ Qv5 (jQ Qv6 (.seq (jQ Qv7 (.cond (.t 11) (.seq (jQ Qv8 (.cond (.t 12) (jQ Qv9 (.ret)) (.skip))) (jQ Qwa (.ret))) (.skip))) (.seq (jQ Qwb (.cond (.t 13) (jQ Qwc (.ret)) (.skip))) (.seq (jQ Qwd (.cond (.t 16) (jQ Qam (.ret)) (.skip))) (.seq (jQ Qan (.cond (.t 19) (jQ Qao (.ret)) (.skip))) (jQ Qap (.ret))))))))
abbrev QPA:List RR:=[.tmp 4]
theorem QPB:CT 284 20 QPz QPA:=ck Tryz.func284 Tryz.ntmps284 (by decide +kernel)
abbrev Qwe:IL:=[jd 4 0]
abbrev Qwf:IL:=[ja 7 0,jr 8 298 7,ja 5 8]
abbrev Qwg:IL:=[ja 9 1,jr 10 298 9,ja 6 10]
abbrev Qwh:IL:=[ja 11 5]
abbrev Qwi:IL:=[ja 12 6]
abbrev Qwj:IL:=[jd 4 0]
abbrev Qwk:IL:=[jd 4 (-1)]
abbrev Qwl:IL:=[ja 13 6]
abbrev Qwm:IL:=[jd 4 1]
abbrev Qwn:IL:=[ja 14 0,ja 15 1,jn 16 14 15]
abbrev Qaq:IL:=[jd 4 (-1)]
abbrev Qar:IL:=[ja 17 0,ja 18 1,F3 19 17 18]
abbrev Qas:IL:=[jd 4 1]
abbrev Qat:IL:=[jd 4 0]
abbrev QPC:RC:=jQ Qwe (jQ Qwf (jQ Qwg (.seq (jQ Qwh (.cond (.t 11) (.seq (jQ Qwi (.cond (.t 12) (jQ Qwj (.ret)) (.skip))) (jQ Qwk (.ret))) (.skip))) (.seq (jQ Qwl (.cond (.t 13) (jQ Qwm (.ret)) (.skip))) (.seq (jQ Qwn (.cond (.t 16) (jQ Qaq (.ret)) (.skip))) (.seq (jQ Qar (.cond (.t 19) (jQ Qas (.ret)) (.skip))) (jQ Qat (.ret))))))))
abbrev QPD:List RR:=[.tmp 4]
theorem QPE:CT 285 20 QPC QPD:=ck Tryz.func285 Tryz.ntmps285 (by decide +kernel)
abbrev Qwo:IL:=[jh 2]
abbrev Qwp:IL:=[ja 3 0,jq 4 3 2,ja 5 4,jv 6 0 5,ys 7 6 3 5,jo 8 5 7,ja 2 8]
abbrev QPF:RC:=jQ Qwo (jQ Qwp (.ret))
abbrev QPG:List RR:=[.tmp 2]
theorem QPH:CT 288 9 QPF QPG:=ck Tryz.func288 Tryz.ntmps288 (by decide +kernel)
abbrev Qwq:IL:=[jh 4]
abbrev Qwr:IL:=[ja 5 0,ji 6 0 5,ja 7 1,ji 8 0 7,⟨some 9,.val (.bin .num .geq (.t 6) (.t 8)),none⟩,ja 10 9,jg 11 0 10,jg 12 1 10,yt 13 0 12 10,⟨some 14,.val (.slc none (.t 11) none (some (.t 13)) none),(some (10,true))⟩,jg 15 1 10,Mx 16 14 15 10,jj 17 10 16,ja 4 17]
abbrev QPI:RC:=jQ Qwq (jQ Qwr (.ret))
abbrev QPJ:List RR:=[.tmp 4]
theorem QPK:CT 293 18 QPI QPJ:=ck Tryz.func293 Tryz.ntmps293 (by decide +kernel)
abbrev Qws:IL:=[jh 2]
abbrev Qwt:IL:=[ja 3 0,ja 4 0,⟨some 5,.val (.bin .str .neq (.t 3) (.t 4)),none⟩,ja 2 5]
abbrev QPL:RC:=jQ Qws (jQ Qwt (.ret))
abbrev QPM:List RR:=[.tmp 2]
theorem QPN:CT 297 6 QPL QPM:=ck Tryz.func297 Tryz.ntmps297 (by decide +kernel)
abbrev Qwu:IL:=[jh 2]
abbrev Qwv:IL:=[ja 3 0,ja 4 0,zs 5 3 4,ja 2 5]
abbrev QPO:RC:=jQ Qwu (jQ Qwv (.ret))
abbrev QPP:List RR:=[.tmp 2]
theorem QPQ:CT 298 6 QPO QPP:=ck Tryz.func298 Tryz.ntmps298 (by decide +kernel)
end Go.Proofs.YtipjfckmopekaaaGreatDoor.Rc

namespace Go.Proofs.YtipjfckmopekaaaGreatDoor.Bt
open Go

theorem Jm (n:Int):IntKind.u64.wrap n=n % 18446744073709551616:=by simp[IntKind.wrap,IntKind.bits,IntKind.signed]
theorem Pd (n:Int):IntKind.u8.wrap n=n % 256:=by simp[IntKind.wrap,IntKind.bits,IntKind.signed]
theorem QE (n:Int):IntKind.i64.wrap n=(n+9223372036854775808) % 18446744073709551616-9223372036854775808:=IntKind.wrap_i64 n

theorem WV {n:Nat}(h:n<18446744073709551616):(BitVec.ofInt 64 (n:Int)).toNat=n:=by
 simp;omega

theorem N6 (a b:Nat)(ha:a<18446744073709551616)(hb:b<18446744073709551616):bits .xor .u64 (a:Int) (b:Int)=((a ^^^ b:Nat):Int):=by
 have hx:a ^^^ b<2 ^ 64:=Nat.xor_lt_two_pow (by omega) (by omega);show IntKind.u64.wrap ((BitVec.ofInt 64 (a:Int) ^^^ BitVec.ofInt 64 (b:Int)).toNat:Int)=_;rw[BitVec.toNat_xor,WV ha,WV hb,Jm];omega
theorem UT (a b:Nat)(ha:a<18446744073709551616)(hb:b<18446744073709551616):bits .and .u64 (a:Int) (b:Int)=((a &&& b:Nat):Int):=by
 have hx:a &&& b<2 ^ 64:=Nat.and_lt_two_pow _ (by omega);show IntKind.u64.wrap ((BitVec.ofInt 64 (a:Int) &&& BitVec.ofInt 64 (b:Int)).toNat:Int)=_;rw[BitVec.toNat_and,WV ha,WV hb,Jm];omega
theorem Bn (a:Nat)(ha:a<18446744073709551616):a ^^^ 18446744073709551615=18446744073709551615-a:=by
 have h1:(BitVec.ofNat 64 a ^^^ BitVec.allOnes 64).toNat=a ^^^ 18446744073709551615:=by
  rw[BitVec.toNat_xor,BitVec.toNat_ofNat,BitVec.toNat_allOnes,Nat.mod_eq_of_lt (by omega)]
 rw[←h1,BitVec.xor_allOnes,BitVec.toNat_not,BitVec.toNat_ofNat,Nat.mod_eq_of_lt (by omega)]

theorem Bo (a:Int)(h0:0≤a)(h1:a<18446744073709551616):bits .xor .u64 a 0=a:=by
 obtain⟨n,rfl⟩:=QY5 h0;have:=N6 n 0 (by omega) (by omega);rw[Nat.xor_zero]at this;exact this
theorem Bp (a:Int)(h0:0≤a)(h1:a<18446744073709551616):bits .xor .u64 a 18446744073709551615=18446744073709551615-a:=by
 obtain⟨n,rfl⟩:=QY5 h0;have:=N6 n 18446744073709551615 (by omega) (by omega);rw[Bn n (by omega)]at this;rw[show((18446744073709551615:Nat):Int)=18446744073709551615 from rfl]at this;rw[this];omega
end Go.Proofs.YtipjfckmopekaaaGreatDoor.Bt

set_option linter.unusedSimpArgs false
namespace Go.Proofs.YtipjfckmopekaaaGreatDoor.Va
open Go Am Rc Bt

def RB (v:AV):Prop:=∃b,v=.bool b
theorem RB.rf {v:AV}{l:List AV}(h:RB v):v.rf=true∧(AV.rfL l=true∨v.nl=true):=by
 obtain⟨b,rfl⟩:=h;exact⟨rfl,.inr rfl⟩

def isk (k:Int):Bool:=decide (k≥1)&&decide (k≤9)
def Za (k:Int):Bool:=k==7||k==8
def wk (k:Int):Int:=if k=1∨k=4∨k=5∨k=9 then 0 else if k=2∨k=3 then 1 else if k=6 then 2 else if k=7∨k=8 then 3 else if k=10 then 4 else -1

theorem Ca (k:Int):Qk Tryz.prog 193 [.int .i64 k] (.bool (isk k)):=by
 refine QNX.fn (by simp) ?_;simp only[isk,Qa,seval];cases h:decide (k≥1)<;>simp only[QY3,QYW,Qa,seval]

theorem Bq (k:Int):Qk Tryz.prog 217 [.int .i64 k] (.bool (isk k)):=by
 refine QjM.fn (by simp) ?_;simp only[isk,Qa,seval];cases h:decide (k≥1)<;>simp only[QY3,QYW,Qa,seval]

theorem HB (k:Int):Qk Tryz.prog 239 [.int .i64 k] (.bool (Za k)):=by
 refine QOL.fn (by simp) ?_;simp only[Za,Qa,seval];cases h:(k==7)<;>simp only[QY6,QY7,Qa,seval]

theorem Qww (k:Int):Qk Tryz.prog 267 [.int .i64 k] (.bool (Za k)):=by
 refine QlW.fn (by simp) ?_;simp only[Za,Qa,seval];cases h:(k==7)<;>simp only[QY6,QY7,Qa,seval]

def oc (n:Int)(s a:List UInt8)(c k kd t u:Int):AV:=.agg [.int .i64 n,.str s,.str a,.int .i64 c,.int .i64 k,.int .i64 kd,.int .i64 t,.int .i64 u]

def pk (c kd:Int):Bool:=c==4&&((decide (kd≥1)&&decide (kd≤6))||kd==9)
def Pe (c kd:Int):Int:=if c=5 then 6 else if pk c kd=true then 5 else wk kd

section
variable (n:Int)(s a:List UInt8)(c k kd t u:Int)

theorem Qwx:Qk Tryz.prog 119 [oc n s a c k kd t u] (.bool (pk c kd)):=by
 refine QdA.fn (by simp) ?_;simp only[oc,pk,eE,seval];cases h0:(c==4)<;>cases h1:decide (kd≥1)<;>cases h2:decide (kd≤6)<;>simp only[h1,h2,QY3,QYW,QY6,QY7,eE,seval]

theorem y41:Qk Tryz.prog 41 [oc n s a c k kd t u] (.bool (pk c kd)):=by
 refine k41.fn (by simp) ?_;simp only[oc,pk,eE,seval];cases h0:(c==4)<;>cases h1:decide (kd≥1)<;>cases h2:decide (kd≤6)<;>simp only[h1,h2,QY3,QYW,QY6,QY7,eE,seval]

theorem QPR:Qk Tryz.prog 198 [oc n s a c k kd t u] (.int .i64 (Pe c kd)):=by
 have hP:=Qwx n s a c k kd t u;simp only[oc]at hP;refine Qis.fn (by simp) ?_;simp only[oc,eE,seval];by_cases hc:c=5
 ·have b0:(c==5)=true:=by simp[hc]
  simp only[b0,Pe,QXV hc,Qa,seval]
 ·have b0:(c==5)=false:=by simp[hc]
  simp only[b0,Pe,QXG hc,eE,seval];refine aC hP ?_;cases pk c kd
  ·simp only[QXL,eE,seval]
   repeat' (first|(refine Q2 (fun h=>?_) (fun h=>?_)<;>simp only[h,Qa,seval])|(refine XG (fun h=>?_) (fun h=>?_)<;>simp only[h,Qn,eE,seval])|(refine XH (fun h=>?_) (fun h=>?_)<;>simp only[h,Qn,eE,seval]))
   all_goals((try simp only[QXy,QY8,ne_eq]at *)<;>unfold wk<;>(repeat' split)<;>first|rfl|(exfalso;omega))
  ·simp only[Qa,seval]

end

theorem Ql (i:Nat)(n:Nat)(h:i<n)(hn:n≤maxLen):IntKind.i64.wrap ((i:Int)+1)=((i+1:Nat):Int):=by
 simp only[maxLen]at hn;rw[QE];omega

theorem Qm {i n:Nat}(h:i<n):decide ((i:Int)<(n:Int))=true:=by simp;omega
theorem Qw {i n:Nat}(h:¬i<n):decide ((i:Int)<(n:Int))=false:=by simp;omega
theorem Qi (i:Nat):(0≤(i:Int))=True:=by simp

end Go.Proofs.YtipjfckmopekaaaGreatDoor.Va

namespace Go.Proofs.YtipjfckmopekaaaGreatDoor.Br
open Go Am Go.RowKit Go.WideShapes Go.ChangeShapes Go.ChangeAt Go.Joins Go.Deep Go.WideElems Go.Maps

section
variable {H:Type}{XT:TypeId×Value→H}{P:Program}{W:World}{base:Nat}{sp:Nat→Bool}{held:Bool}

end

theorem Hk {X α:Type}{f:X→List α}{sz:Nat}(hsz:0<sz)(hf:∀x,(f x).length=sz):∀(xs:List X) (j:Nat),(xs.flatMap f)[j]? = (xs[j / sz]?).bind fun x=>(f x)[j % sz]?
 | [],j=>by simp
 |x :: xs,j=>by
  rw[QYV];by_cases hj:j<sz
  ·rw[QYR (by rw[hf];exact hj),Nat.div_eq_of_lt hj,Nat.mod_eq_of_lt hj];rfl
  ·obtain⟨i,rfl⟩:∃i,j=sz+i:=⟨j-sz,by omega⟩;rw[QYS (by rw[hf];omega),hf,Hk hsz hf xs,show sz+i-sz=i by omega,show(sz+i) / sz=i / sz+1 by rw[Nat.add_div_left _ hsz],Nat.add_mod_left];rfl

section
variable {H:Type}{XT:TypeId×Value→H}{P:Program}{W:World}

structure El (XT:TypeId×Value→H)(P:Program)(e:TypeId)(sz:Nat)(X:Type) where
 av:X→AV
 vals:X→List Value
 BJ:X→DataW H
 ok:X→Prop
 pos:0<sz
 len:∀x,(vals x).length=sz
 cells:∀x,(av x).cells.length=sz
 rfl':∀x,AV.rfL (av x).cells=true
 leaf:∀x,(av x).cells.all AV.leaf=true
 rep:∀(G:Gh) x,RepL G (av x).cells (vals x)
 opened:∀ {W:World} {n:Nat} {cs:List Value} {d:DataW H} {pl:List MemPlace},cs.length=sz→DataW.trod XT P W 0 (fun _=>true) true n e cs=some (d,pl)→∃x,ok x∧cs=vals x∧d=BJ x∧pl=[]
 shut:∀(W:World) (sp:Nat→Bool) x,ok x→∃n,DataW.trod XT P W 0 sp true n e (vals x)=some (BJ x,[])

end

def Xw:List AV→AV
 | [x]=>x
 |l=>.agg l

def Gx (P:Program):Nat→List Field→Nat→Bool
 |o,[],n=>Nat.beq o n
 |o,f :: fs,n=>Nat.beq f.offset o&&Gx P (o+P.cellsOf f.type) fs n

def Pf (P:Program)(ts:List TypeId)(t:TypeId):Bool :=
 match P.underlying t with
 |some (.int _)|some .bool|some .string=>P.cellsOf t==1
 |some (.struct fs)=>Gx P 0 fs.toList (P.cellsOf t)&&fs.toList.all fun f=>ts.contains f.type
 |some (.slice e)=>P.cellsOf t==1&&(decide (0<P.cellsOf e)&&decide (0<P.bytesOf e))&&ts.contains e
 |_=>false
def Ph (P:Program)(ts:List TypeId):Bool:=ts.all (Pf P ts)

def Q8 (P:Program)(M:Nat):Nat→TypeId→List AV→Prop
 |0,_,_=>False
 |k+1,t,cs=>match P.underlying t with
  |some (.int ik)=>∃n,cs=[.int ik n]∧(Lit.int ik n).wf=true
  |some .bool=>∃b,cs=[.bool b]
  |some .string=>∃s,cs=[.str s]∧s.length≤M
  |some (.struct fs)=>HasL (Q8 P M k) fs.toList cs
  |some (.slice e)=>∃l:List (List AV),cs=[.list (l.map Xw)]∧(l.length≤maxLen∧(M=reachBytes→l.length*P.bytesOf e≤M))∧(∀c∈l,Q8 P M k e c)∧l.length≤M
  |_=>False
where
 HasL (h:TypeId→List AV→Prop):List Field→List AV→Prop
  | [],cs=>cs=[]
  |f :: fs,cs=>∃a b,cs=a++b∧h f.type a∧HasL h fs b

theorem Hl {l:List AV}(h:l.all AV.leaf=true):(Xw l).cells=l:=by
 match l,h with
 | [],_=>rfl
 | [x],h=>cases x<;>first|rfl|simp[AV.leaf]at h
 |_ :: _ :: _,_=>rfl

mutual
def wt:AV→Nat
 |.list l=>1+JG l
 |.agg l=>JG l
 |_=>1
def JG:List AV→Nat
 | []=>0
 |x :: l=>wt x+JG l
end
theorem N7 (a b:List AV):JG (a++b)=JG a+JG b:=by
 induction a with
 |nil=>simp[JG]
 |cons x a ih=>simp only[QXO,JG,ih];omega
theorem Rz:∀l:List AV,wt (Xw l)=JG l
 | []=>by simp[Xw,wt]
 | [x]=>by simp[Xw,JG]
 |_ :: _ :: _=>by simp[Xw,wt]

theorem Uo {G:Gh}:∀ {ls:List (List AV)} {cs:List (List Value)},ls.length=cs.length→(∀i (h1:i<ls.length) (h2:i<cs.length),RepL G ls[i] cs[i])→RepL G ls.flatten cs.flatten
 | [],[],_,_=>.nil
 |l :: ls,c :: cs,hn,h=>by
  rw[List.flatten_cons,List.flatten_cons];exact RepL.append (h 0 (by simp) (by simp)) (Uo (by simpa using hn) fun i h1 h2=>h (i+1) (by simpa using h1) (by simpa using h2))
 | [],_ :: _,hn,_=>by simp at hn
 |_ :: _,[],hn,_=>by simp at hn

section
variable {H:Type}{XT:TypeId×Value→H}{P:Program}{W:World}{M:Nat}

theorem HC {d:DataW H}:∀ {l:List (DataW H)},d∈l→Rows.uptoBulk d≤Rows.uptoBulkAll l
 | [],h=>by cases h
 |x :: l,h=>by
  rw[Rows.uptoBulkAll];rcases QYO.1 h with rfl|h
  ·omega
  ·have:=HC h;omega

theorem RD (d:DataW H):1≤Rows.uptoBulk d:=by unfold Rows.uptoBulk;split<;>omega
theorem Gy {x:AV}(h:wt x=1)(d:DataW H):JG [x]≤Rows.uptoBulk d:=by
 have:=RD d;rw[JG,JG,h];exact this
theorem RE (a b:List (DataW H)):Rows.uptoBulkAll (a++b)=Rows.uptoBulkAll a+Rows.uptoBulkAll b:=by
 induction a with
 |nil=>simp[Rows.uptoBulkAll]
 |cons x a ih=>simp only[QXO,Rows.uptoBulkAll,ih];omega
theorem Bs (F:Nat→List AV)(xs:List (DataW H))(h:∀i d,xs[i]? = some d→JG (F i)≤Rows.uptoBulk d):∀n,n≤xs.length→JG (((List.range n).map F).map Xw)≤Rows.uptoBulkAll (xs.take n)
 |0,_=>QXA _
 |n+1,hn=>by
  have hx:xs[n]? = some xs[n]:=QXt (by omega);have:=Bs F xs h n (by omega);have h1:=h n _ hx;rw[List.range_succ,QY9,QY9,N7,QZa,hx,RE];simp only[QXY,QYt,JG,Rz,QZb,Rows.uptoBulkAll];omega

def Tv (P:Program)(M:Nat)(t:TypeId)(d:DataW H):Prop:=M=maxLen∨(M≠reachBytes∧Rows.uptoBulk d≤M)∨(d.weights P t).all (·≤M)=true

theorem Wg {t:TypeId}{d:DataW H}:∀ {ts:List TypeId} {ds:List (DataW H)} (i:Nat),(DataW.weightsEach P ts ds).all (·≤M)=true→ts[i]? = some t→ds[i]? = some d→(d.weights P t).all (·≤M)=true
 | [],_,_,_,h,_=>by simp at h
 |_ :: _,[],_,_,_,h=>by simp at h
 |t' :: ts,d' :: ds,0,h,h1,h2=>by
  rw[DataW.weightsEach,QYJ,QXQ]at h;cases h1;cases h2;exact h.1
 |t' :: ts,d' :: ds,i+1,h,h1,h2=>by
  rw[DataW.weightsEach,QYJ,QXQ]at h;exact Wg i h.2 (by simpa using h1) (by simpa using h2)

theorem Yj {e:TypeId}{d:DataW H}:∀ {ds:List (DataW H)},(DataW.weightsAll P e ds).all (·≤M)=true→d∈ds→(d.weights P e).all (·≤M)=true
 | [],_,h=>by cases h
 |d' :: ds,h,hd=>by
  rw[DataW.weightsAll,QYJ,QXQ]at h;rcases QYO.1 hd with rfl|hd
  ·exact h.1
  ·exact Yj h.2 hd

def Opn (W:World)(h:List AV→Prop)(B n:Nat)(cs:List Value):Prop :=
 ∃avs,h avs∧RepL (Gh.bare fun b o=>sv W b o) avs cs∧avs.length=n∧AV.rfL avs=true∧avs.all AV.leaf=true∧JG avs≤B

theorem Hm {h:TypeId→List AV→Prop}{cs:List Value}:∀(fs:List Field) (ds:List (DataW H)) (o:Nat),Gx P o fs cs.length=true→fs.length=ds.length→(∀(i:Nat) (f:Field) (d:DataW H),fs[i]? = some f→ds[i]? = some d→Opn W (h f.type) (Rows.uptoBulk d) (P.cellsOf f.type) ((cs.drop f.offset).take (P.cellsOf f.type)))→
  Opn W (Q8.HasL h fs) (Rows.uptoBulkAll ds) (cs.length-o) (cs.drop o)
 | [],_,o,hc,_,_=>by
  have e:o=cs.length:=QXo hc;refine⟨[],rfl,?_,by simp[e],rfl,rfl,QXA _⟩;rw[e,List.drop_length];exact .nil
 |_ :: _,[],_,_,hl,_=>by simp at hl
 |f :: fs,d :: ds,o,hc,hl,hf=>by
  simp only[Gx,QXQ]at hc;have eo:f.offset=o:=QXo hc.1;obtain⟨a,a1,a2,a3,a4,a5,a6⟩:=hf 0 f d rfl rfl;obtain⟨b,b1,b2,b3,b4,b5,b6⟩:=Hm fs ds _ hc.2 (by simpa using hl) fun i g d hg hd=>hf (i+1) g d (by simpa using hg) (by simpa using hd)
  rw[eo]at a2;refine⟨a++b,⟨a,b,rfl,a1,b1⟩,?_,?_,by rw[Wa,a4,b4]<;>rfl,by rw[QYJ,a5,b5]<;>rfl,by rw[N7,Rows.uptoBulkAll];omega⟩
  ·have:=RepL.append a2 b2
   rwa [←QXU,QYI]at this
  ·have hlen:a.length=((cs.drop o).take (P.cellsOf f.type)).length:=(RepL.length a2).symm;rw[QX4,a3,b3];rw[a3,QYp,QX7]at hlen;omega

theorem Uq {ts:List TypeId}(hP:Ph P ts=true):∀(k:Nat) (t:TypeId) (cs:List Value) (d:DataW H) (pl:List MemPlace),ts.contains t=true→DataW.trod XT P W 0 (fun _=>true) true k t cs=some (d,pl)→Tv P M t d→
  Opn W (Q8 P M k t) (Rows.uptoBulk d) (P.cellsOf t) cs
 |0,_,_,_,_,_,h,_=>by simp[DataW.trod]at h
 |k+1,t,cs,d,pl,ht,h,hb=>by
  have hp:=QXE.1 hP t (by simpa using ht);unfold Pf at hp;split at hp
  ·rename_i ik hu;obtain⟨v,rfl,_,hw⟩:=DataW.trod_int hu h;refine⟨[.int ik v],?_,.cons (.int ik v) .nil,by rw[QXy]at hp;simp[hp],rfl,rfl,Gy rfl _⟩;simp only[Q8,hu];exact⟨v,rfl,hw⟩
  ·rename_i hu;obtain⟨b,rfl,_⟩:=DataW.trod_bool hu h;refine⟨[.bool b],?_,.cons (.bool b) .nil,by rw[QXy]at hp;simp[hp],rfl,rfl,Gy rfl _⟩;simp only[Q8,hu];exact⟨b,rfl⟩
  ·rename_i hu;obtain⟨⟨⟨s⟩⟩,rfl,e,hw⟩:=DataW.trod_string hu h;have hw:s.length≤M:=by
    cases e;rcases hb with rfl|hb|hb
    ·exact hw
    ·replace hb:=hb.2;rw[Rows.uptoBulk]at hb;exact QXr (Nat.le_succ _) hb
    ·rw[DataW.weights]at hb
     simpa using hb
   refine⟨[.str s],?_,.cons (.str s) .nil,by rw[QXy]at hp;simp[hp],rfl,rfl,Gy rfl _⟩;simp only[Q8,hu];exact⟨s,rfl,hw⟩
  ·rename_i fs hu;simp only[QXQ,QXE]at hp;obtain⟨xs,n',hk,e,hlen,hxl,hx⟩:=DataW.trod_struct hu h;obtain rfl:k=n':=by omega
   have hbx:∀(i:Nat) x (f:Field),xs[i]? = some x→fs[i]? = some f→Tv P M f.type x.1:=fun i x f hx hf=>by
    cases e;refine hb.imp id fun hb=>hb.imp (fun hb=>⟨hb.1,?_⟩) fun hb=>?_
    ·replace hb:=hb.2;rw[Rows.uptoBulk]at hb;have:=HC (l:=xs.map (·.1)) (QYM.2 ⟨x,QXF hx,rfl⟩);omega
    ·rw[DataW.weights,hu]at hb;exact Wg i hb (by simp[hf]) (by simp[hx])
   have:=Hm (W:=W) (h:=Q8 P M k) (cs:=cs) fs.toList (xs.map (·.1)) 0 (by rw[hlen];exact hp.1) (by simp[hxl]) (fun i f d hi hd=>by
    have hi':fs[i]? = some f:=by simpa using hi
    have hf:f∈fs.toList:=QXF hi;obtain⟨x,hxi,rfl⟩:∃x,xs[i]? = some x∧x.1=d:=by
     rw[QYP]at hd;obtain⟨x,h1,h2⟩:=QXv.1 hd;exact⟨x,h1,h2⟩
    have h2:=hx i f hi';rw[hxi]at h2;exact Uq hP k f.type _ _ _ (hp.2 f hf) h2 (hbx i _ f hxi hi'))
   rw[QX9,QYL,hlen]at this;obtain⟨avs,h1,h2,h3,h4,h5,h6⟩:=this;refine⟨avs,?_,h2,h3,h4,h5,by cases e;rw[Rows.uptoBulk];omega⟩;simp only[Q8,hu];exact h1
  ·rename_i e hu;simp only[QXQ,QXx,QXy]at hp;obtain⟨⟨h1,h0,hby⟩,hpe⟩:=hp;rcases DataW.trod_slice hu h with⟨rfl,_⟩|⟨a,len,cap,elems,rest,n',hk,rfl,e0,_,hl,hm,hln0,hel,_⟩
   ·refine⟨[.list []],?_,.cons (.list (cs:=[]) (sz:=0) .nil (by simp) rfl rfl (by simp) rfl (QXA _) (QXA _)) .nil,by simp[h1],rfl,rfl,Gy rfl _⟩;simp only[Q8,hu];exact⟨[],rfl,⟨QXA _,fun _=>by simp⟩,by simp,QXA _⟩
   ·obtain rfl:k=n':=by omega
    have hbx:∀x∈elems,Tv P M e x.1:=fun x hx=>by
     cases e0;refine hb.imp id fun hb=>hb.imp (fun hb=>⟨hb.1,?_⟩) fun hb=>?_
     ·replace hb:=hb.2;rw[Rows.uptoBulk]at hb;have:=HC (l:=elems.map (·.1)) (QYM.2 ⟨x,hx,rfl⟩);omega
     ·rw[DataW.weights,hu,QYD,QYJ,QXQ,QXQ]at hb;exact Yj hb.2.1 (QYM.2 ⟨x,hx,rfl⟩)
    have hlenM:len≤M:=by
     cases e0;rcases hb with rfl|hb|hb
     ·omega
     ·have key:∀l:List (DataW H),l.length≤Rows.uptoBulkAll l:=by
       intro l
       induction l with
       |nil=>simp
       |cons x l ih=>
        have:1≤Rows.uptoBulk x:=by unfold Rows.uptoBulk;split<;>omega
        rw[Rows.uptoBulkAll,QXH];omega
      replace hb:=hb.2;rw[Rows.uptoBulk]at hb;have:=key (elems.map (·.1));rw[QYn]at this;omega
     ·rw[DataW.weights,hu,QYD,QXQ]at hb;have h5:=hb.1;simp only[QXx,QYn]at h5;have h6:elems.length*1≤(elems.length+rest.length)*P.bytesOf e:=Nat.mul_le_mul (Nat.le_add_right _ _) hby;omega
    have hlenB:M=reachBytes→len*P.bytesOf e≤M:=fun hM=>by
     cases e0;rcases hb with rfl|hb|hb
     ·exact absurd hM (by unfold maxLen reachBytes;omega)
     ·exact absurd hM hb.1
     ·rw[DataW.weights,hu,QYD,QXQ]at hb;have h5:=hb.1;simp only[QXx,QYn]at h5;have h6:elems.length*P.bytesOf e≤(elems.length+rest.length)*P.bytesOf e:=Nat.mul_le_mul (Nat.le_add_right _ _) (QXq _);have h7:len*P.bytesOf e=elems.length*P.bytesOf e:=by rw[show len=elems.length by omega]
      omega
    haveI:Inhabited ({c:List Value // c.length=P.cellsOf e}×List AV):=⟨(⟨List.replicate (P.cellsOf e) (.bool false),by simp⟩,[])⟩
    obtain⟨F,hF⟩:=choose_lt (α:={c:List Value // c.length=P.cellsOf e}×List AV) (n:=len) (p:=fun i x=>W.cells? 0 (a.add (i*P.cellsOf e)) (P.cellsOf e)=some x.1.1∧Q8 P M k e x.2∧RepL (Gh.bare fun b o=>sv W b o) x.2 x.1.1∧x.2.length=P.cellsOf e∧AV.rfL x.2=true∧x.2.all AV.leaf=true∧∀d,elems[i]? = some d→JG x.2≤Rows.uptoBulk d.1) (fun i hi=>by
     have hb:=hel i hi;rw[QXt (by omega)]at hb;obtain⟨cs',c1,c2⟩:=Option.bind_eq_some_iff.1 hb;obtain⟨_,hln,_⟩:=World.cells?_some c1;obtain⟨avs,o1,o2,o3,o4,o5,o6⟩:=Uq hP k e cs' _ _ hpe c2 (hbx _ (QYk _));exact⟨(⟨cs',hln⟩,avs),c1,o1,o2,o3,o4,o5,fun d hd=>by
      rw[QXt (by omega)]at hd;cases hd;exact o6⟩)
    have cellAt:∀i j,i<len→j<P.cellsOf e→W.cell? (a.add (i*P.cellsOf e+j))=(F i).1.1[j]?:=by
     intro i j hi hj;obtain⟨_,_,h3⟩:=World.cells?_some (hF i hi).1;rw[←h3 j hj,add_add]
    have hspot:0<len→a.spot=none:=by
     intro hc;have:=cellAt 0 0 hc h0;rw[Nat.zero_mul,show a.add (0+0)=a from rfl,QXt (by rw[(F 0).1.2];exact h0)]at this;unfold World.cell? at this;split at this
     ·split at this
      ·cases this
      ·rename_i h;simpa using h
     ·cases this
    have hel':∀c∈(List.range len).map (fun i=>(F i).2),∃i,i<len∧c=(F i).2:=by
     intro c hc;obtain⟨i,hi,rfl⟩:=QYM.1 hc;exact⟨i,QYY.1 hi,rfl⟩
    have hflat:∀L:List (List AV),(∀c∈L,c.all AV.leaf=true)→QO (L.map Xw)=L.flatten:=by
     intro L
     induction L with
     |nil=>intro _;rfl
     |cons c L ih=>
      intro hh;show(Xw c).cells++QO (L.map Xw)=c++L.flatten;rw[Hl (hh c (by simp)),ih fun x hx=>hh x (by simp[hx])]
    have hrf:∀L:List (List AV),(∀c∈L,AV.rfL c=true)→AV.rfL L.flatten=true:=by
     intro L
     induction L with
     |nil=>intro _;rfl
     |cons c L ih=>
      intro hh;rw[List.flatten_cons,Wa,hh c (by simp),ih fun x hx=>hh x (by simp[hx])]<;>rfl
    have hlf:∀L:List (List AV),(∀c∈L,c.all AV.leaf=true)→L.flatten.all AV.leaf=true:=by
     intro L
     induction L with
     |nil=>intro _;rfl
     |cons c L ih=>
      intro hh;rw[List.flatten_cons,QYJ,hh c (by simp),ih fun x hx=>hh x (by simp[hx])]<;>rfl
    have hl1:∀c∈(List.range len).map (fun i=>(F i).2),c.all AV.leaf=true:=fun c hc=>by
     obtain⟨i,hi,rfl⟩:=hel' c hc;exact(hF i hi).2.2.2.2.2.1
    have hl2:∀c∈(List.range len).map (fun i=>(F i).2),AV.rfL c=true:=fun c hc=>by
     obtain⟨i,hi,rfl⟩:=hel' c hc;exact(hF i hi).2.2.2.2.1
    have hwt:JG [.list (((List.range len).map fun i=>(F i).2).map Xw)]≤Rows.uptoBulk d:=by
     cases e0;have hw:=fun n hn=>Bs (fun i=>if i<len then(F i).2 else []) (elems.map (·.1)) (fun i d hd=>by
      rw[QYP]at hd;obtain⟨x,h1,rfl⟩:=QXv.1 hd;by_cases hi:i<len
      ·rw[QXV hi];exact(hF i hi).2.2.2.2.2.2 x h1
      ·rw[QXG hi];exact QXA _) n hn
     have h1:=hw len (by rw[QYn];omega);rw[QX0 (by rw[QYn];omega)]at h1;have h2:(List.range len).map (fun i=>if i<len then(F i).2 else [])=(List.range len).map fun i=>(F i).2:=by
      refine List.map_congr_left fun i hi=>?_
      rw[QXV (QYY.1 hi)]
     rw[h2]at h1;rw[JG,JG,wt,Rows.uptoBulk];omega
    refine⟨[.list (((List.range len).map fun i=>(F i).2).map Xw)],?_,.cons (.list (cs:=((List.range len).map fun i=>(F i).1.1).flatten) (sz:=P.cellsOf e) ?_ ?_ ?_ ?_ ?_ (by simp) hl (by omega)) .nil,by simp[h1],rfl,rfl,hwt⟩
    ·simp only[Q8,hu];refine⟨_,rfl,⟨by simp;omega,fun hM=>by simpa using hlenB hM⟩,?_,by simpa using hlenM⟩;intro c hc;obtain⟨i,hi,rfl⟩:=hel' c hc;exact(hF i hi).2.1
    ·rw[hflat _ hl1];refine Uo (by simp) fun i g1 g2=>?_
     simp only[QYn,List.length_range]at g1;simp only[List.getElem_map,List.getElem_range];exact(hF i (by omega)).2.2.1
    ·intro x hx;obtain⟨c,hc,rfl⟩:=QYM.1 hx;rw[Hl (hl1 c hc)];obtain⟨i,hi,rfl⟩:=hel' c hc;exact(hF i hi).2.2.2.1
    ·rw[hflat _ hl1];exact hrf _ hl2
    ·rw[hflat _ hl1];exact hlf _ hl1
    ·intro j u hj;rw[←List.flatMap_def,Hk h0 (fun i=>(F i).1.2)]at hj;by_cases hi:j / P.cellsOf e<len
     ·rw[List.getElem?_range hi]at hj;have hj:(F (j / P.cellsOf e)).1.1[j % P.cellsOf e]? = some u:=hj;have hk:=cellAt (j / P.cellsOf e) (j % P.cellsOf e) (by omega) (Nat.mod_lt _ h0);rw[hj,Nat.div_add_mod']at hk;have hs:=hspot (Nat.lt_of_le_of_lt (QXA _) hi);obtain⟨b,o,s⟩:=a;subst hs;refine⟨b,o,rfl,?_⟩;refine UP ?_;show W.cell? ⟨b,o+j,none⟩=some u;rw[←hk];unfold Addr.add;split
      ·rename_i h;rw[h];rfl
      ·rfl
     ·rw[QYQ (by simp;omega)]at hj;cases hj
  ·cases hp

theorem Gz {t:TypeId}{v:Value}{d:DataW H}{p:List MemPlace}(hl:laidOutB P=true)(hr:P.readableRec t=true)(hrow:t<P.types.size)(h:DataW.Trod XT P W 0 (fun _=>true) true t v d p) :
  ∀(W':World) (sp:Nat→Bool),Below W.heap.size W W'→(∀q∈p,sp q.block=true)→DataW.Trod XT P W' 0 sp true t v d p:=by
 intro W' sp hb hs;obtain⟨n,hn⟩:=h;exact Trod_stays hl hr hrow ⟨n,hn⟩ (fun x hx=>hb.same (DataW.trod_lt n _ _ _ hn x hx)) hs

theorem Hn {t:TypeId}{fs:Array Field}{ts:List TypeId}{r:Reach}{b0:Nat}{v:Value}{d:DataW H}{p:List MemPlace}(hP:Ph P ts=true)(ht:ts.contains t=true)(hs:P.underlying t=some (.struct fs))(hv:Value.okWide P W r b0 t v)
  (h:DataW.Trod XT P W 0 (fun _=>true) true t v d p) (hb:Tv P M t d):∃k avs,Q8 P M k t avs∧Rep (Gh.bare fun b o=>sv W b o) (.agg avs) v:=by
 obtain⟨⟨cs⟩,rfl,_⟩:=okWide_struct hs hv;obtain⟨n,hn⟩:=h;obtain⟨avs,h1,h2,_⟩:=Uq hP n t _ _ _ ht hn hb;exact⟨n,avs,h1,.agg h2⟩
theorem Zt {X:Type}{f:X→List AV}{ok:X→Prop}:∀ {l:List (List AV)},(∀c∈l,∃x,ok x∧c=f x)→∃xs:List X,l=xs.map f∧∀x∈xs,ok x
 | [],_=>⟨[],rfl,by simp⟩
 |c :: l,h=>by
  obtain⟨x,hx,rfl⟩:=h c (by simp);obtain⟨xs,rfl,hxs⟩:=Zt (l:=l) fun c hc=>h c (by simp[hc])
  exact⟨x :: xs,rfl,by simpa using ⟨hx,hxs⟩⟩

end

end Go.Proofs.YtipjfckmopekaaaGreatDoor.Br

namespace Go.Proofs.YtipjfckmopekaaaGreatDoor.Br
open Go Am

section
variable {P:Program}{M k:Nat}{t:TypeId}{cs:List AV}

theorem Xx {ik:IntKind}(hu:P.underlying t=some (.int ik))(h:Q8 P M k t cs):∃n,cs=[.int ik n]∧(Lit.int ik n).wf=true:=by
 cases k with
 |zero=>cases h
 |succ k=>simpa only [Q8,hu]using h

theorem RF (hu:P.underlying t=some .bool)(h:Q8 P M k t cs):∃b,cs=[.bool b]:=by
 cases k with
 |zero=>cases h
 |succ k=>simpa only [Q8,hu]using h

theorem Jz (hu:P.underlying t=some .string)(h:Q8 P M k t cs):∃s,cs=[.str s]∧s.length≤M:=by
 cases k with
 |zero=>cases h
 |succ k=>simpa only [Q8,hu]using h

theorem Jn {e:TypeId}(hu:P.underlying t=some (.slice e))(h:Q8 P M k t cs):∃(k':Nat) (l:List (List AV)),cs=[.list (l.map Xw)]∧l.length≤maxLen∧∀c∈l,Q8 P M k' e c:=by
 cases k with
 |zero=>cases h
 |succ k=>
  simp only[Q8,hu]at h;obtain⟨l,h1,h2,h3,_⟩:=h;exact⟨k,l,h1,h2.1,h3⟩

theorem Wh {e:TypeId}(hu:P.underlying t=some (.slice e))(h:Q8 P M k t cs):∃(k':Nat) (l:List (List AV)),cs=[.list (l.map Xw)]∧l.length≤M∧∀c∈l,Q8 P M k' e c:=by
 cases k with
 |zero=>cases h
 |succ k=>
  simp only[Q8,hu]at h;obtain⟨l,h1,_,h3,h4⟩:=h;exact⟨k,l,h1,h4,h3⟩

theorem Zc {fs:Array Field}(hu:P.underlying t=some (.struct fs))(h:Q8 P M k t cs):∃k',Q8.HasL (Q8 P M k') fs.toList cs:=by
 cases k with
 |zero=>cases h
 |succ k=>
  simp only[Q8,hu]at h;exact⟨k,h⟩

end

structure PO where
 num:Int
 name:List UInt8
 alias:List UInt8
 card:Int
 key:Int
 kind:Int
 target:Int
 union:Int

def PO.cells (o:PO):List AV:=[.int .i64 o.num,.str o.name,.str o.alias,.int .i64 o.card,.int .i64 o.key,.int .i64 o.kind,.int .i64 o.target,.int .i64 o.union]

structure PO.ok (M:Nat)(o:PO):Prop where
 num:(Lit.int .i64 o.num).wf=true
 name:o.name.length≤M
 alias:o.alias.length≤M
 card:(Lit.int .i64 o.card).wf=true
 key:(Lit.int .i64 o.key).wf=true
 kind:(Lit.int .i64 o.kind).wf=true
 target:(Lit.int .i64 o.target).wf=true
 union:(Lit.int .i64 o.union).wf=true

theorem Qwz {M k:Nat}{cs:List AV}(h:Q8 Tryz.prog M k 68 cs):∃o:PO,o.ok M∧cs=o.cells:=by
 obtain⟨k,h⟩:=Zc Tryz.underlying68 h;simp only[Q8.HasL]at h;obtain⟨_,_,rfl,h0,_,_,rfl,h1,_,_,rfl,h2,_,_,rfl,h3,_,_,rfl,h4,_,_,rfl,h5,_,_,rfl,h6,_,_,rfl,h7,rfl⟩:=h;obtain⟨a0,rfl,w0⟩:=Xx Tryz.underlying3 h0;obtain⟨a1,rfl,w1⟩:=Jz Tryz.underlying9 h1;obtain⟨a2,rfl,w2⟩:=Jz Tryz.underlying9 h2;obtain⟨a3,rfl,w3⟩:=Xx Tryz.underlying3 h3;obtain⟨a4,rfl,w4⟩:=Xx Tryz.underlying3 h4;obtain⟨a5,rfl,w5⟩:=Xx Tryz.underlying3 h5;obtain⟨a6,rfl,w6⟩:=Xx Tryz.underlying3 h6;obtain⟨a7,rfl,w7⟩:=Xx Tryz.underlying3 h7;exact⟨⟨a0,a1,a2,a3,a4,a5,a6,a7⟩,⟨w0,w1,w2,w3,w4,w5,w6,w7⟩,rfl⟩

structure PG where
 name:List UInt8
 ops:List PO
 unions:Int

def PG.cells (g:PG):List AV:=[.str g.name,.list (g.ops.map fun o=>.agg o.cells),.int .i64 g.unions]

structure PG.ok (M:Nat)(g:PG):Prop where
 name:g.name.length≤M
 len:g.ops.length≤maxLen
 ops:∀o∈g.ops,o.ok M
 unions:(Lit.int .i64 g.unions).wf=true

theorem RG {M k:Nat}{cs:List AV}(h:Q8 Tryz.prog M k 73 cs):∃g:PG,g.ok M∧cs=g.cells:=by
 obtain⟨k,h⟩:=Zc Tryz.underlying73 h;simp only[Q8.HasL]at h;obtain⟨_,_,rfl,h0,_,_,rfl,h1,_,_,rfl,h2,rfl⟩:=h;obtain⟨a0,rfl,w0⟩:=Jz Tryz.underlying9 h0;obtain⟨k',l,rfl,w1,hl⟩:=Jn Tryz.underlying71 h1;obtain⟨a2,rfl,w2⟩:=Xx Tryz.underlying3 h2;obtain⟨ops,rfl,hok⟩:=Zt (f:=PO.cells) (ok:=PO.ok M) fun c hc=>Qwz (hl c hc)
 refine⟨⟨a0,ops,a2⟩,⟨w0,by simpa using w1,hok,w2⟩,?_⟩;simp only[PG.cells,QZc,QXO,QXP];rfl

structure PS where
 lo:Int
 hi:Int

def PS.cells (x:PS):List AV:=[.int .i64 x.lo,.int .i64 x.hi]
def PS.ok (x:PS):Prop:=(Lit.int .i64 x.lo).wf=true∧(Lit.int .i64 x.hi).wf=true

theorem RH {M k:Nat}{cs:List AV}(h:Q8 Tryz.prog M k 111 cs):∃x:PS,x.ok∧cs=x.cells:=by
 obtain⟨k,h⟩:=Zc Tryz.underlying111 h;simp only[Q8.HasL]at h;obtain⟨_,_,rfl,h0,_,_,rfl,h1,rfl⟩:=h;obtain⟨a0,rfl,w0⟩:=Xx Tryz.underlying3 h0;obtain⟨a1,rfl,w1⟩:=Xx Tryz.underlying3 h1;exact⟨⟨a0,a1⟩,⟨w0,w1⟩,rfl⟩

structure PN where
 name:List UInt8
 val:List AV

def PN.cells (x:PN):List AV:=.str x.name :: x.val
def PN.ok (P:Program)(M:Nat)(t:TypeId)(x:PN):Prop:=x.name.length≤M∧∃k,Q8 P M k t x.val

theorem Bu {M k:Nat}{cs:List AV}(h:Q8 Tryz.prog M k 87 cs):∃x:PN,x.ok Tryz.prog M 32∧cs=x.cells:=by
 obtain⟨k,h⟩:=Zc Tryz.underlying87 h;simp only[Q8.HasL]at h;obtain⟨_,_,rfl,h0,a1,_,rfl,h1,rfl⟩:=h;obtain⟨a0,rfl,w0⟩:=Jz Tryz.underlying9 h0;exact⟨⟨a0,a1⟩,⟨w0,k,h1⟩,by simp[PN.cells]⟩

structure PI where
 name:List UInt8
 num:Int
 notes:List PN

def PI.cells (x:PI):List AV:=[.str x.name,.int .i64 x.num,.list (x.notes.map fun n=>Xw n.cells)]

structure PI.ok (M:Nat)(x:PI):Prop where
 name:x.name.length≤M
 num:(Lit.int .i64 x.num).wf=true
 len:x.notes.length≤maxLen
 notes:∀n∈x.notes,n.ok Tryz.prog M 32

theorem RI {M k:Nat}{cs:List AV}(h:Q8 Tryz.prog M k 85 cs):∃x:PI,x.ok M∧cs=x.cells:=by
 obtain⟨k,h⟩:=Zc Tryz.underlying85 h;simp only[Q8.HasL]at h;obtain⟨_,_,rfl,h0,_,_,rfl,h1,_,_,rfl,h2,rfl⟩:=h;obtain⟨a0,rfl,w0⟩:=Jz Tryz.underlying9 h0;obtain⟨a1,rfl,w1⟩:=Xx Tryz.underlying3 h1;obtain⟨k',l,rfl,w2,hl⟩:=Jn Tryz.underlying81 h2;obtain⟨ns,rfl,hok⟩:=Zt (f:=PN.cells) (ok:=PN.ok Tryz.prog M 32) fun c hc=>Bu (hl c hc)
 refine⟨⟨a0,a1,ns⟩,⟨w0,w1,by simpa using w2,hok⟩,?_⟩;simp only[PI.cells,QZc,QXO,QXP];rfl

structure PE where
 name:List UInt8
 opn:Bool
 items:List PI
 free:List PS
 notes:List PN

def PE.cells (x:PE):List AV:=[.str x.name,.bool x.opn,.list (x.items.map fun n=>.agg n.cells),.list (x.free.map fun n=>.agg n.cells),.list (x.notes.map fun n=>Xw n.cells)]

structure PE.ok (M:Nat)(x:PE):Prop where
 name:x.name.length≤M
 len1:x.items.length≤maxLen
 items:∀n∈x.items,n.ok M
 len2:x.free.length≤maxLen
 free:∀n∈x.free,n.ok
 len3:x.notes.length≤maxLen
 notes:∀n∈x.notes,n.ok Tryz.prog M 32

theorem RJ {M k:Nat}{cs:List AV}(h:Q8 Tryz.prog M k 83 cs):∃x:PE,x.ok M∧cs=x.cells:=by
 obtain⟨k,h⟩:=Zc Tryz.underlying83 h;simp only[Q8.HasL]at h;obtain⟨_,_,rfl,h0,_,_,rfl,h1,_,_,rfl,h2,_,_,rfl,h3,_,_,rfl,h4,rfl⟩:=h;obtain⟨a0,rfl,w0⟩:=Jz Tryz.underlying9 h0;obtain⟨a1,rfl⟩:=RF Tryz.underlying4 h1;obtain⟨k2,l2,rfl,w2,hl2⟩:=Jn Tryz.underlying79 h2;obtain⟨k3,l3,rfl,w3,hl3⟩:=Jn Tryz.underlying80 h3;obtain⟨k4,l4,rfl,w4,hl4⟩:=Jn Tryz.underlying81 h4;obtain⟨x2,rfl,o2⟩:=Zt (f:=PI.cells) (ok:=PI.ok M) fun c hc=>RI (hl2 c hc)
 obtain⟨x3,rfl,o3⟩:=Zt (f:=PS.cells) (ok:=PS.ok) fun c hc=>RH (hl3 c hc)
 obtain⟨x4,rfl,o4⟩:=Zt (f:=PN.cells) (ok:=PN.ok Tryz.prog M 32) fun c hc=>Bu (hl4 c hc)
 refine⟨⟨a0,a1,x2,x3,x4⟩,⟨w0,by simpa using w2,o2,by simpa using w3,o3,by simpa using w4,o4⟩,?_⟩;simp only[PE.cells,QZc,QXO,QXP];rfl

structure PL where
 progs:List PG
 enums:List PE

def PL.av (p:PL):AV:=.agg [.list (p.progs.map fun n=>.agg n.cells),.list (p.enums.map fun n=>.agg n.cells)]

structure PL.ok (M:Nat)(x:PL):Prop where
 len1:x.progs.length≤maxLen
 progs:∀n∈x.progs,n.ok M
 len2:x.enums.length≤maxLen
 enums:∀n∈x.enums,n.ok M

theorem RK {M k:Nat}{cs:List AV}(h:Q8 Tryz.prog M k 25 cs):∃x:PL,x.ok M∧.agg cs=x.av:=by
 obtain⟨k,h⟩:=Zc Tryz.underlying25 h;simp only[Q8.HasL]at h;obtain⟨_,_,rfl,h0,_,_,rfl,h1,rfl⟩:=h;obtain⟨k2,l2,rfl,w2,hl2⟩:=Jn Tryz.underlying22 h0;obtain⟨k3,l3,rfl,w3,hl3⟩:=Jn Tryz.underlying23 h1;obtain⟨x2,rfl,o2⟩:=Zt (f:=PG.cells) (ok:=PG.ok M) fun c hc=>RG (hl2 c hc)
 obtain⟨x3,rfl,o3⟩:=Zt (f:=PE.cells) (ok:=PE.ok M) fun c hc=>RJ (hl3 c hc)
 refine⟨⟨x2,x3⟩,⟨by simpa using w2,o2,by simpa using w3,o3⟩,?_⟩;simp only[PL.av,QZc,QXO,QXP];rfl

end Go.Proofs.YtipjfckmopekaaaGreatDoor.Br

namespace Go.Proofs.YtipjfckmopekaaaGreatDoor.Va
open Go Am Rc Bt Br

def QU {α:Type}(p:α→Bool):List α→Nat→Int
 | [],_=>-1
 |x :: l,i=>if p x=true then(i:Int)else QU p l (i+1)

theorem Wx {α:Type}(p:α→Bool):∀(l:List α) (i:Nat),(QU p l i = -1∧l.find? p=none)∨∃k o,QU p l i=((i+k:Nat):Int)∧l[k]? = some o∧l.find? p=some o
 | [],_=>.inl ⟨rfl,rfl⟩
 |x :: l,i=>by
  unfold QU;rw[List.find?_cons];cases h:p x with
  |true=>exact .inr ⟨0,x,by simp,rfl,rfl⟩
  |false=>
   simp only[QXL,if_false];rcases Wx p l (i+1)with h'|⟨k,o,h1,h2,h3⟩
   ·exact .inl h'
   ·exact .inr ⟨k+1,o,by rw[h1];congr 1;omega,by simpa using h2,h3⟩

theorem XV {α:Type}(p:α→Bool){l:List α}{i:Nat}{x:α}(hx:l[i]? = some x):QU p (l.drop i) i=if p x=true then(i:Int)else QU p (l.drop (i+1)) (i+1):=by
 have hlt:i<l.length:=(QXs.1 hx).1;rw[QYa hlt,show l[i]=x from(QXs.1 hx).2];rfl

def Qr (o:PO):AV:=.agg o.cells
def Qh (g:PG):AV:=.agg g.cells
def Q4 (x:PI):AV:=.agg x.cells
def Qq (x:PE):AV:=.agg x.cells

section ops
variable (L:List PO)(hl:L.length≤maxLen)(p:PO→Bool)(c:Nat)(cap:AV)(m:Qo)

def IxO (k:Nat)(st:St):Prop :=
 ∃f i,st=⟨f,Qc :: m,[]⟩∧k=L.length-i∧QU p L 0=QU p (L.drop i) i∧f 0=.list (L.map Qr)∧f 1=.fn (.func c) [] [cap.sh]∧f 7=.int .i64 (L.length:Nat)∧f 8=.int .i64 (i:Nat)

include hl in
theorem QPS (hc:∀o∈L,Qg Tryz.prog c [Qr o,cap.sh] (Qc :: m) fun y m1=>y=.bool (p o)∧m1=Qc :: m) :
  Qg Tryz.prog 195 [.list (L.map Qr),.fn (.func c) [] [cap]] m fun y m1=>y=.int .i64 (QU p L 0)∧m1=m:=by
 refine Ru.go (by simp) ?_;simp only[QYn,Qa,seval];refine Qd (IxO L p c cap m) _ ⟨_,0,rfl,rfl,rfl,(by rfl),(by rfl),(by rfl),(by rfl)⟩ ?_;rintro _ st ⟨f,i,rfl,rfl,hx,h0,h1,h7,h8⟩;simp only[h7,h8,Qa,seval];by_cases hlt:i<L.length
 ·obtain⟨x,hi⟩:∃x,L[i]? = some x:=⟨L[i],QXt hlt⟩;have hcl:=hc x (QXF hi);have hg:(L.map Qr)[i]? = some (Qr x):=by simp[hi]
  have e1:=Ql i _ hlt hl;simp only[Qr,PO.cells]at hcl;simp only[Qm hlt,Qi,QYT,Qb,hg,Qr,PO.cells,h0,h1,h8,eE,seval];refine Xf (fa:=[]) (fb:=[cap.sh]) (by rfl) hcl (by simp only[QXY,QYt,QXP,QXO,Qa,seval]) ?_;rw[XV p hi]at hx;cases hp:p x
  ·rw[hp]at hx;simp only[QXL,if_false]at hx;simp only[h8,e1,Qa,seval];exact⟨L.length-(i+1),by omega,_,i+1,rfl,rfl,hx,(by exact h0),(by exact h1),(by exact h7),(by rfl)⟩
  ·rw[hp]at hx;simp only[if_true]at hx;simp only[hx,Qa,seval]
 ·have hx':QU p L 0 = -1:=by rw[hx,QX3 (by omega)];rfl
  simp only[Qw hlt,hx',Qa,seval]

end ops

def WW:PO:=⟨0,[],[],0,0,0,0,0⟩
def GA (p:PO→Bool)(L:List PO):AV:=.tup [Qr ((L.find? p).getD WW),.bool (L.find? p).isSome]

theorem QPT (g:PG)(hl:g.ops.length≤maxLen)(p:PO→Bool)(c:Nat)(cap:AV)(m:Qo)(hc:∀fr,∀o∈g.ops,Qg Tryz.prog c [Qr o,cap.sh.sh] (Qc :: fr :: m) fun y m1=>y=.bool (p o)∧m1=Qc :: fr :: m) :
  Qg Tryz.prog 117 [.agg [.fn (.func c) [] [cap]],Qh g] m fun y m1=>y=GA p g.ops∧m1=m:=by
 refine Qdv.go (by simp) ?_;simp only[Qh,PG.cells,eE,seval];refine Qj (QPS g.ops hl p c cap.sh _ fun o ho=>hc _ o ho) (by simp only[QXY,QYt,Qa,seval];rfl) ?_;rcases Wx p g.ops 0 with⟨h1,h2⟩|⟨j,o,h1,h2,h3⟩
 ·simp only[h1,GA,h2,QY0,QYh,WW,Qr,PO.cells,splice,QYA,QXP,QX2,QX9,QYG,QYv,QXH,QYo,QYD,QYE,AV.leaf,eE,seval]
 ·have hj:(g.ops.map fun o=>AV.agg o.cells)[j]? = some (.agg o.cells):=by simp[h2]
  have d:decide ((j:Int)<0)=false:=QZd (by omega);rw[QX8]at h1;simp only[PO.cells]at hj;simp only[h1,d,Qi,QYT,Qb,QX8,hj,GA,h3,QYC,QZe,Qr,PO.cells,splice,QYA,QXP,QX2,QX9,QYG,QYv,QXH,QYo,QYD,QYE,AV.leaf,eE,seval]

section
variable (o:PO)(fr frO:Nat→Ob)

theorem QPU (n:Int)(hf:frO 3=.cells [.int .i64 n]):Qg Tryz.prog 116 [Qr o,.ptr 2 3 0] [Qc,fr,frO] fun y m1=>y=.bool (o.num==n)∧m1=[Qc,fr,frO]:=by
 refine Qdn.go (by simp) ?_;simp only[hf,Qr,PO.cells,eE,seval]

end

theorem Tw (g:PG)(hl:g.ops.length≤maxLen)(n:Int):Qk Tryz.prog 72 [Qh g,.int .i64 n] (GA (fun o=>o.num==n) g.ops):=by
 refine k72.fn (by simp) ?_;simp only[Qh,PG.cells,eE,seval];refine Qj (QPT g hl (fun o=>o.num==n) 116 (.ptr 0 3 0) _ fun fr o _=>QPU o fr _ n (by rfl)) (by simp only[QXY,QYt,Qh,PG.cells,Qa,seval]) ?_;simp only[GA,Qr,PO.cells,splice,QYA,QXP,QX2,QX9,QYG,QYv,QXH,QYo,QYD,QYE,AV.leaf,eE,seval]

def QB (p:Nat→Bool):Nat→Bool
 |0=>true
 |n+1=>QB p n&&p n

theorem QL {p:Nat→Bool}{n:Nat}:QB p n=true↔∀i,i<n→p i=true:=by
 induction n with
 |zero=>simp[QB]
 |succ n ih=>
  simp only[QB,QXQ,ih]
  constructor
  ·rintro⟨h1,h2⟩ i hi;rcases Nat.lt_succ_iff_lt_or_eq.1 hi with h|rfl
   ·exact h1 i h
   ·exact h2
  ·intro h;exact⟨fun i hi=>h i (by omega),h n (by omega)⟩

theorem Cb {p:Nat→Bool}{n i:Nat}(hi:i<n)(h:p i=false):QB p n=false:=by
 rw[QZf];intro h';rw[QL.1 h' i hi]at h;cases h

theorem HD {p q:Nat→Bool}{n:Nat}:QB (fun i=>p i&&q i) n=(QB p n&&QB q n):=by
 induction n with
 |zero=>rfl
 |succ n ih=>
  simp only[QB,ih];cases QB p n<;>cases QB q n<;>cases p n<;>cases q n<;>rfl

def Ho {α:Type}(l:List α)(q:α→Bool)(i:Nat):Bool:=match l[i]? with
 |some x=>q x
 |none=>true

theorem Yk {α:Type}{l:List α}{q:α→Bool}{i:Nat}{x:α}(h:l[i]? = some x):Ho l q i=q x:=by
 unfold Ho;rw[h]

theorem HE {α:Type}(l:List α)(q:α→Bool):QB (Ho l q) l.length=l.all q:=by
 rw[QYm,QL,QXE]
 constructor
 ·intro h x hx;obtain⟨i,hi⟩:=QXD.1 hx;have:=h i (QXs.1 hi).1
  rwa [Yk hi]at this
 ·intro h i hi;rw[Yk (QXt hi)];exact h _ (QYk _)

def Xg {α:Type}(l:List α)(lt:α→α→Bool)(i:Nat):Bool:=match i with
 |0=>true
 |k+1=>match l[k]?,l[k+1]? with
  |some x,some y=>lt x y
  |_,_=>true

theorem Jo {α:Type}{l:List α}{lt:α→α→Bool}{k:Nat}{x y:α}(h:l[k]? = some x)(h':l[k+1]? = some y):Xg l lt (k+1)=lt x y:=by
 unfold Xg;simp only[h,h']
theorem YF {α:Type}{l:List α}{lt:α→α→Bool}:Xg l lt 0=true:=rfl

def XW {α:Type}(l:List α)(lt:α→α→Bool):Bool:=QB (Xg l lt) l.length

def uniq {α:Type}(l:List α)(nm:α→List UInt8)(i:Nat):Bool:=match l[i]? with
 |some x=>(l.take i).all fun y=>!(nm y==nm x)
 |none=>true
theorem UU {α:Type}{l:List α}{nm:α→List UInt8}{i:Nat}{x:α}(h:l[i]? = some x):uniq l nm i=(l.take i).all fun y=>!(nm y==nm x):=by
 unfold uniq;rw[h]
def Kv {α:Type}(l:List α)(nm:α→List UInt8):Bool:=QB (uniq l nm) l.length

theorem Q6 {α:Type}{l:List α}{q:α→Bool}{i:Nat}{x:α}(h:l[i]? = some x):(l.take (i+1)).all q=((l.take i).all q&&q x):=by
 rw[QZa,h];simp
theorem RL {α:Type}{l:List α}{q:α→Bool}{i:Nat}{x:α}(h:l[i]? = some x):(l.take (i+1)).any q=((l.take i).any q||q x):=by
 rw[QZa,h];simp
theorem Dr {α:Type}{l:List α}{q:α→Bool}:(l.all fun x=>!q x)=!l.any q:=by
 induction l with
 |nil=>rfl
 |cons x l ih=>simp[ih]

def JH (c:UInt8):Bool:=(decide (97≤c.toNat)&&decide (c.toNat≤122))||(decide (65≤c.toNat)&&decide (c.toNat≤90))
def Je (c:UInt8):Bool:=JH c||c.toNat==95||(decide (48≤c.toNat)&&decide (c.toNat≤57))
def QY:List UInt8→Bool
 | []=>false
 |c :: t=>decide ((c :: t).length≤40)&&JH c&&t.all Je
def YG:List (List UInt8):=[[109,101,115,115,97,103,101],[101,110,117,109],[115,101,114,118,105,99,101],[117,110,105,111,110],[109,97,112],[108,105,115,116],[114,101,113,117,105,114,101,100],[111,112,116,105,111,110,97,108],[112,108,97,105,110],[100,101,102,97,117,108,116],[114,101,115,101,114,118,101,100],
 [105,109,112,111,114,116],[115,112,97,99,101],[114,112,99],[115,116,114,101,97,109],[114,101,116,117,114,110,115],[111,112,101,110],[116,114,117,101],[102,97,108,115,101],[110,97,110],[105,110,102]]
def Zh (s:List UInt8):Bool:=YG.any fun w=>s==w
def XM (s:List UInt8):Bool:=QY s && !Zh s
def Qp:List UInt8→List (List UInt8)
 | []=>[[]]
 |c :: t=>if c=46 then [] :: Qp t else match Qp t with
  | []=>[[c]]
  |p :: ps=>(c :: p) :: ps
def Ke (s:List UInt8):Bool:=decide (s.length≤120)&&(Qp s).all QY && !(Qp s).any Zh

theorem Kw:∀s:List UInt8,Qp s≠[]
 | []=>by simp[Qp]
 |c :: t=>by
  unfold Qp;split
  ·simp
  ·split<;>simp

theorem D6 (a:List UInt8):∀s:List UInt8,(∀c∈a,c≠46)→Qp (a++s)=match Qp s with
  | []=>[a]
  |p :: ps=>(a++p) :: ps:=by
 induction a with
 |nil=>intro s _;cases h:Qp s with
  |nil=>exact absurd h (Kw s)
  |cons p ps=>simp[h]
 |cons c a ih=>
  intro s h;have hc:c≠46:=h c (by simp);rw[QXO,Qp,QXG hc,ih s fun x hx=>h x (by simp[hx])];cases hs:Qp s with
  |nil=>exact absurd hs (Kw s)
  |cons p ps=>rfl

theorem WX {s:List UInt8}(h:∀c∈s,c≠46):Qp s=[s]:=by
 have:=D6 s [] h
 simpa [Qp]using this

theorem GB {a t:List UInt8}(h:∀c∈a,c≠46):Qp (a++46 :: t)=a :: Qp t:=by
 rw[D6 a _ h,Qp,QXV rfl];simp

theorem GC {a t:List UInt8}(h:∀c∈t,c≠46):Qp (a++46 :: t)=Qp a++[t]:=by
 induction a with
 |nil=>
  show Qp (46 :: t)=[[]]++[t];rw[show Qp (46 :: t)=[] :: Qp t from by rw[Qp,QXV rfl],WX h];rfl
 |cons c a ih=>
  rw[QXO,Qp,Qp,ih];split
  ·rfl
  ·cases hs:Qp a with
   |nil=>exact absurd hs (Kw a)
   |cons p ps=>rfl

theorem Ur (s:List UInt8):(Qp s).length=s.count 46+1:=by
 induction s with
 |nil=>rfl
 |cons c t ih=>
  unfold Qp;split
  ·rename_i h;subst h;simp[ih]
  ·rename_i h;rw[List.count_cons_of_ne (by simpa using h)];cases hs:Qp t with
   |nil=>exact absurd hs (Kw t)
   |cons p ps=>rw[hs]at ih;simpa using ih

def Ja (g:PG):Bool:=decide (g.ops.length≤64)
def JD (e:PE):Bool:=decide (1≤e.items.length)&&decide (e.items.length≤64)&&decide (e.free.length≤16)
def Hp (P:PL):Bool:=decide (P.progs.length≤64)&&decide (P.enums.length≤64)&&P.progs.all Ja&&P.enums.all JD
def Kx (g:PG):Bool:=Ke g.name&&g.ops.all fun o=>XM o.name
def KY (e:PE):Bool:=Ke e.name&&e.items.all fun o=>XM o.name
def Bv (P:PL):Bool:=P.progs.all Kx&&P.enums.all KY
def Zd {α:Type}(f:α→Int)(x y:α):Bool:=decide (f x<f y)
def XN {α:Type}(f:α→List UInt8)(x y:α):Bool:=Op.bytesLess (f x) (f y)
def Jp (g:PG):Bool:=XW g.ops (Zd PO.num)
def JP (e:PE):Bool:=XW e.items (Zd PI.num)
def Hq (P:PL):Bool:=XW P.progs (XN PG.name)&&XW P.enums (XN PE.name)&&P.progs.all Jp&&P.enums.all JP
def Ky (P:PL)(g:PG):Bool:=(P.enums.all fun e=>!(e.name==g.name))&&Kv g.ops PO.name
def Wy (e:PE):Bool:=Kv e.items PI.name
def Bw (P:PL):Bool:=P.progs.all (Ky P)&&P.enums.all Wy
def Zq (o:PO):Bool:=decide (o.num≥1)&&decide (o.num≤65535)
def GD (x:PS):Bool:=decide (x.lo≥0)&&decide (x.hi≤2147483647)&&decide (x.lo≤x.hi)
def Uc (x y:PS):Bool:=decide (y.lo > x.hi)
def kept (l:List PS)(n:Int):Bool:=l.any fun x=>decide (x.lo≤n)&&decide (n≤x.hi)
def Ya (e:PE)(x:PI):Bool:=decide (x.num≤2147483647) && !kept e.free x.num
def Us (e:PE):Bool:=match e.items with
 | []=>true
 |x :: _=>x.num==0
def Jq (e:PE):Bool:=e.free.all GD&&XW e.free Uc&&Us e&&e.items.all (Ya e)
def Bx (P:PL):Bool:=P.progs.all (fun g=>g.ops.all Zq)&&P.enums.all Jq

def X8 (x:PS):AV:=.agg x.cells
def Zn (x:List UInt8):AV:=.str x

theorem JQ {α:Type}(p:α→Bool)(l:List α):decide (QU p l 0≥0)=l.any p:=by
 rcases Wx p l 0 with⟨h1,h2⟩|⟨k,o,h1,_,h3⟩
 ·rw[h1];have:l.any p=false:=by
   rw[List.any_eq_false];intro x hx;exact fun h=>by have:=List.find?_eq_none.1 h2 x hx;exact this h
  rw[this];rfl
 ·rw[h1];have:l.any p=true:=QZg.2 ⟨o,QZh h3,List.find?_some h3⟩;rw[this];exact QZi (by omega)

theorem Wz (k n:Nat)(h:k+1<n)(hn:n≤maxLen):IntKind.i64.wrap (((k+1:Nat):Int)-1)=(k:Int):=by
 rw[QE];simp only[maxLen]at hn;omega

section
variable (L:List PG)(hl:L.length≤maxLen)(p:PG→Bool)(c:Nat)(cs:List AV)(m:Qo)

def JxG (k:Nat)(st:St):Prop :=
 ∃f i,st=⟨f,Qc :: m,[]⟩∧k=L.length-i∧QU p L 0=QU p (L.drop i) i∧f 0=.list (L.map Qh)∧f 1=.fn (.func c) [] (AV.shL cs)∧f 7=.int .i64 (L.length:Nat)∧f 8=.int .i64 (i:Nat)

include hl in
theorem z52 (hc:∀o∈L,Qg Tryz.prog c (Qh o :: AV.shL cs) (Qc :: m) fun y m1=>y=.bool (p o)∧m1=Qc :: m) :
  Qg Tryz.prog 52 [.list (L.map Qh),.fn (.func c) [] cs] m fun y m1=>y=.int .i64 (QU p L 0)∧m1=m:=by
 refine k52.go (by simp) ?_;simp only[QYn,Qa,seval];refine Qd (JxG L p c cs m) _ ⟨_,0,rfl,rfl,rfl,(by rfl),(by rfl),(by rfl),(by rfl)⟩ ?_;rintro _ st ⟨f,i,rfl,rfl,hx,h0,h1,h7,h8⟩;simp only[h7,h8,Qa,seval];by_cases hlt:i<L.length
 ·obtain⟨x,hi⟩:∃x,L[i]? = some x:=⟨L[i],QXt hlt⟩;have hcl:=hc x (QXF hi);have hg:(L.map Qh)[i]? = some (Qh x):=by simp[hi]
  have e1:=Ql i _ hlt hl;simp only[Qh,PG.cells]at hcl;simp only[Qm hlt,Qi,QYT,Qb,hg,Qh,PG.cells,h0,h1,h8,eE,seval];refine Xf (fa:=[]) (fb:=AV.shL cs) (by rfl) hcl (by simp only[QXY,QYt,QXP,QXO,Qa,seval]) ?_;rw[XV p hi]at hx;cases hp:p x
  ·rw[hp]at hx;simp only[QXL,if_false]at hx;simp only[h8,e1,Qa,seval];exact⟨L.length-(i+1),by omega,_,i+1,rfl,rfl,hx,(by exact h0),(by exact h1),(by exact h7),(by rfl)⟩
  ·rw[hp]at hx;simp only[if_true]at hx;simp only[hx,Qa,seval]
 ·have hx':QU p L 0 = -1:=by rw[hx,QX3 (by omega)];rfl
  simp only[Qw hlt,hx',Qa,seval]

include hl in
theorem QPV (hc:∀o∈L,Qg Tryz.prog c (Qh o :: AV.shL (AV.shL cs)) (Qc :: Qc :: m) fun y m1=>y=.bool (p o)∧m1=Qc :: Qc :: m) :
  Qg Tryz.prog 203 [.list (L.map Qh),.fn (.func c) [] cs] m fun y m1=>y=.bool (L.any p)∧m1=m:=by
 refine Qix.go (by simp) ?_;simp only[Qa,seval];refine Qj (z52 L hl p c (AV.shL cs) _ hc) (by simp only[QXY,QYt,Qa,seval]<;>rfl) ?_;simp only[JQ,Qa,seval]

include hl in
theorem Ds (hc:∀o∈L,Qg Tryz.prog c (Qh o :: AV.shL (AV.shL (AV.shL cs))) (Qc :: Qc :: Qc :: m) fun y m1=>y=.bool (p o)∧m1=Qc :: Qc :: Qc :: m) :
  Qg Tryz.prog 133 [.list (L.map Qh),.fn (.func c) [] cs] m fun y m1=>y=.bool (L.any p)∧m1=m:=by
 refine QdY.go (by simp) ?_;simp only[Qa,seval];refine Qj (QPV L hl p c (AV.shL cs) _ hc) (by simp only[QXY,QYt,Qa,seval]<;>rfl) ?_;simp only[Qa,seval]

end

section
variable (L:List PO)(hl:L.length≤maxLen)(p:PO→Bool)(c:Nat)(cs:List AV)(m:Qo)

def JxO (k:Nat)(st:St):Prop :=
 ∃f i,st=⟨f,Qc :: m,[]⟩∧k=L.length-i∧QU p L 0=QU p (L.drop i) i∧f 0=.list (L.map Qr)∧f 1=.fn (.func c) [] (AV.shL cs)∧f 7=.int .i64 (L.length:Nat)∧f 8=.int .i64 (i:Nat)

include hl in
theorem QPW (hc:∀o∈L,Qg Tryz.prog c (Qr o :: AV.shL cs) (Qc :: m) fun y m1=>y=.bool (p o)∧m1=Qc :: m) :
  Qg Tryz.prog 195 [.list (L.map Qr),.fn (.func c) [] cs] m fun y m1=>y=.int .i64 (QU p L 0)∧m1=m:=by
 refine Ru.go (by simp) ?_;simp only[QYn,Qa,seval];refine Qd (JxO L p c cs m) _ ⟨_,0,rfl,rfl,rfl,(by rfl),(by rfl),(by rfl),(by rfl)⟩ ?_;rintro _ st ⟨f,i,rfl,rfl,hx,h0,h1,h7,h8⟩;simp only[h7,h8,Qa,seval];by_cases hlt:i<L.length
 ·obtain⟨x,hi⟩:∃x,L[i]? = some x:=⟨L[i],QXt hlt⟩;have hcl:=hc x (QXF hi);have hg:(L.map Qr)[i]? = some (Qr x):=by simp[hi]
  have e1:=Ql i _ hlt hl;simp only[Qr,PO.cells]at hcl;simp only[Qm hlt,Qi,QYT,Qb,hg,Qr,PO.cells,h0,h1,h8,eE,seval];refine Xf (fa:=[]) (fb:=AV.shL cs) (by rfl) hcl (by simp only[QXY,QYt,QXP,QXO,Qa,seval]) ?_;rw[XV p hi]at hx;cases hp:p x
  ·rw[hp]at hx;simp only[QXL,if_false]at hx;simp only[h8,e1,Qa,seval];exact⟨L.length-(i+1),by omega,_,i+1,rfl,rfl,hx,(by exact h0),(by exact h1),(by exact h7),(by rfl)⟩
  ·rw[hp]at hx;simp only[if_true]at hx;simp only[hx,Qa,seval]
 ·have hx':QU p L 0 = -1:=by rw[hx,QX3 (by omega)];rfl
  simp only[Qw hlt,hx',Qa,seval]

include hl in
theorem QPX (hc:∀o∈L,Qg Tryz.prog c (Qr o :: AV.shL (AV.shL cs)) (Qc :: Qc :: m) fun y m1=>y=.bool (p o)∧m1=Qc :: Qc :: m) :
  Qg Tryz.prog 209 [.list (L.map Qr),.fn (.func c) [] cs] m fun y m1=>y=.bool (L.any p)∧m1=m:=by
 refine Qjf.go (by simp) ?_;simp only[Qa,seval];refine Qj (QPW L hl p c (AV.shL cs) _ hc) (by simp only[QXY,QYt,Qa,seval]<;>rfl) ?_;simp only[JQ,Qa,seval]

include hl in
theorem Bz (hc:∀o∈L,Qg Tryz.prog c (Qr o :: AV.shL (AV.shL (AV.shL cs))) (Qc :: Qc :: Qc :: m) fun y m1=>y=.bool (p o)∧m1=Qc :: Qc :: Qc :: m) :
  Qg Tryz.prog 139 [.list (L.map Qr),.fn (.func c) [] cs] m fun y m1=>y=.bool (L.any p)∧m1=m:=by
 refine Qen.go (by simp) ?_;simp only[Qa,seval];refine Qj (QPX L hl p c (AV.shL cs) _ hc) (by simp only[QXY,QYt,Qa,seval]<;>rfl) ?_;simp only[Qa,seval]

end

section
variable (L:List PE)(hl:L.length≤maxLen)(p:PE→Bool)(c:Nat)(cs:List AV)(m:Qo)

def JxE (k:Nat)(st:St):Prop :=
 ∃f i,st=⟨f,Qc :: m,[]⟩∧k=L.length-i∧QU p L 0=QU p (L.drop i) i∧f 0=.list (L.map Qq)∧f 1=.fn (.func c) [] (AV.shL cs)∧f 7=.int .i64 (L.length:Nat)∧f 8=.int .i64 (i:Nat)

include hl in
theorem QPY (hc:∀o∈L,Qg Tryz.prog c (Qq o :: AV.shL cs) (Qc :: m) fun y m1=>y=.bool (p o)∧m1=Qc :: m) :
  Qg Tryz.prog 241 [.list (L.map Qq),.fn (.func c) [] cs] m fun y m1=>y=.int .i64 (QU p L 0)∧m1=m:=by
 refine QkQ.go (by simp) ?_;simp only[QYn,Qa,seval];refine Qd (JxE L p c cs m) _ ⟨_,0,rfl,rfl,rfl,(by rfl),(by rfl),(by rfl),(by rfl)⟩ ?_;rintro _ st ⟨f,i,rfl,rfl,hx,h0,h1,h7,h8⟩;simp only[h7,h8,Qa,seval];by_cases hlt:i<L.length
 ·obtain⟨x,hi⟩:∃x,L[i]? = some x:=⟨L[i],QXt hlt⟩;have hcl:=hc x (QXF hi);have hg:(L.map Qq)[i]? = some (Qq x):=by simp[hi]
  have e1:=Ql i _ hlt hl;simp only[Qq,PE.cells]at hcl;simp only[Qm hlt,Qi,QYT,Qb,hg,Qq,PE.cells,h0,h1,h8,eE,seval];refine Xf (fa:=[]) (fb:=AV.shL cs) (by rfl) hcl (by simp only[QXY,QYt,QXP,QXO,Qa,seval]) ?_;rw[XV p hi]at hx;cases hp:p x
  ·rw[hp]at hx;simp only[QXL,if_false]at hx;simp only[h8,e1,Qa,seval];exact⟨L.length-(i+1),by omega,_,i+1,rfl,rfl,hx,(by exact h0),(by exact h1),(by exact h7),(by rfl)⟩
  ·rw[hp]at hx;simp only[if_true]at hx;simp only[hx,Qa,seval]
 ·have hx':QU p L 0 = -1:=by rw[hx,QX3 (by omega)];rfl
  simp only[Qw hlt,hx',Qa,seval]

include hl in
theorem QPZ (hc:∀o∈L,Qg Tryz.prog c (Qq o :: AV.shL (AV.shL cs)) (Qc :: Qc :: m) fun y m1=>y=.bool (p o)∧m1=Qc :: Qc :: m) :
  Qg Tryz.prog 204 [.list (L.map Qq),.fn (.func c) [] cs] m fun y m1=>y=.bool (L.any p)∧m1=m:=by
 refine QiC.go (by simp) ?_;simp only[Qa,seval];refine Qj (QPY L hl p c (AV.shL cs) _ hc) (by simp only[QXY,QYt,Qa,seval]<;>rfl) ?_;simp only[JQ,Qa,seval]

include hl in
theorem HF (hc:∀o∈L,Qg Tryz.prog c (Qq o :: AV.shL (AV.shL (AV.shL cs))) (Qc :: Qc :: Qc :: m) fun y m1=>y=.bool (p o)∧m1=Qc :: Qc :: Qc :: m) :
  Qg Tryz.prog 135 [.list (L.map Qq),.fn (.func c) [] cs] m fun y m1=>y=.bool (L.any p)∧m1=m:=by
 refine Qd8.go (by simp) ?_;simp only[Qa,seval];refine Qj (QPZ L hl p c (AV.shL cs) _ hc) (by simp only[QXY,QYt,Qa,seval]<;>rfl) ?_;simp only[Qa,seval]

end

section
variable (L:List PI)(hl:L.length≤maxLen)(p:PI→Bool)(c:Nat)(cs:List AV)(m:Qo)

def JxI (k:Nat)(st:St):Prop :=
 ∃f i,st=⟨f,Qc :: m,[]⟩∧k=L.length-i∧QU p L 0=QU p (L.drop i) i∧f 0=.list (L.map Q4)∧f 1=.fn (.func c) [] (AV.shL cs)∧f 7=.int .i64 (L.length:Nat)∧f 8=.int .i64 (i:Nat)

include hl in
theorem QP0 (hc:∀o∈L,Qg Tryz.prog c (Q4 o :: AV.shL cs) (Qc :: m) fun y m1=>y=.bool (p o)∧m1=Qc :: m) :
  Qg Tryz.prog 245 [.list (L.map Q4),.fn (.func c) [] cs] m fun y m1=>y=.int .i64 (QU p L 0)∧m1=m:=by
 refine QuM.go (by simp) ?_;simp only[QYn,Qa,seval];refine Qd (JxI L p c cs m) _ ⟨_,0,rfl,rfl,rfl,(by rfl),(by rfl),(by rfl),(by rfl)⟩ ?_;rintro _ st ⟨f,i,rfl,rfl,hx,h0,h1,h7,h8⟩;simp only[h7,h8,Qa,seval];by_cases hlt:i<L.length
 ·obtain⟨x,hi⟩:∃x,L[i]? = some x:=⟨L[i],QXt hlt⟩;have hcl:=hc x (QXF hi);have hg:(L.map Q4)[i]? = some (Q4 x):=by simp[hi]
  have e1:=Ql i _ hlt hl;simp only[Q4,PI.cells]at hcl;simp only[Qm hlt,Qi,QYT,Qb,hg,Q4,PI.cells,h0,h1,h8,eE,seval];refine Xf (fa:=[]) (fb:=AV.shL cs) (by rfl) hcl (by simp only[QXY,QYt,QXP,QXO,Qa,seval]) ?_;rw[XV p hi]at hx;cases hp:p x
  ·rw[hp]at hx;simp only[QXL,if_false]at hx;simp only[h8,e1,Qa,seval];exact⟨L.length-(i+1),by omega,_,i+1,rfl,rfl,hx,(by exact h0),(by exact h1),(by exact h7),(by rfl)⟩
  ·rw[hp]at hx;simp only[if_true]at hx;simp only[hx,Qa,seval]
 ·have hx':QU p L 0 = -1:=by rw[hx,QX3 (by omega)];rfl
  simp only[Qw hlt,hx',Qa,seval]

include hl in
theorem QP1 (hc:∀o∈L,Qg Tryz.prog c (Q4 o :: AV.shL (AV.shL cs)) (Qc :: Qc :: m) fun y m1=>y=.bool (p o)∧m1=Qc :: Qc :: m) :
  Qg Tryz.prog 211 [.list (L.map Q4),.fn (.func c) [] cs] m fun y m1=>y=.bool (L.any p)∧m1=m:=by
 refine QtG.go (by simp) ?_;simp only[Qa,seval];refine Qj (QP0 L hl p c (AV.shL cs) _ hc) (by simp only[QXY,QYt,Qa,seval]<;>rfl) ?_;simp only[JQ,Qa,seval]

include hl in
theorem Cc (hc:∀o∈L,Qg Tryz.prog c (Q4 o :: AV.shL (AV.shL (AV.shL cs))) (Qc :: Qc :: Qc :: m) fun y m1=>y=.bool (p o)∧m1=Qc :: Qc :: Qc :: m) :
  Qg Tryz.prog 143 [.list (L.map Q4),.fn (.func c) [] cs] m fun y m1=>y=.bool (L.any p)∧m1=m:=by
 refine QMZ.go (by simp) ?_;simp only[Qa,seval];refine Qj (QP1 L hl p c (AV.shL cs) _ hc) (by simp only[QXY,QYt,Qa,seval]<;>rfl) ?_;simp only[Qa,seval]

end

section
variable (L:List PS)(hl:L.length≤maxLen)(p:PS→Bool)(c:Nat)(cs:List AV)(m:Qo)

def JxS (k:Nat)(st:St):Prop :=
 ∃f i,st=⟨f,Qc :: m,[]⟩∧k=L.length-i∧QU p L 0=QU p (L.drop i) i∧f 0=.list (L.map X8)∧f 1=.fn (.func c) [] (AV.shL cs)∧f 7=.int .i64 (L.length:Nat)∧f 8=.int .i64 (i:Nat)

include hl in
theorem QP2 (hc:∀o∈L,Qg Tryz.prog c (X8 o :: AV.shL cs) (Qc :: m) fun y m1=>y=.bool (p o)∧m1=Qc :: m) :
  Qg Tryz.prog 276 [.list (L.map X8),.fn (.func c) [] cs] m fun y m1=>y=.int .i64 (QU p L 0)∧m1=m:=by
 refine QPp.go (by simp) ?_;simp only[QYn,Qa,seval];refine Qd (JxS L p c cs m) _ ⟨_,0,rfl,rfl,rfl,(by rfl),(by rfl),(by rfl),(by rfl)⟩ ?_;rintro _ st ⟨f,i,rfl,rfl,hx,h0,h1,h7,h8⟩;simp only[h7,h8,Qa,seval];by_cases hlt:i<L.length
 ·obtain⟨x,hi⟩:∃x,L[i]? = some x:=⟨L[i],QXt hlt⟩;have hcl:=hc x (QXF hi);have hg:(L.map X8)[i]? = some (X8 x):=by simp[hi]
  have e1:=Ql i _ hlt hl;simp only[X8,PS.cells]at hcl;simp only[Qm hlt,Qi,QYT,Qb,hg,X8,PS.cells,h0,h1,h8,eE,seval];refine Xf (fa:=[]) (fb:=AV.shL cs) (by rfl) hcl (by simp only[QXY,QYt,QXP,QXO,Qa,seval]) ?_;rw[XV p hi]at hx;cases hp:p x
  ·rw[hp]at hx;simp only[QXL,if_false]at hx;simp only[h8,e1,Qa,seval];exact⟨L.length-(i+1),by omega,_,i+1,rfl,rfl,hx,(by exact h0),(by exact h1),(by exact h7),(by rfl)⟩
  ·rw[hp]at hx;simp only[if_true]at hx;simp only[hx,Qa,seval]
 ·have hx':QU p L 0 = -1:=by rw[hx,QX3 (by omega)];rfl
  simp only[Qw hlt,hx',Qa,seval]

include hl in
theorem QP3 (hc:∀o∈L,Qg Tryz.prog c (X8 o :: AV.shL (AV.shL cs)) (Qc :: Qc :: m) fun y m1=>y=.bool (p o)∧m1=Qc :: Qc :: m) :
  Qg Tryz.prog 246 [.list (L.map X8),.fn (.func c) [] cs] m fun y m1=>y=.bool (L.any p)∧m1=m:=by
 refine QOR.go (by simp) ?_;simp only[Qa,seval];refine Qj (QP2 L hl p c (AV.shL cs) _ hc) (by simp only[QXY,QYt,Qa,seval]<;>rfl) ?_;simp only[JQ,Qa,seval]

end

section
variable (L:List (List UInt8))(hl:L.length≤maxLen)(p:(List UInt8)→Bool)(c:Nat)(cs:List AV)(m:Qo)

def JxR (k:Nat)(st:St):Prop :=
 ∃f i,st=⟨f,Qc :: m,[]⟩∧k=L.length-i∧QU p L 0=QU p (L.drop i) i∧f 0=.list (L.map Zn)∧f 1=.fn (.func c) [] (AV.shL cs)∧f 7=.int .i64 (L.length:Nat)∧f 8=.int .i64 (i:Nat)

include hl in
theorem QP4 (hc:∀o∈L,Qg Tryz.prog c (Zn o :: AV.shL cs) (Qc :: m) fun y m1=>y=.bool (p o)∧m1=Qc :: m) :
  Qg Tryz.prog 242 [.list (L.map Zn),.fn (.func c) [] cs] m fun y m1=>y=.int .i64 (QU p L 0)∧m1=m:=by
 refine Qk2.go (by simp) ?_;simp only[QYn,Qa,seval];refine Qd (JxR L p c cs m) _ ⟨_,0,rfl,rfl,rfl,(by rfl),(by rfl),(by rfl),(by rfl)⟩ ?_;rintro _ st ⟨f,i,rfl,rfl,hx,h0,h1,h7,h8⟩;simp only[h7,h8,Qa,seval];by_cases hlt:i<L.length
 ·obtain⟨x,hi⟩:∃x,L[i]? = some x:=⟨L[i],QXt hlt⟩;have hcl:=hc x (QXF hi);have hg:(L.map Zn)[i]? = some (Zn x):=by simp[hi]
  have e1:=Ql i _ hlt hl;simp only[Zn]at hcl;simp only[Qm hlt,Qi,QYT,Qb,hg,Zn,h0,h1,h8,eE,seval];refine Xf (fa:=[]) (fb:=AV.shL cs) (by rfl) hcl (by simp only[QXY,QYt,QXP,QXO,Qa,seval]) ?_;rw[XV p hi]at hx;cases hp:p x
  ·rw[hp]at hx;simp only[QXL,if_false]at hx;simp only[h8,e1,Qa,seval];exact⟨L.length-(i+1),by omega,_,i+1,rfl,rfl,hx,(by exact h0),(by exact h1),(by exact h7),(by rfl)⟩
  ·rw[hp]at hx;simp only[if_true]at hx;simp only[hx,Qa,seval]
 ·have hx':QU p L 0 = -1:=by rw[hx,QX3 (by omega)];rfl
  simp only[Qw hlt,hx',Qa,seval]

include hl in
theorem QP5 (hc:∀o∈L,Qg Tryz.prog c (Zn o :: AV.shL (AV.shL cs)) (Qc :: Qc :: m) fun y m1=>y=.bool (p o)∧m1=Qc :: Qc :: m) :
  Qg Tryz.prog 206 [.list (L.map Zn),.fn (.func c) [] cs] m fun y m1=>y=.bool (L.any p)∧m1=m:=by
 refine QiT.go (by simp) ?_;simp only[Qa,seval];refine Qj (QP4 L hl p c (AV.shL cs) _ hc) (by simp only[QXY,QYt,Qa,seval]<;>rfl) ?_;simp only[JQ,Qa,seval]

end

section
variable (L:List PG)(hl:L.length≤maxLen)(lt:PG→PG→Bool)(c:Nat)(cs:List AV)(m:Qo)

def AxG (k:Nat)(st:St):Prop :=
 ∃f i,st=⟨f,Qc :: m,[]⟩∧k=L.length-(i+1)∧QB (Xg L lt) (i+1)=true∧f 0=.list (L.map Qh)∧f 1=.fn (.func c) [] (AV.shL cs)∧f 5=.int .i64 ((i+1:Nat):Int)

include hl in
theorem QP6 (hc:∀x∈L,∀y∈L,Qg Tryz.prog c (Qh x :: Qh y :: AV.shL cs) (Qc :: m) fun r m1=>r=.bool (lt x y)∧m1=Qc :: m) :
  Qg Tryz.prog 145 [.list (L.map Qh),.fn (.func c) [] cs] m fun y m1=>y=.bool (XW L lt)∧m1=m:=by
 refine QeI.go (by simp) ?_;simp only[Qa,seval];refine Qd (AxG L lt c cs m) _ ⟨_,0,rfl,rfl,rfl,(by rfl),(by rfl),(by rfl)⟩ ?_;rintro _ st ⟨f,i,rfl,rfl,hx,h0,h1,h5⟩;simp only[QYn,h0,h5,Qa,seval];by_cases hlt:i+1<L.length
 ·obtain⟨x,hi⟩:∃x,L[i]? = some x:=⟨L[i]'(by omega),QXt (by omega)⟩;obtain⟨y,hj⟩:∃y,L[i+1]? = some y:=⟨L[i+1],QXt hlt⟩;have hcl:=hc x (QXF hi) y (QXF hj);have hg:(L.map Qh)[i]? = some (Qh x):=by simp[hi]
  have hh:(L.map Qh)[i+1]? = some (Qh y):=by simp[hj]
  have e1:=Ql (i+1) _ hlt hl;have e2:=Wz i _ hlt hl;simp only[Qh,PG.cells]at hcl;simp only[Qm hlt,e2,Qi,QYT,Qb,hg,hh,Qh,PG.cells,h0,h1,h5,eE,seval];refine Xf (fa:=[]) (fb:=AV.shL cs) (by rfl) hcl (by simp only[QXY,QYt,QXP,QXO,Qa,seval]) ?_;have hs:QB (Xg L lt) (i+2)=lt x y:=by
   show(QB (Xg L lt) (i+1)&&Xg L lt (i+1))=_;rw[hx,Jo hi hj,QY3]
  cases hp:lt x y
  ·rw[hp]at hs;have hf:XW L lt=false:=by
    rw[QZf];intro h';rw[QL.2 fun k hk=>QL.1 h' k (by omega)]at hs;cases hs
   simp only[hf,Qa,seval]
  ·rw[hp]at hs;simp only[h5,e1,Qa,seval];exact⟨L.length-(i+2),by omega,_,i+1,rfl,rfl,hs,(by exact h0),(by exact h1),(by rfl)⟩
 ·have hf:XW L lt=true:=QL.2 fun k hk=>QL.1 hx k (by omega)
  simp only[Qw hlt,hf,Qa,seval]

end

section
variable (L:List PO)(hl:L.length≤maxLen)(lt:PO→PO→Bool)(c:Nat)(cs:List AV)(m:Qo)

def AxO (k:Nat)(st:St):Prop :=
 ∃f i,st=⟨f,Qc :: m,[]⟩∧k=L.length-(i+1)∧QB (Xg L lt) (i+1)=true∧f 0=.list (L.map Qr)∧f 1=.fn (.func c) [] (AV.shL cs)∧f 5=.int .i64 ((i+1:Nat):Int)

include hl in
theorem QP7 (hc:∀x∈L,∀y∈L,Qg Tryz.prog c (Qr x :: Qr y :: AV.shL cs) (Qc :: m) fun r m1=>r=.bool (lt x y)∧m1=Qc :: m) :
  Qg Tryz.prog 150 [.list (L.map Qr),.fn (.func c) [] cs] m fun y m1=>y=.bool (XW L lt)∧m1=m:=by
 refine Qe9.go (by simp) ?_;simp only[Qa,seval];refine Qd (AxO L lt c cs m) _ ⟨_,0,rfl,rfl,rfl,(by rfl),(by rfl),(by rfl)⟩ ?_;rintro _ st ⟨f,i,rfl,rfl,hx,h0,h1,h5⟩;simp only[QYn,h0,h5,Qa,seval];by_cases hlt:i+1<L.length
 ·obtain⟨x,hi⟩:∃x,L[i]? = some x:=⟨L[i]'(by omega),QXt (by omega)⟩;obtain⟨y,hj⟩:∃y,L[i+1]? = some y:=⟨L[i+1],QXt hlt⟩;have hcl:=hc x (QXF hi) y (QXF hj);have hg:(L.map Qr)[i]? = some (Qr x):=by simp[hi]
  have hh:(L.map Qr)[i+1]? = some (Qr y):=by simp[hj]
  have e1:=Ql (i+1) _ hlt hl;have e2:=Wz i _ hlt hl;simp only[Qr,PO.cells]at hcl;simp only[Qm hlt,e2,Qi,QYT,Qb,hg,hh,Qr,PO.cells,h0,h1,h5,eE,seval];refine Xf (fa:=[]) (fb:=AV.shL cs) (by rfl) hcl (by simp only[QXY,QYt,QXP,QXO,Qa,seval]) ?_;have hs:QB (Xg L lt) (i+2)=lt x y:=by
   show(QB (Xg L lt) (i+1)&&Xg L lt (i+1))=_;rw[hx,Jo hi hj,QY3]
  cases hp:lt x y
  ·rw[hp]at hs;have hf:XW L lt=false:=by
    rw[QZf];intro h';rw[QL.2 fun k hk=>QL.1 h' k (by omega)]at hs;cases hs
   simp only[hf,Qa,seval]
  ·rw[hp]at hs;simp only[h5,e1,Qa,seval];exact⟨L.length-(i+2),by omega,_,i+1,rfl,rfl,hs,(by exact h0),(by exact h1),(by rfl)⟩
 ·have hf:XW L lt=true:=QL.2 fun k hk=>QL.1 hx k (by omega)
  simp only[Qw hlt,hf,Qa,seval]

end

section
variable (L:List PE)(hl:L.length≤maxLen)(lt:PE→PE→Bool)(c:Nat)(cs:List AV)(m:Qo)

def AxE (k:Nat)(st:St):Prop :=
 ∃f i,st=⟨f,Qc :: m,[]⟩∧k=L.length-(i+1)∧QB (Xg L lt) (i+1)=true∧f 0=.list (L.map Qq)∧f 1=.fn (.func c) [] (AV.shL cs)∧f 5=.int .i64 ((i+1:Nat):Int)

include hl in
theorem QP8 (hc:∀x∈L,∀y∈L,Qg Tryz.prog c (Qq x :: Qq y :: AV.shL cs) (Qc :: m) fun r m1=>r=.bool (lt x y)∧m1=Qc :: m) :
  Qg Tryz.prog 147 [.list (L.map Qq),.fn (.func c) [] cs] m fun y m1=>y=.bool (XW L lt)∧m1=m:=by
 refine QeT.go (by simp) ?_;simp only[Qa,seval];refine Qd (AxE L lt c cs m) _ ⟨_,0,rfl,rfl,rfl,(by rfl),(by rfl),(by rfl)⟩ ?_;rintro _ st ⟨f,i,rfl,rfl,hx,h0,h1,h5⟩;simp only[QYn,h0,h5,Qa,seval];by_cases hlt:i+1<L.length
 ·obtain⟨x,hi⟩:∃x,L[i]? = some x:=⟨L[i]'(by omega),QXt (by omega)⟩;obtain⟨y,hj⟩:∃y,L[i+1]? = some y:=⟨L[i+1],QXt hlt⟩;have hcl:=hc x (QXF hi) y (QXF hj);have hg:(L.map Qq)[i]? = some (Qq x):=by simp[hi]
  have hh:(L.map Qq)[i+1]? = some (Qq y):=by simp[hj]
  have e1:=Ql (i+1) _ hlt hl;have e2:=Wz i _ hlt hl;simp only[Qq,PE.cells]at hcl;simp only[Qm hlt,e2,Qi,QYT,Qb,hg,hh,Qq,PE.cells,h0,h1,h5,eE,seval];refine Xf (fa:=[]) (fb:=AV.shL cs) (by rfl) hcl (by simp only[QXY,QYt,QXP,QXO,Qa,seval]) ?_;have hs:QB (Xg L lt) (i+2)=lt x y:=by
   show(QB (Xg L lt) (i+1)&&Xg L lt (i+1))=_;rw[hx,Jo hi hj,QY3]
  cases hp:lt x y
  ·rw[hp]at hs;have hf:XW L lt=false:=by
    rw[QZf];intro h';rw[QL.2 fun k hk=>QL.1 h' k (by omega)]at hs;cases hs
   simp only[hf,Qa,seval]
  ·rw[hp]at hs;simp only[h5,e1,Qa,seval];exact⟨L.length-(i+2),by omega,_,i+1,rfl,rfl,hs,(by exact h0),(by exact h1),(by rfl)⟩
 ·have hf:XW L lt=true:=QL.2 fun k hk=>QL.1 hx k (by omega)
  simp only[Qw hlt,hf,Qa,seval]

end

section
variable (L:List PI)(hl:L.length≤maxLen)(lt:PI→PI→Bool)(c:Nat)(cs:List AV)(m:Qo)

def AxI (k:Nat)(st:St):Prop :=
 ∃f i,st=⟨f,Qc :: m,[]⟩∧k=L.length-(i+1)∧QB (Xg L lt) (i+1)=true∧f 0=.list (L.map Q4)∧f 1=.fn (.func c) [] (AV.shL cs)∧f 5=.int .i64 ((i+1:Nat):Int)

include hl in
theorem QP9 (hc:∀x∈L,∀y∈L,Qg Tryz.prog c (Q4 x :: Q4 y :: AV.shL cs) (Qc :: m) fun r m1=>r=.bool (lt x y)∧m1=Qc :: m) :
  Qg Tryz.prog 153 [.list (L.map Q4),.fn (.func c) [] cs] m fun y m1=>y=.bool (XW L lt)∧m1=m:=by
 refine QNe.go (by simp) ?_;simp only[Qa,seval];refine Qd (AxI L lt c cs m) _ ⟨_,0,rfl,rfl,rfl,(by rfl),(by rfl),(by rfl)⟩ ?_;rintro _ st ⟨f,i,rfl,rfl,hx,h0,h1,h5⟩;simp only[QYn,h0,h5,Qa,seval];by_cases hlt:i+1<L.length
 ·obtain⟨x,hi⟩:∃x,L[i]? = some x:=⟨L[i]'(by omega),QXt (by omega)⟩;obtain⟨y,hj⟩:∃y,L[i+1]? = some y:=⟨L[i+1],QXt hlt⟩;have hcl:=hc x (QXF hi) y (QXF hj);have hg:(L.map Q4)[i]? = some (Q4 x):=by simp[hi]
  have hh:(L.map Q4)[i+1]? = some (Q4 y):=by simp[hj]
  have e1:=Ql (i+1) _ hlt hl;have e2:=Wz i _ hlt hl;simp only[Q4,PI.cells]at hcl;simp only[Qm hlt,e2,Qi,QYT,Qb,hg,hh,Q4,PI.cells,h0,h1,h5,eE,seval];refine Xf (fa:=[]) (fb:=AV.shL cs) (by rfl) hcl (by simp only[QXY,QYt,QXP,QXO,Qa,seval]) ?_;have hs:QB (Xg L lt) (i+2)=lt x y:=by
   show(QB (Xg L lt) (i+1)&&Xg L lt (i+1))=_;rw[hx,Jo hi hj,QY3]
  cases hp:lt x y
  ·rw[hp]at hs;have hf:XW L lt=false:=by
    rw[QZf];intro h';rw[QL.2 fun k hk=>QL.1 h' k (by omega)]at hs;cases hs
   simp only[hf,Qa,seval]
  ·rw[hp]at hs;simp only[h5,e1,Qa,seval];exact⟨L.length-(i+2),by omega,_,i+1,rfl,rfl,hs,(by exact h0),(by exact h1),(by rfl)⟩
 ·have hf:XW L lt=true:=QL.2 fun k hk=>QL.1 hx k (by omega)
  simp only[Qw hlt,hf,Qa,seval]

end

def cl (c:Nat):Int:=if 97≤c∧c≤122 then 1 else if 65≤c∧c≤90 then 2 else if 48≤c∧c≤57 then 3 else if c=95 then 4 else 0

theorem QQa (c:Nat):Qk Tryz.prog 244 [.int .i32 (c:Nat)] (.int .i64 (cl c)):=by
 refine Qlt.fn (by simp) ?_;simp only[Qa,seval]
 repeat' (first|(refine Q2 (fun h=>?_) (fun h=>?_)<;>simp only[h,Qa,seval])|(refine XG (fun h=>?_) (fun h=>?_)<;>simp only[h,Qn,Qa,seval])|(refine XH (fun h=>?_) (fun h=>?_)<;>simp only[h,Qn,eE,seval]))
 all_goals((try simp only[QXx,QZj,QXy,QY8,ne_eq]at *)<;>unfold cl<;>(repeat' split)<;>first|rfl|(exfalso;omega))

theorem Cd {s:List UInt8}{i:Nat}{c:UInt8}(h:s[i]? = some c):(c.toNat<128→Xp s i=(c.toNat,1))∧(128≤c.toNat→128≤(Xp s i).1):=by
 have g0:(⟨⟨s⟩⟩:ByteArray).get! (i+0)=c:=by
  show(⟨s⟩:Array UInt8)[i+0]! = c;simp[h]
 constructor
 ·intro hc;simp only[Xp,Utf8.decode,g0];rw[QXV hc]
 ·intro hc;simp only[Xp,Utf8.decode,g0];rw[QXG (by omega)]
  (repeat' split)<;>simp only[ge_iff_le,QXQ,QXx,Utf8.runeError]at *<;>omega

def pq (s:List UInt8)(j:Nat):Bool:=match s[j]? with
 |some c=>if j=0 then JH c else Je c
 |none=>true
theorem WY {s:List UInt8}{j:Nat}{c:UInt8}(h:s[j]? = some c):pq s j=if j=0 then JH c else Je c:=by
 unfold pq;rw[h]

theorem BA {c:UInt8}(h:JH c=true):Je c=true:=by unfold Je;rw[h];rfl

theorem KN (s:List UInt8):QY s=(decide (1≤s.length)&&decide (s.length≤40)&&QB (pq s) s.length):=by
 cases s with
 |nil=>rfl
 |cons c t=>
  have h1:decide (1≤(c :: t).length)=true:=by simp
  rw[h1,QY3];show(decide ((c :: t).length≤40)&&JH c&&t.all Je)=_;rw[QYc];congr 1
  rw[QYm,QXQ,QL,QXE]
  constructor
  ·rintro⟨h2,h3⟩ i hi;cases i with
   |zero=>rw[WY (c:=c) rfl,QXV rfl];exact h2
   |succ i=>
    have hlt:i<t.length:=by simpa using hi
    rw[WY (c:=t[i]) (by simp[QXt hlt]),QXG (by omega)];exact h3 _ (QYk _)
  ·intro h;refine⟨?_,fun x hx=>?_⟩
   ·have:=h 0 (by simp)
    rwa [WY (c:=c) rfl,QXV rfl]at this
   ·obtain⟨i,hi⟩:=QXD.1 hx;have hlt:=(QXs.1 hi).1;have:=h (i+1) (by simpa using hlt)
    rwa [WY (c:=x) (by simpa using hi),QXG (by omega)]at this

theorem QHq {s:List UInt8}{i:Nat}{c:UInt8}(h:s[i]? = some c)(r:Nat)(hr:(c.toNat<128→r=c.toNat)∧(128≤c.toNat→128≤r)) :
  (cl r==0||((i:Int)==0&&(cl r != 1&&cl r != 2)))=!pq s i:=by
 rw[WY h];obtain⟨h1,h2⟩:=hr;have hc:=c.toNat_lt;unfold cl JH Je JH;generalize c.toNat=x at *;by_cases hx:x<128
 ·have e:=h1 hx;subst e;by_cases hi:i=0
  ·subst hi;rw[QXV rfl]
   (repeat' split)<;>simp<;>omega
  ·rw[QXG hi];have hz:((i:Int)==0)=false:=by simp;omega
   rw[hz]
   (repeat' split)<;>simp<;>omega
 ·have:=h2 (by omega);have e:(if 97≤r∧r≤122 then(1:Int)else if 65≤r∧r≤90 then 2 else if 48≤r∧r≤57 then 3 else if r=95 then 4 else 0)=0:=by
   rw[QXG (by omega),QXG (by omega),QXG (by omega),QXG (by omega)]
  rw[e];split<;>simp<;>omega

def PaI (s:List UInt8)(k:Nat)(st:St):Prop :=
 ∃f fr i,st=⟨f,[fr],[]⟩∧k=s.length-i∧i≤s.length∧QB (pq s) i=true∧f 0=.str s∧f 7=.ptr 0 7 0∧fr 7=.iter (.str s) i

theorem QwA (s:List UInt8):Qk Tryz.prog 210 [.str s] (.bool (QY s)):=by
 refine Qjr.fn (by simp) ?_;simp only[Qa,seval];refine DR rfl rfl ?_;simp only[Qa,seval];refine Qd (PaI s) s.length ⟨_,_,0,rfl,rfl,QXA _,rfl,(by rfl),(by rfl),(by rfl)⟩ ?_;rintro _ st ⟨f,fr,i,rfl,rfl,hi,hx,h0,h7,m7⟩;simp only[Qa,seval];refine DS (by exact h7) m7 (fun hlt=>?_) (fun hge=>?_)
 ·obtain⟨c,hc⟩:∃c,s[i]? = some c:=⟨s[i],QXt hlt⟩;obtain⟨u1,u2⟩:=Cd hc;have hcl:=QQa (Xp s i).1;have hq:=QHq hc (Xp s i).1 ⟨fun h=>by rw[u1 h],u2⟩;have hw:pq s i=true→(Xp s i).2=1:=by
   intro h;rw[u1];rw[WY hc]at h;have hp:Je c=true:=by
    split at h
    ·exact BA h
    ·exact h
   unfold Je JH at hp;simp at hp;omega
  generalize Xp s i=cw at hcl hq hw;obtain⟨r,w⟩:=cw;simp only[Qa,seval];refine aC hcl ?_;have hstep:QB (pq s) (i+1)=pq s i:=by rw[QB,hx,QY3]
  have hend:pq s i=false→QY s=false:=by
   intro h;rw[KN,Cb hlt h,QZk]
  simp only at hq hw;generalize cl r=k at hq;cases hp:pq s i
  ·rw[hp]at hq;have he:=hend hp;simp only[he,Qa,seval];cases a1:(k==0)
   ·cases a2:((i:Int)==0)
    ·simp[a1,a2]at hq
    ·cases a3:(k != 1)
     ·simp[a1,a2,a3]at hq
     ·cases a4:(k != 2)
      ·simp[a1,a2,a3,a4]at hq
      ·simp only[a2,a3,a4,Qa,seval]
   ·simp only[Qa,seval]
  ·rw[hp]at hq;have hw:=hw hp;subst hw;simp only[Qa,seval];cases a1:(k==0)
   ·cases a2:((i:Int)==0)
    ·simp only[a2,Qa,seval];exact⟨s.length-(i+1),by omega,_,_,i+1,rfl,rfl,by omega,by rw[hstep,hp],(by exact h0),(by exact h7),(by rfl)⟩
    ·cases a3:(k != 1)
     ·simp only[a2,a3,Qa,seval];exact⟨s.length-(i+1),by omega,_,_,i+1,rfl,rfl,by omega,by rw[hstep,hp],(by exact h0),(by exact h7),(by rfl)⟩
     ·cases a4:(k != 2)
      ·simp only[a2,a3,a4,Qa,seval];exact⟨s.length-(i+1),by omega,_,_,i+1,rfl,rfl,by omega,by rw[hstep,hp],(by exact h0),(by exact h7),(by rfl)⟩
      ·simp[a1,a2,a3,a4]at hq
   ·simp[a1]at hq
 ·have hii:i=s.length:=by omega
  subst hii;have e1:decide (((s.length:Nat):Int)≥1)=decide (1≤s.length):=by rw[decide_eq_decide];omega
  have e2:decide (((s.length:Nat):Int)≤40)=decide (s.length≤40):=by rw[decide_eq_decide];omega
  have e3:QY s=(decide (1≤s.length)&&decide (s.length≤40)):=by rw[KN,hx,QYF]
  simp only[h0,e1,e3,Qa,seval];cases a1:decide (1≤s.length)<;>simp only[QY3,QYW,h0,e2,Qa,seval]

theorem QQb (s:List UInt8):Qk Tryz.prog 208 [.str s] (.bool (Zh s)):=by
 refine Rw.fn (by simp) ?_;simp only[QI,Qa,seval];have e:Zh s=YG.any fun w=>s==w:=rfl
 simp only[YG,List.any_cons,List.any_nil,QZl]at e
 repeat' (first|(refine Q2 (fun h=>?_) (fun h=>?_)<;>simp only[h,QI,Qa,seval])|(refine XG (fun h=>?_) (fun h=>?_)<;>simp only[h,Qn,QI,eE,seval])|(refine XH (fun h=>?_) (fun h=>?_)<;>simp only[h,Qn,QI,eE,seval]))
 all_goals(simp only[*,QY6,QZm,QZl]at e;simp only[e])

theorem QQc (s:List UInt8):Qk Tryz.prog 274 [.str s,.str [46]] (.int .i64 (s.count 46:Nat)):=by
 refine Qma.fn (by simp) ?_;have b0:(((1:Nat):Int)==0)=false:=rfl;have b1:(((1:Nat):Int)==1)=true:=rfl;have b2:([(46:UInt8)])[Int.toNat 0]? = some 46:=rfl;simp only[QXH,QYo,QX8,Qa,seval];refine NN rfl rfl ?_;simp only[H7,Lib.countByte,Qa,seval]
 try rfl

theorem QQd (s:List UInt8):Qk Tryz.prog 300 [.str s,.int .u8 46] (.int .i64 (Lib.indexByte s 46)):=by
 refine QmG.fn (by simp) ?_;simp only[Qa,seval];refine NN rfl rfl ?_;simp only[H7,QXL,Qa,seval]
 try rfl

theorem QQe (s:List UInt8):Qk Tryz.prog 292 [.str s,.str [46]] (.int .i64 (Lib.indexByte s 46)):=by
 refine Qmo.fn (by simp) ?_;have b0:(((1:Nat):Int)==0)=false:=rfl;have b1:(((1:Nat):Int)==1)=true:=rfl;have b2:([(46:UInt8)])[Int.toNat 0]? = some 46:=rfl;have hk:=QQd s;simp only[V6,MM,MN,MO,MP,MQ,MS,MT,MU,MV,V6,Rx,QXH,QYo,QX8,QI,Qa,seval];cases h:(([46]:List UInt8)==s)
 ·simp only[Qa,seval];refine aC hk ?_;simp only[Qa,seval]
 ·have hs:s=[46]:=by simpa using (QXy.1 h).symm
  subst hs;simp only[Qa,seval]
  try rfl

theorem QQf (s:List UInt8):Qk Tryz.prog 275 [.str s,.str [46]] (.int .i64 (Lib.indexByte s 46)):=by
 refine Qmf.fn (by simp) ?_;simp only[Qa,seval];refine aC (QQe s) ?_;simp only[Qa,seval]

theorem Pi {t:List UInt8}{o:Nat}(h:Lib.indexByte t 46=(o:Int)):o<t.length∧t=t.take o++46 :: t.drop (o+1)∧∀c∈t.take o,c≠46:=by
 obtain⟨h1,h2⟩:=Lib.indexByte_some h;have hlt:=(QXs.1 h1).1;refine⟨hlt,?_,?_⟩
 ·have h3:t[o]=46:=(QXs.1 h1).2;rw[←h3,←QYa hlt,QYI]
 ·intro c hc e;subst e;obtain⟨k,hk⟩:=QXD.1 hc;rw[QX5]at hk;split at hk
  ·exact h2 k ‹_› hk
  ·cases hk

theorem RM {t:List UInt8}(h:Lib.indexByte t 46 = -1):Qp t=[t]:=by
 refine WX fun c hc e=>?_
 subst e;obtain⟨k,hk⟩:=QXD.1 hc;exact Lib.indexByte_none h k hk

theorem Pj {t:List UInt8}{o:Nat}(h:Lib.indexByte t 46=(o:Int)):Qp t=t.take o :: Qp (t.drop (o+1)):=by
 obtain⟨_,h2,h3⟩:=Pi h
 conv=>lhs;rw[h2]
 exact GB h3

theorem QwB (t:List UInt8):Lib.indexByte t 46 = -1∨∃o:Nat,Lib.indexByte t 46=(o:Int):=by
 have:=Lib.indexByte_ge t 46;by_cases h:Lib.indexByte t 46 = -1
 ·exact .inl h
 ·obtain⟨o,ho⟩:=QY5 (a:=Lib.indexByte t 46) (by omega);exact .inr ⟨o,ho⟩

def SpI (s:List UInt8)(n:Nat)(k:Nat)(st:St):Prop :=
 ∃f fr t done,st=⟨f,[fr],[]⟩∧k=(Qp t).length∧Qp s=done++Qp t∧n=done.length+(Qp t).length∧t.length≤s.length∧
  f 0=.str t∧f 1=.str [46]∧f 2=.int .i64 0∧f 3=.int .i64 ((n-1:Nat):Int)∧f 9=.vec 0 31 1 0 n false∧f 10=.int .i64 (done.length:Nat)∧fr 31=.vec 1 1 (done.map Zn++List.replicate (Qp t).length (.str []))

theorem RP (done:List (List UInt8))(x:List UInt8)(n:Nat)(h:0<n):(done.map Zn++List.replicate n (AV.str [])).set done.length (.str x)=(done++[x]).map Zn++List.replicate (n-1) (AV.str []):=by
 obtain⟨k,rfl⟩:∃k,n=k+1:=⟨n-1,by omega⟩;rw[List.set_append_right _ _ (by simp)];simp[Zn,List.replicate_succ]

theorem QQg (s:List UInt8)(hs:s.length≤17592186044000):Qk Tryz.prog 243 [.str s,.str [46],.int .i64 0,.int .i64 (-1)] (.list ((Qp s).map Zn)):=by
 have hl:=Ur s;have hc:s.count 46≤s.length:=List.count_le_length;have hm:(Qp s).length≤s.length+1:=by omega
 have b0:((-1:Int)==0)=false:=rfl;have b1:decide ((-1:Int)<0)=true:=rfl;have e1:IntKind.i64.wrap ((s.count 46:Nat)+1:Int)=((Qp s).length:Nat):=by rw[QE];omega
 have e2:IntKind.i64.wrap ((s.length:Nat)+1:Int)=((s.length+1:Nat):Int):=by rw[QE];omega
 have e3':(((s.length+1:Nat):Int)<((Qp s).length:Nat))=False:=eq_false (by omega);have e4:IntKind.i64.wrap (((Qp s).length:Nat)-1:Int)=(((Qp s).length-1:Nat):Int):=by rw[QE];omega
 have hz:JM 1 [AV.str []]=.str []:=rfl;refine Qlg.fn (by simp) ?_;simp only[b0,QI,Qa,seval];have b2:(([46]:List UInt8)==[])=false:=rfl;simp only[b2,Qa,seval];refine aC (QQc s) ?_;simp only[e1,e2,e3',Qa,seval];refine US (n:=(Qp s).length) (k:=(Qp s).length) rfl rfl (QXq _) (by omega) (by omega) rfl ?_;simp only[e4,hz,Qa,seval];refine Qd (SpI s (Qp s).length) _ ⟨_,_,s,[],rfl,rfl,rfl,by simp,QXq _,(by rfl),(by rfl),(by rfl),(by rfl),(by rfl),(by rfl),(by rfl)⟩ ?_;rintro _ st ⟨f,fr,t,done,rfl,rfl,hp,hn,ht,h0,h1,h2,h3,h9,h10,m31⟩;simp only[h3,h10,Qa,seval];have hpos:0<(Qp t).length:=QYN.2 (Kw t);have ia:Qb [fr] 1 none (.vec 0 31 1 0 (Qp s).length false) ((done.length:Nat):Int)=some (.vptr 0 31 1 done.length 0):=by
  have e:Am.Qf [fr] 0 31=.vec 1 1 (done.map Zn++List.replicate (Qp t).length (.str [])):=m31;simp only[Qb,e,Qi,if_true,QYT];simp;omega
 have ist:∀x:List UInt8,QV [fr] (.vptr 0 31 1 done.length 0) [.str x]=some [QK fr 31 (.vec 1 1 ((done++[x]).map Zn++List.replicate ((Qp t).length-1) (.str [])))]:=by
  intro x;have e:Am.Qf [fr] 0 31=.vec 1 1 (done.map Zn++List.replicate (Qp t).length (.str [])):=m31;have hy:(done.map Zn++List.replicate (Qp t).length (.str []))[done.length]? = some (.str []):=by
   rw[QYS (by simp)];simp[hpos]
  have hx:ZL (.str []) 0 [.str x]=.str x:=rfl;simp only[QV,e,hy,if_true,←RP done x _ hpos];simp[AV.cells,AV.rfL,AV.rf,Am.put,hx]
 have ew:IntKind.i64.wrap ((done.length:Nat)+1:Int)=((done.length+1:Nat):Int):=by rw[QE];omega
 rcases QwB t with hd|⟨o,ho⟩
 ·have hp1:=RM hd;have hl1:(Qp t).length=1:=by rw[hp1];rfl
  have d1:decide (((done.length:Nat):Int)<(((Qp s).length-1:Nat):Int))=false:=QZd (by omega);have hi:=ist t;have hrow:(done++[t]).map Zn++List.replicate ((Qp t).length-1) (AV.str [])=(Qp s).map Zn:=by
   rw[hl1,hp,hp1];simp
  have hlen:done.length+1=(Qp s).length:=by omega
  rw[hrow]at hi;rw[hlen]at ew;have hle:((Qp s).length≤(Qp s).length)=True:=eq_true (QXq _);have ht:(((Qp s).map Zn).drop 0).take (Qp s).length=(Qp s).map Zn:=by rw[QX9];exact QX0 (by simp)
  simp only[d1,ia,hi,h0,h9,h10,ew,eE,seval];simp only[Qi,if_true,QYT,QXA,hle,QYj,and_true,QYL,QYh,QZl,Xm,QYC,XZ,QZe];have el:Am.Qf [QK fr 31 (Ob.vec 1 1 ((Qp s).map Zn))] 0 31=.vec 1 1 ((Qp s).map Zn):=QR _ _ _;simp only[AV.still,el,QY3,bne_self_eq_false,QXL,if_false,QX8,QYn,hle,and_self,if_true,ht,Option.bind_some,AV.un,QZe,QYC]
 ·have hp1:=Pj ho;obtain⟨ho1,ho2,ho3⟩:=Pi ho;have hl1:(Qp t).length=(Qp (t.drop (o+1))).length+1:=by rw[hp1];simp
  have hpos2:0<(Qp (t.drop (o+1))).length:=QYN.2 (Kw _);have d1:decide (((done.length:Nat):Int)<(((Qp s).length-1:Nat):Int))=true:=QZi (by omega);have d2:decide ((o:Int)<0)=false:=QZd (by omega);have w1:IntKind.i64.wrap ((o:Int)+0)=(o:Int):=by rw[QE];omega
  have w2:IntKind.i64.wrap ((o:Int)+1)=((o+1:Nat):Int):=by rw[QE];omega
  have hi:=ist (t.take o);simp only[d1,h0,h1,Qa,seval];refine aC (QQf t) ?_;have hle1:(0≤o∧o≤t.length)=True:=eq_true ⟨QXA _,by omega⟩;have hle2:(o+1≤t.length∧t.length≤t.length)=True:=eq_true ⟨by omega,QXq _⟩;have ht2:(t.drop (o+1)).take (t.length-(o+1))=t.drop (o+1):=QX0 (by simp);simp only[ho,d2,w1,w2,Qi,QYT,hle1,hle2,ht2,QYL,h0,h1,h2,h9,h10,eE,seval];simp only[ia,hi,ew,Qa,seval];have hlen:(done++[t.take o]).length=done.length+1:=by simp
  have hk:(Qp t).length-1=(Qp (t.drop (o+1))).length:=by omega
  exact⟨(Qp (t.drop (o+1))).length,by omega,_,_,t.drop (o+1),done++[t.take o],rfl,rfl,by rw[hp,hp1];simp,by rw[hlen];omega,by simp;omega,(by rfl),(by exact h1),(by exact h2),(by exact h3),(by exact h9),by rw[hlen]<;>first|rfl|simp only[eE,seval],by rw[←hk]<;>exact QR _ _ _⟩

def BB (c:UInt8):Bool:=decide (97≤c.toNat)&&decide (c.toNat≤122)
def BC (c:UInt8):Bool:=decide (65≤c.toNat)&&decide (c.toNat≤90)

theorem QwC (c:UInt8):Qk Tryz.prog 199 [.int .u8 (c.toNat:Nat)] (.bool (BB c)):=by
 refine QN3.fn (by simp) ?_;have e1:decide ((c.toNat:Int)≥97)=decide (97≤c.toNat):=by rw[decide_eq_decide];omega
 have e2:decide ((c.toNat:Int)≤122)=decide (c.toNat≤122):=by rw[decide_eq_decide];omega
 simp only[e1,BB,Qa,seval];cases h:decide (97≤c.toNat)<;>simp only[e2,QY3,QYW,Qa,seval]

theorem QwD (c:UInt8):Qk Tryz.prog 200 [.int .u8 (c.toNat:Nat)] (.bool (BC c)):=by
 refine QN6.fn (by simp) ?_;have e1:decide ((c.toNat:Int)≥65)=decide (65≤c.toNat):=by rw[decide_eq_decide];omega
 have e2:decide ((c.toNat:Int)≤90)=decide (c.toNat≤90):=by rw[decide_eq_decide];omega
 simp only[e1,BC,Qa,seval];cases h:decide (65≤c.toNat)<;>simp only[e2,QY3,QYW,Qa,seval]

theorem RQ (c:UInt8):Je c=(BB c||BC c || !((c.toNat:Int) != 95) || !(decide ((c.toNat:Int)<48)||decide ((c.toNat:Int) > 57))):=by
 unfold Je JH BB BC;generalize c.toNat=x;rw[QYm];simp only[QXw,QXQ,QXx,QXy,QYq,bne_eq_false_iff_eq,QYl,QZj];omega

def PrI (s:List UInt8)(k:Nat)(st:St):Prop :=
 ∃f i,st=⟨f,[Qc],[]⟩∧k=s.length-i∧1≤i∧QB (pq s) i=true∧f 0=.str s∧f 3=.int .i64 (i:Nat)

theorem RS (s:List UInt8):Qk Tryz.prog 127 [.str s] (.bool (QY s)):=by
 refine QMB.fn (by simp) ?_;simp only[Qa,seval];by_cases hl:s.length=0
 ·have d0:((s.length:Int)==0)=true:=by rw[hl];rfl
  have e:QY s=false:=by rw[KN,hl];rfl
  simp only[d0,e,Qa,seval]
 have d0:((s.length:Int)==0)=false:=by rw[QY8];omega
 by_cases hm:s.length≤40
 case neg=>
  have d1:decide ((s.length:Int) > 40)=true:=QZi (by omega);have e:QY s=false:=by rw[KN,QZd hm,QZk,QYW]
  simp only[d0,d1,e,Qa,seval]
 have d1:decide ((s.length:Int) > 40)=false:=QZd (by omega);have hp:QY s=QB (pq s) s.length:=by rw[KN,QZi hm,QZi (by omega:1≤s.length)];rfl
 obtain⟨c,hc⟩:∃c,s[0]? = some c:=⟨s[0]'(by omega),QXt (by omega)⟩;have hq0:QB (pq s) 1=(BB c||BC c):=by
  show(true&&pq s 0)=_;rw[WY hc,QXV rfl];rfl
 have h1:=QwC c;have h2:=QwD c;have hn:QB (pq s) 1=false→QY s=false:=fun h=>by
  rw[hp,QZf];intro h';rw[QL.2 fun k hk=>QL.1 h' k (by omega)]at h;cases h
 have z1:Int.toNat 0=0:=rfl;have go:QB (pq s) 1=true→∀(f:Fr),f 0=.str s→f 3=.int .i64 1→∀Q:Exit→St→Prop,(∀f,QB (pq s) s.length=true→Q (.exit 0) ⟨f,[Qc],[]⟩)→(∀f,f 2=.bool false→QB (pq s) s.length=false→Q .ret ⟨f,[Qc],[]⟩)→QH Tryz.prog (.loop M0) ⟨f,[Qc],[]⟩ Q:=by
  intro hq1 f h0 h3 Q hx hr;refine Qd (PrI s) _ ⟨_,1,rfl,rfl,QXq _,hq1,h0,h3⟩ ?_;clear h0 h3 hc hq0 h1 h2 hn;rintro _ st ⟨f,i,rfl,rfl,h1i,hx1,h0,h3⟩;simp only[h0,h3,Qa,seval];by_cases hlt:i<s.length
  ·obtain⟨c,hc⟩:∃c,s[i]? = some c:=⟨s[i],QXt hlt⟩;have e1:=Ql i _ hlt (by simp only[maxLen];omega);have hs1:=QwC c;have hs2:=QwD c;have hstep:QB (pq s) (i+1)=Je c:=by
    rw[QB,hx1,QY3,WY hc,QXG (by omega)]
   have hend:Je c=false→QB (pq s) s.length=false:=fun h=>by
    rw[QZf];intro h';rw[QL.2 fun k hk=>QL.1 h' k (by omega)]at hstep;rw[h]at hstep;cases hstep
   have fin:∀f':Fr,Je c=true→f' 0=.str s→f' 3=.int .i64 ((i+1:Nat):Int)→∃k,k<s.length-i∧PrI s k ⟨f',[Qc],[]⟩:=by
    intro f' hp h0 h3;exact⟨s.length-(i+1),by omega,f',i+1,rfl,rfl,by omega,by rw[hstep,hp],h0,h3⟩
   have hpc:=RQ c;simp only[Qm hlt,Qi,QYT,hc,h0,h3,Qa,seval];refine aC hs1 ?_;cases a1:BB c
   ·simp only[Qi,QYT,hc,h0,h3,QYz,Qa,seval];refine aC hs2 ?_;cases a2:BC c
    ·cases a3:((c.toNat:Int) != 95)
     ·rw[a1,a2,a3]at hpc;simp only[a3,Qi,QYT,hc,h0,h3,e1,QYz,Qa,seval];exact fin _ (by rw[hpc];rfl) (by exact h0) (by rfl)
     ·cases a4:decide ((c.toNat:Int)<48)
      ·cases a5:decide ((c.toNat:Int) > 57)
       ·rw[a1,a2,a3,a4,a5]at hpc;simp only[a3,a4,a5,Qi,QYT,hc,h0,h3,e1,QYz,Qa,seval];exact fin _ (by rw[hpc];rfl) (by exact h0) (by rfl)
       ·rw[a1,a2,a3,a4,a5]at hpc;simp only[a3,a4,a5,Qi,QYT,hc,h0,h3,QYz,Qa,seval];exact hr _ (by rfl) (hend (by rw[hpc];rfl))
      ·rw[a1,a2,a3,a4]at hpc;simp only[a3,a4,Qi,QYT,hc,h0,h3,QYz,Qa,seval];exact hr _ (by rfl) (hend (by rw[hpc];rfl))
    ·rw[a1,a2]at hpc;simp only[h3,e1,QY4,Qa,seval];exact fin _ (by rw[hpc];rfl) (by exact h0) (by rfl)
   ·rw[a1]at hpc;simp only[h3,e1,QY4,Qa,seval];exact fin _ (by rw[hpc];rfl) (by exact h0) (by rfl)
  ·simp only[Qw hlt,Qa,seval];exact hx _ (QL.2 fun k hk=>QL.1 hx1 k (by omega))
 simp only[d0,d1,z1,hc,Qa,seval];refine aC h1 ?_;cases a1:BB c
 ·simp only[z1,hc,QYz,Qa,seval];refine aC h2 ?_;cases a2:BC c
  ·rw[a1,a2]at hq0;simp only[hn hq0,QYz,Qa,seval]
  ·rw[a1,a2]at hq0;simp only[QY4,Qa,seval];refine go hq0 _ (by rfl) (by rfl) _ (fun f h=>?_) (fun f h2 h=>?_)
   ·simp only[hp,h,Qa,seval]
   ·simp only[hp,h,h2,Qa,seval]
 ·rw[a1,QY6]at hq0;simp only[QY4,Qa,seval];refine go hq0 _ (by rfl) (by rfl) _ (fun f h=>?_) (fun f h2 h=>?_)
  ·simp only[hp,h,Qa,seval]
  ·simp only[hp,h,h2,Qa,seval]

theorem QwE (s:List UInt8):Qk Tryz.prog 126 [.str s] (.bool (Zh s)):=by
 refine QMy.fn (by simp) ?_;simp only[QI,Qa,seval];have e:Zh s=YG.any fun w=>s==w:=rfl
 simp only[YG,List.any_cons,List.any_nil,QZl]at e
 repeat' (first|(refine Q2 (fun h=>?_) (fun h=>?_)<;>simp only[h,QI,Qa,seval])|(refine XG (fun h=>?_) (fun h=>?_)<;>simp only[h,Qn,QI,eE,seval])|(refine XH (fun h=>?_) (fun h=>?_)<;>simp only[h,Qn,QI,eE,seval]))
 all_goals(simp only[*,QY6,QZm,QZl]at e;simp only[e])

theorem z77 (s:List UInt8):Qk Tryz.prog 77 [.str s] (.bool (XM s)):=by
 refine k77.fn (by simp) ?_;simp only[XM,Qa,seval];refine aC (RS s) ?_;cases QY s
 ·simp only[QYW,Qa,seval]
 ·simp only[QY3,Qa,seval];refine aC (QwE s) ?_;simp only[Qa,seval]

def FuI (s:List UInt8)(k:Nat)(st:St):Prop :=
 ∃f i p,st=⟨f,[Qc],[]⟩∧k=s.length-i∧i≤s.length∧p.length≤i∧(∀c∈p,c≠(46:UInt8))∧(Qp s).all QY=(Qp (p++s.drop i)).all QY∧f 0=.str s∧f 3=.str p∧f 4=.int .i64 (i:Nat)

theorem QQh (s:List UInt8):Qk Tryz.prog 124 [.str s] (.bool (decide (s.length≤120)&&(Qp s).all QY)):=by
 refine QMs.fn (by simp) ?_;simp only[Qa,seval];by_cases hm:s.length≤120
 case neg=>
  have d1:decide ((s.length:Int) > 120)=true:=QZi (by omega);simp only[d1,QZd hm,QYW,Qa,seval]
 have d1:decide ((s.length:Int) > 120)=false:=QZd (by omega);simp only[d1,QZi hm,QY3,Qa,seval];refine Qd (FuI s) _ ⟨_,0,[],rfl,rfl,QXA _,QXq _,by simp,rfl,(by rfl),(by rfl),(by rfl)⟩ ?_;rintro _ st ⟨f,i,p,rfl,rfl,hi,hpl,hpd,hx,h0,h3,h4⟩;simp only[h0,h4,Qa,seval];by_cases hlt:i<s.length
 ·obtain⟨c,hc⟩:∃c,s[i]? = some c:=⟨s[i],QXt hlt⟩;have e1:=Ql i _ hlt (by simp only[maxLen];omega);have hd:s.drop i=c :: s.drop (i+1):=by
   rw[QYa hlt];congr 1
   exact(QXs.1 hc).2
  have hts:(s.drop i).take (i+1-i)=[c]:=by
   rw[hd,show i+1-i=1 by omega];rfl
  simp only[Qm hlt,Qi,QYT,hc,h0,h4,Qa,seval];by_cases hdot:c=46
  ·subst hdot;have b0:((((46:UInt8).toNat:Nat):Int) != 46)=false:=rfl;have hs:(Qp s).all QY=(QY p&&(Qp (s.drop (i+1))).all QY):=by
    rw[hx,hd,GB hpd];rfl
   simp only[h3,Qa,seval];refine aC (RS p) ?_;cases hp:QY p
   ·rw[hp,QYW]at hs;simp only[hs,QYz,Qa,seval]
   ·rw[hp,QY3]at hs;simp only[h4,e1,QY4,Qa,seval];exact⟨s.length-(i+1),by omega,_,i+1,[],rfl,rfl,by omega,QXA _,by simp,by rw[hs];rfl,(by exact h0),(by rfl),(by rfl)⟩
  ·have b0:(((c.toNat:Nat):Int) != 46)=true:=by
    rw[QXS];intro h
    apply hdot
    rw[←UInt8.toNat_inj];have:c.toNat=46:=by omega
    rw[this];rfl
   have hle:(i≤i+1∧i+1≤s.length)=True:=eq_true ⟨by omega,by omega⟩;have hsum:(p.length≤9223372036854775806)=True:=eq_true (by omega);simp only[b0,h0,h3,h4,e1,Zv,Zg,QX,Qi,QYT,hle,hts,QI,hsum,Qa,seval];exact⟨s.length-(i+1),by omega,_,i+1,p++[c],rfl,rfl,by omega,by simp;omega,fun x hx=>by
    rcases QYK.1 hx with h|h
    ·exact hpd x h
    ·simp at h;subst h;exact hdot,by rw[hx,hd];simp,(by exact h0),(by rfl),(by rfl)⟩
 ·have hx':(Qp s).all QY=QY p:=by
   rw[hx,QX3 (by omega),QYv,WX hpd];simp
  simp only[Qw hlt,h3,hx',Qa,seval];refine aC (RS p) ?_;simp only[Qa,seval]

def Yb (s:List UInt8):Nat→Option Nat
 |0=>none
 |j+1=>if s[j]? = some 46 then some j else Yb s j

theorem Ut (s:List UInt8):∀n,match Yb s n with
  |none=>∀k,k<n→s[k]?≠some 46
  |some j=>j<n∧s[j]? = some 46∧∀k,j<k→k<n→s[k]?≠some 46
 |0=>by simp[Yb]
 |n+1=>by
  unfold Yb;split
  ·rename_i h;split at h
   ·cases h
   ·rename_i h';have:=Ut s n;rw[h]at this;intro k hk;rcases Nat.lt_succ_iff_lt_or_eq.1 hk with h1|rfl
    ·exact this k h1
    ·exact h'
  ·rename_i j h;split at h
   ·rename_i h';cases h;exact⟨by omega,h',fun k h1 h2=>by omega⟩
   ·rename_i h';have:=Ut s n;rw[h]at this;exact⟨by omega,this.2.1,fun k h1 h2=>by
     rcases Nat.lt_succ_iff_lt_or_eq.1 h2 with h3|rfl
     ·exact this.2.2 k h1 h3
     ·exact h'⟩

def ZS (s:List UInt8):List UInt8×List UInt8:=match Yb s s.length with
 |none=>([],s)
 |some j=>(s.take j,s.drop (j+1))

theorem BD (s:List UInt8):((ZS s).1=[]∧(ZS s).2=s∧∀c∈s,c≠46)∨(s=(ZS s).1++46 :: (ZS s).2∧∀c∈(ZS s).2,c≠46):=by
 have h:=Ut s s.length;unfold ZS;cases hl:Yb s s.length with
 |none=>
  rw[hl]at h;refine .inl ⟨rfl,rfl,fun c hc e=>?_⟩;subst e;obtain⟨k,hk⟩:=QXD.1 hc;exact h k (QXs.1 hk).1 hk
 |some j=>
  rw[hl]at h;obtain⟨h1,h2,h3⟩:=h;refine .inr ⟨?_,fun c hc e=>?_⟩
  ·have:s[j]=46:=(QXs.1 h2).2;show s=s.take j++46 :: s.drop (j+1);rw[←this,←QYa h1,QYI]
  ·subst e;obtain⟨k,hk⟩:=QXD.1 hc;rw[QX6]at hk;exact h3 (j+1+k) (by omega) (QXs.1 hk).1 hk

def SdI (s:List UInt8)(k:Nat)(st:St):Prop :=
 ∃f,st=⟨f,[Qc],[]⟩∧k≤s.length∧Yb s s.length=Yb s k∧f 0=.str s∧f 4=.int .i64 ((k:Int)-1)

theorem QQi (s:List UInt8)(hs:s.length≤120):Qk Tryz.prog 125 [.str s] (.tup [.str (ZS s).1,.str (ZS s).2]):=by
 refine QMv.fn (by simp) ?_;have w0:IntKind.i64.wrap ((s.length:Int)-1)=(s.length:Int)-1:=by rw[QE];omega
 simp only[w0,Qa,seval];refine Qd (SdI s) _ ⟨_,rfl,QXq _,rfl,(by rfl),(by rfl)⟩ ?_;rintro k st ⟨f,rfl,hk,hx,h0,h4⟩;simp only[h4,Qa,seval];cases k with
 |zero=>
  have d0:decide (((0:Nat):Int)-1≥0)=false:=rfl;have e:ZS s=([],s):=by unfold ZS;rw[hx];rfl
  simp only[e,h0,Qa,seval]
 |succ j=>
  have j1:((j+1:Nat):Int)-1=(j:Int):=by omega
  have d0:decide (((j:Nat):Int)≥0)=true:=QZi (by omega);have w1:IntKind.i64.wrap ((j:Int)-1)=(j:Int)-1:=by rw[QE];omega
  have w2:IntKind.i64.wrap ((j:Int)+1)=((j+1:Nat):Int):=by rw[QE];omega
  obtain⟨c,hc⟩:∃c,s[j]? = some c:=⟨s[j]'(by omega),QXt (by omega)⟩;simp only[j1,Qi,QYT,hc,h0,h4,Qa,seval];by_cases hdot:c=46
  ·subst hdot;have b0:((((46:UInt8).toNat:Nat):Int)==46)=true:=rfl;have e:ZS s=(s.take j,s.drop (j+1)):=by
    unfold ZS;rw[hx];show(match (if s[j]? = some 46 then some j else Yb s j)with|none=>([],s)|some j=>(s.take j,s.drop (j+1)))=_;rw[QXV hc]
   have hle:(0≤j∧j≤s.length)=True:=eq_true ⟨by omega,by omega⟩;have hle2:(j+1≤s.length∧s.length≤s.length)=True:=eq_true ⟨by omega,QXq _⟩;have ht:((s.drop 0).take j)=s.take j:=by simp
   have ht2:((s.drop (j+1)).take (s.length-(j+1)))=s.drop (j+1):=QX0 (by simp);simp only[w2,j1,e,Zv,Zg,QX,QYL,Qi,QYT,hle,hle2,ht2,h0,h4,Qa,seval]
  ·have b0:(((c.toNat:Nat):Int)==46)=false:=by
    rw[QY8];intro h
    apply hdot
    rw[←UInt8.toNat_inj];have:c.toNat=46:=by omega
    rw[this];rfl
   have hne:¬s[j]? = some 46:=fun h=>by rw[hc]at h;cases h;exact hdot rfl
   simp only[b0,j1,w1,h4,Qa,seval];exact⟨j,by omega,_,rfl,by omega,by rw[hx];show(if s[j]? = some 46 then some j else Yb s j)=_;rw[QXG hne],(by exact h0),(by rfl)⟩

def Pk (u:List UInt8):Bool:=if u=[]then false else(Qp u).any Zh

def DfI (s:List UInt8)(k:Nat)(st:St):Prop :=
 ∃f u,st=⟨f,[Qc],[]⟩∧k=u.length∧u.length≤120∧(u≠[]→(Qp u).all QY=true)∧(Qp s).any Zh=Pk u∧f 0=.str u

theorem z76 (s:List UInt8):Qk Tryz.prog 76 [.str s] (.bool (Ke s)):=by
 refine k76.fn (by simp) ?_;simp only[Ke,Qa,seval];refine aC (QQh s) ?_;cases hf:(decide (s.length≤120)&&(Qp s).all QY)
 ·simp only[QYW,QYz,Qa,seval]
 simp only[QY3,QY4,Qa,seval];obtain⟨hl,ha⟩:=QXu.1 hf;have hl:=of_decide_eq_true hl;have hne:s≠[]:=by
  rintro rfl;cases ha
 refine Qd (DfI s) _ ⟨_,s,rfl,rfl,hl,fun _=>ha,by unfold Pk;rw[QXG hne],(by rfl)⟩ ?_;rintro _ st ⟨f,u,rfl,rfl,hul,hua,hx,h0⟩;simp only[h0,QI,Qa,seval];by_cases hu:u=[]
 ·subst hu;have b0:(!(([]:List UInt8)==[]))=false:=rfl;have e:(Qp s).any Zh=false:=hx;simp only[b0,e,QYz,Qa,seval]
 ·have b0:(!(u==[]))=true:=by simp[hu]
  simp only[b0,h0,Qa,seval];refine aC (QQi u hul) ?_;simp only[Qa,seval];refine aC (QwE (ZS u).2) ?_;have hw:Pk u=(Pk (ZS u).1||Zh (ZS u).2):=by
   unfold Pk;rw[QXG hu];rcases BD u with⟨h1,h2,h3⟩|⟨h1,h2⟩
   ·rw[h1,h2,QXV rfl,WX h3];simp
   ·have hp:Qp u=Qp (ZS u).1++[(ZS u).2]:=by
     conv=>lhs;rw[h1]
     exact GC h2
    have ha':=hua hu;rw[hp,QYJ,QXQ]at ha';have hn:(ZS u).1≠[]:=by
     intro h;rw[h]at ha';cases ha'.1
    rw[QXG hn,hp];simp
  cases hq:Zh (ZS u).2
  ·rw[hq,QZl]at hw;simp only[Qa,seval];have hlen:(ZS u).1.length<u.length∧((ZS u).1≠[]→(Qp (ZS u).1).all QY=true):=by
    rcases BD u with⟨h1,h2,h3⟩|⟨h1,h2⟩
    ·rw[h1];exact⟨QYN.2 hu,fun h=>absurd rfl h⟩
    ·have hp:Qp u=Qp (ZS u).1++[(ZS u).2]:=by
      conv=>lhs;rw[h1]
      exact GC h2
     have ha':=hua hu;rw[hp,QYJ,QXQ]at ha';refine⟨?_,fun _=>ha'.1⟩;have:=congrArg List.length h1;simp at this;omega
   exact⟨(ZS u).1.length,hlen.1,_,(ZS u).1,rfl,rfl,by omega,hlen.2,by rw[hx,hw],(by rfl)⟩
  ·rw[hq,QZm]at hw;have e:(Qp s).any Zh=true:=hx.trans hw;simp only[e,QY4,Qa,seval]

theorem Xr {α:Type}{l:List α}{q:α→Bool}:(l.any fun x=>!q x)=!l.all q:=by
 induction l with
 |nil=>rfl
 |cons x l ih=>simp[ih]

theorem QwF (s:List UInt8)(hs:s.length≤17592186044000):Qk Tryz.prog 207 [.str s,.str [46]] (.list ((Qp s).map Zn)):=by
 refine QiY.fn (by simp) ?_;simp only[Qa,seval];refine aC (QQg s hs) ?_;simp only[Qa,seval]

def IfI (s:List UInt8)(k:Nat)(st:St):Prop :=
 ∃f i,st=⟨f,[Qc],[]⟩∧k=(Qp s).length-i∧((Qp s).take i).all QY=true∧f 0=.str s∧f 6=.list ((Qp s).map Zn)∧f 7=.int .i64 ((Qp s).length:Nat)∧f 8=.int .i64 (i:Nat)

theorem QQj (s:List UInt8)(hs:s.length≤17592186044000):Qk Tryz.prog 205 [.str s] (.bool (decide (s.length≤120)&&(Qp s).all QY)):=by
 have hl:=Ur s;have hc:s.count 46≤s.length:=List.count_le_length;refine QiO.fn (by simp) ?_;simp only[Qa,seval];refine aC (QwF s hs) ?_;simp only[QYn,Qa,seval];refine Qd (IfI s) _ ⟨_,0,rfl,rfl,rfl,(by rfl),(by rfl),(by rfl),(by rfl)⟩ ?_;rintro _ st ⟨f,i,rfl,rfl,hx,h0,h6,h7,h8⟩;simp only[h7,h8,Qa,seval];by_cases hlt:i<(Qp s).length
 ·obtain⟨x,hi⟩:∃x,(Qp s)[i]? = some x:=⟨(Qp s)[i],QXt hlt⟩;have hg:((Qp s).map Zn)[i]? = some (.str x):=by simp[hi,Zn]
  have e1:=Ql i _ hlt (by simp only[maxLen];omega);have ht:=Q6 (q:=QY) hi;rw[hx,QY3]at ht;simp only[Qm hlt,Qi,QYT,Qb,hg,h6,h8,eE,seval];refine aC (QwA x) ?_;cases hp:QY x
  ·have hf:(Qp s).all QY=false:=by
    rw[QZf];intro h';rw[QXE.1 h' x (QXF hi)]at hp;cases hp
   simp only[hf,QYz,QZk,Qa,seval]
  ·rw[hp]at ht;simp only[h8,e1,QY4,Qa,seval];exact⟨(Qp s).length-(i+1),by omega,_,i+1,rfl,rfl,ht,(by exact h0),(by exact h6),(by exact h7),(by rfl)⟩
 ·rw[QX0 (by omega)]at hx;have e:decide ((s.length:Int)≤120)=decide (s.length≤120):=by rw[decide_eq_decide];omega
  simp only[Qw hlt,h0,hx,e,QYF,Qa,seval]

theorem QHr (s:List UInt8)(m:Qo):Qg Tryz.prog 208 [Zn s] m fun y m1=>y=.bool (Zh s)∧m1=m:=by
 refine Rw.go (by simp) ?_;simp only[Zn,QI,Qa,seval];have e:Zh s=YG.any fun w=>s==w:=rfl
 simp only[YG,List.any_cons,List.any_nil,QZl]at e
 repeat' (first|(refine Q2 (fun h=>?_) (fun h=>?_)<;>simp only[h,QI,Qa,seval])|(refine XG (fun h=>?_) (fun h=>?_)<;>simp only[h,Qn,QI,eE,seval])|(refine XH (fun h=>?_) (fun h=>?_)<;>simp only[h,Qn,QI,eE,seval]))
 all_goals(simp only[*,QY6,QZm,QZl]at e;simp only[e])

theorem QwG (s:List UInt8):Qk Tryz.prog 141 [.str s] (.bool (XM s)):=by
 refine Qex.fn (by simp) ?_;simp only[XM,Qa,seval];refine aC (QwA s) ?_;cases QY s
 ·simp only[QYW,Qa,seval]
 ·simp only[QY3,Qa,seval];refine aC (QQb s) ?_;simp only[Qa,seval]

theorem QwH (s:List UInt8)(hs:s.length≤17592186044000):Qk Tryz.prog 138 [.str s] (.bool (Ke s)):=by
 have hl:=Ur s;have hc:s.count 46≤s.length:=List.count_le_length;refine Qei.fn (by simp) ?_;simp only[Ke,Qa,seval];refine aC (QQj s hs) ?_;cases hf:(decide (s.length≤120)&&(Qp s).all QY)
 ·simp only[QYW,Qa,seval]
 ·simp only[QY3,Qa,seval];refine aC (QwF s hs) ?_;simp only[Qa,seval];refine Qj (QP5 (Qp s) (by simp only[maxLen];omega) Zh 208 [] _ fun o _=>QHr o _) (by simp only[QXY,QYt,Qa,seval]<;>rfl) ?_;simp only[Qa,seval]

section
variable (m:Qo)

theorem QQk (g:PG):Qg Tryz.prog 134 [Qh g] m fun y m1=>y=.bool (!Ja g)∧m1=m:=by
 refine Qd3.go (by simp) ?_;have e:decide ((g.ops.length:Int) > 64)=!Ja g:=by unfold Ja;exact(by rw[QYm];simp only[QXx,QYq,QZj];omega)
 simp only[Qh,PG.cells,QYn,e,eE,seval]

theorem QQl (x:PE):Qg Tryz.prog 136 [Qq x] m fun y m1=>y=.bool (!JD x)∧m1=m:=by
 refine QMT.go (by simp) ?_;have e1:decide ((x.items.length:Int)<1)=!decide (1≤x.items.length):=(by rw[QYm];simp only[QXx,QYq,QZj];omega);have e2:decide ((x.items.length:Int) > 64)=!decide (x.items.length≤64):=(by rw[QYm];simp only[QXx,QYq,QZj];omega);have e3:decide ((x.free.length:Int) > 16)=!decide (x.free.length≤16):=(by rw[QYm];simp only[QXx,QYq,QZj];omega);simp only[Qq,PE.cells,QYn,e1,JD,eE,seval];cases a1:decide (1≤x.items.length)<;>cases a2:decide (x.items.length≤64)<;>cases a3:decide (x.free.length≤16)<;>simp only[a2,a3,QY4,QYz,QYF,QZk,QYn,e2,e3,eE,seval]

theorem QQm (o:PO):Qg Tryz.prog 140 [Qr o] m fun y m1=>y=.bool (!XM o.name)∧m1=m:=by
 refine Qes.go (by simp) ?_;simp only[Qr,PO.cells,eE,seval];refine aC (QwG o.name) ?_;simp only[Qa,seval]

theorem QQn (o:PI):Qg Tryz.prog 144 [Q4 o] m fun y m1=>y=.bool (!XM o.name)∧m1=m:=by
 refine QM2.go (by simp) ?_;simp only[Q4,PI.cells,eE,seval];refine aC (QwG o.name) ?_;simp only[Qa,seval]

theorem QQo (g:PG)(hs:g.name.length≤17592186044000)(hl:g.ops.length≤maxLen):Qg Tryz.prog 137 [Qh g] m fun y m1=>y=.bool (!Kx g)∧m1=m:=by
 refine Qed.go (by simp) ?_;simp only[Qh,PG.cells,Kx,eE,seval];refine aC (QwH g.name hs) ?_;cases Ke g.name
 ·simp only[QYW,QYz,Qa,seval]
 ·simp only[QY3,QY4,eE,seval];refine Qj (Bz g.ops hl (fun o=>!XM o.name) 140 [] _ fun o _=>QQm _ o) (by simp only[QXY,QYt,Qa,seval]<;>rfl) ?_;simp only[Xr,Qa,seval]

theorem QQp (x:PE)(hs:x.name.length≤17592186044000)(hl:x.items.length≤maxLen):Qg Tryz.prog 142 [Qq x] m fun y m1=>y=.bool (!KY x)∧m1=m:=by
 refine QMW.go (by simp) ?_;simp only[Qq,PE.cells,KY,eE,seval];refine aC (QwH x.name hs) ?_;cases Ke x.name
 ·simp only[QYW,QYz,Qa,seval]
 ·simp only[QY3,QY4,eE,seval];refine Qj (Cc x.items hl (fun o=>!XM o.name) 144 [] _ fun o _=>QQn _ o) (by simp only[QXY,QYt,Qa,seval]<;>rfl) ?_;simp only[Xr,Qa,seval]

theorem QQq (x y:PG):Qg Tryz.prog 146 [Qh x,Qh y] m fun r m1=>r=.bool ((XN PG.name) x y)∧m1=m:=by
 refine QM5.go (by simp) ?_;simp only[Qh,PG.cells,QI,XN,eE,seval]

theorem QQr (x y:PE):Qg Tryz.prog 148 [Qq x,Qq y] m fun r m1=>r=.bool ((XN PE.name) x y)∧m1=m:=by
 refine QM8.go (by simp) ?_;simp only[Qq,PE.cells,QI,XN,eE,seval]

theorem QQs (x y:PO):Qg Tryz.prog 151 [Qr x,Qr y] m fun r m1=>r=.bool ((Zd PO.num) x y)∧m1=m:=by
 refine Qfe.go (by simp) ?_;simp only[Qr,PO.cells,Zd,eE,seval]

theorem QQt (x y:PI):Qg Tryz.prog 154 [Q4 x,Q4 y] m fun r m1=>r=.bool ((Zd PI.num) x y)∧m1=m:=by
 refine QNh.go (by simp) ?_;simp only[Q4,PI.cells,Zd,eE,seval]

theorem QQu (g:PG)(hl:g.ops.length≤maxLen):Qg Tryz.prog 149 [Qh g] m fun y m1=>y=.bool (!Jp g)∧m1=m:=by
 refine QeY.go (by simp) ?_;simp only[Qh,PG.cells,Jp,eE,seval];refine Qj (QP7 g.ops hl (Zd PO.num) 151 [] _ fun x _ y _=>QQs _ x y) (by simp only[QXY,QYt,Qa,seval]<;>rfl) ?_;simp only[Qa,seval]

theorem QQv (x:PE)(hl:x.items.length≤maxLen):Qg Tryz.prog 152 [Qq x] m fun y m1=>y=.bool (!JP x)∧m1=m:=by
 refine QNb.go (by simp) ?_;simp only[Qq,PE.cells,JP,eE,seval];refine Qj (QP9 x.items hl (Zd PI.num) 154 [] _ fun x _ y _=>QQt _ x y) (by simp only[QXY,QYt,Qa,seval]<;>rfl) ?_;simp only[Qa,seval]

end

section
variable {M:Nat}(P:PL)(hP:P.ok M)(hM:M≤17592186044000)
include hP hM

omit hM in
theorem z83:Qk Tryz.prog 83 [P.av] (.bool (!Hp P)):=by
 have e0:P.av=.agg [.list (P.progs.map Qh),.list (P.enums.map Qq)]:=rfl;have e1:decide ((if (P.progs.length:Int)<(P.enums.length:Int)then(P.enums.length:Int)else(P.progs.length:Int)) > 64)=!(decide (P.progs.length≤64)&&decide (P.enums.length≤64)):=by
  rw[Bool.not_and];split<;>exact(by rw[QYm];simp only[QXx,QYq,QZj,QXw];omega)
 refine k83.fn (by simp) ?_;simp only[e0,QYn,e1,Hp,eE,seval];cases(decide (P.progs.length≤64)&&decide (P.enums.length≤64))
 ·simp only[QYz,QYW,Qa,seval]
 simp only[QY4,QY3,eE,seval];refine Qj (Ds P.progs hP.len1 (fun g=>!Ja g) 134 [] _ fun o _=>QQk _ o) (by simp only[QXY,QYt,Qa,seval]<;>rfl) ?_;simp only[Xr,Qa,seval];cases P.progs.all Ja
 ·simp only[QYz,QYW,Qa,seval]
 simp only[QY4,QY3,eE,seval];refine Qj (HF P.enums hP.len2 (fun g=>!JD g) 136 [] _ fun o _=>QQl _ o) (by simp only[QXY,QYt,Qa,seval]<;>rfl) ?_;simp only[Xr,Qa,seval]

omit hM in
theorem QQw (hN1:∀g∈P.progs,g.name.length≤17592186044000)(hN2:∀g∈P.enums,g.name.length≤17592186044000):Qk Tryz.prog 84 [P.av] (.bool (!Bv P)):=by
 have e0:P.av=.agg [.list (P.progs.map Qh),.list (P.enums.map Qq)]:=rfl;refine k84.fn (by simp) ?_;simp only[e0,Bv,eE,seval];refine Qj (Ds P.progs hP.len1 (fun g=>!Kx g) 137 [] _ fun o ho=>QQo _ o (hN1 o ho) (hP.progs o ho).len) (by simp only[QXY,QYt,Qa,seval]<;>rfl) ?_;simp only[Xr,Qa,seval];cases P.progs.all Kx
 ·simp only[QYz,QYW,Qa,seval]
 simp only[QY4,QY3,eE,seval];refine Qj (HF P.enums hP.len2 (fun g=>!KY g) 142 [] _ fun o ho=>QQp _ o (hN2 o ho) (hP.enums o ho).len1) (by simp only[QXY,QYt,Qa,seval]<;>rfl) ?_;simp only[Xr,Qa,seval]

omit hM in
theorem z85:Qk Tryz.prog 85 [P.av] (.bool (!Hq P)):=by
 have e0:P.av=.agg [.list (P.progs.map Qh),.list (P.enums.map Qq)]:=rfl;refine k85.fn (by simp) ?_;simp only[e0,Hq,eE,seval];refine Qj (QP6 P.progs hP.len1 (XN PG.name) 146 [] _ fun x _ y _=>QQq _ x y) (by simp only[QXY,QYt,Qa,seval]<;>rfl) ?_;simp only[Qa,seval];cases XW P.progs (XN PG.name)
 ·simp only[QYz,QYW,Qa,seval]
 simp only[QY4,QY3,eE,seval];refine Qj (QP8 P.enums hP.len2 (XN PE.name) 148 [] _ fun x _ y _=>QQr _ x y) (by simp only[QXY,QYt,Qa,seval]<;>rfl) ?_;simp only[Qa,seval];cases XW P.enums (XN PE.name)
 ·simp only[QYz,QYW,Qa,seval]
 simp only[QY4,QY3,eE,seval];refine Qj (Ds P.progs hP.len1 (fun g=>!Jp g) 149 [] _ fun o ho=>QQu _ o (hP.progs o ho).len) (by simp only[QXY,QYt,Qa,seval]<;>rfl) ?_;simp only[Xr,Qa,seval];cases P.progs.all Jp
 ·simp only[QYz,QYW,Qa,seval]
 simp only[QY4,QY3,eE,seval];refine Qj (HF P.enums hP.len2 (fun g=>!JP g) 152 [] _ fun o ho=>QQv _ o (hP.enums o ho).len1) (by simp only[QXY,QYt,Qa,seval]<;>rfl) ?_;simp only[Xr,Qa,seval]

end

theorem Tx (n c:Nat):AV.shN n (.fn (.func c) [] [])=.fn (.func c) [] []:=by
 induction n with
 |zero=>rfl
 |succ n ih=>rw[AV.shN,ih];rfl

theorem QQx (nm:PO→List UInt8)(c:Nat)(hn:∀x,Qk Tryz.prog c [Qr x] (.str (nm x)))(y x:PO)(fr:Nat→Ob)(m:Qo)(h3:fr 3=.cells [.fn (.func c) [] []])(h6:fr 6=.cells x.cells) :
  Qg Tryz.prog 212 [Qr y,.ptr 3 3 0,.ptr 3 6 0] (Qc :: Qc :: Qc :: fr :: m) fun r m1=>r=.bool (nm y==nm x)∧m1=Qc :: Qc :: Qc :: fr :: m:=by
 have hy:=hn y;have hx:=hn x;have g3:∀n,AV.shN n (.fn (.func c) [] [])=.fn (.func c) [] []:=fun n=>Tx n c
 simp only[Qr,PO.cells]at hy hx h6;refine Qjw.go (by simp) ?_;simp only[Qr,PO.cells,h3,g3,eE,seval];refine Ka (fa:=[]) (fb:=[]) (by rfl) hy rfl rfl rfl (.inl rfl) ?_;simp only[h3,h6,g3,eE,seval];refine Ka (fa:=[]) (fb:=[]) (by rfl) hx rfl rfl rfl (.inl rfl) ?_;simp only[QI,Qa,seval]

section
variable (L:List PO)(hl:L.length≤maxLen)(nm:PO→List UInt8)(c:Nat)(m:Qo)

def ReO (k:Nat)(st:St):Prop :=
 ∃f fr i,st=⟨f,fr :: m,[]⟩∧k=L.length-i∧QB (uniq L nm) i=true∧f 0=.list (L.map Qr)∧f 3=.ptr 0 3 0∧f 7=.list (L.map Qr)∧f 8=.int .i64 (L.length:Nat)∧f 9=.int .i64 (i:Nat)∧fr 3=.cells [.fn (.func c) [] []]∧∀s∈[6],(fr s).isRow=false

include hl in
theorem QQy (hn:∀x,Qk Tryz.prog c [Qr x] (.str (nm x))) :
  Qg Tryz.prog 157 [.list (L.map Qr),.fn (.func c) [] []] m fun y m1=>y=.bool (!Kv L nm)∧m1=m:=by
 refine Qfv.go (by simp) ?_;simp only[QYn,eE,seval];refine Qd (ReO L nm c m) _ ⟨_,_,0,rfl,rfl,rfl,(by rfl),(by rfl),(by rfl),(by rfl),(by rfl),(by rfl),by simp<;>rfl⟩ ?_;rintro _ st ⟨f0,fr0,i,rfl,rfl,hx,h00,h30,h70,h80,h90,m30,r6⟩;refine QJ (a:=_) [6] r6 ?_;intro f fr hf hm hn6;have h0:f 0=.list (L.map Qr):=by rw[hf,h00]<;>rfl
 have h3:f 3=.ptr 0 3 0:=by rw[hf,h30]<;>rfl
 have h7:f 7=.list (L.map Qr):=by rw[hf,h70]<;>rfl
 have h8:f 8=.int .i64 (L.length:Nat):=by rw[hf,h80]<;>rfl
 have h9:f 9=.int .i64 (i:Nat):=by rw[hf,h90]<;>rfl
 have m3:fr 3=.cells [.fn (.func c) [] []]:=by rw[hm 3 (by decide),m30]<;>rfl
 have n6:=hn6 6 (by decide);clear hf hm hn6 h00 h30 h70 h80 h90 m30 r6;simp only[h8,h9,Qa,seval];by_cases hlt:i<L.length
 ·obtain⟨x,hi⟩:∃x,L[i]? = some x:=⟨L[i],QXt hlt⟩;have hg:(L.map Qr)[i]? = some (Qr x):=by simp[hi]
  have e1:=Ql i _ hlt hl;have hle:(i≤L.length)=True:=eq_true (by omega);have ht:((L.map Qr).drop 0).take (i-0)=(L.take i).map Qr:=by simp
  have hstep:QB (uniq L nm) (i+1)=!(L.take i).any fun y=>nm y==nm x:=by
   rw[QB,hx,QY3,UU hi,Dr]
  have hcl:=fun(fr:Nat→Ob) (h3:fr 3=.cells [.fn (.func c) [] []]) (h6:fr 6=.cells x.cells)=>Bz (L.take i) (by simp;omega) (fun y=>nm y==nm x) 212 [.ptr 0 3 0,.ptr 0 6 0] (fr :: m) fun y _=>QQx nm c hn y x fr m h3 h6
  simp only[Qm hlt,Qi,QYT,Qb,hg,Qr,PO.cells,n6,h0,h7,h9,Zv,Zg,QX,QY0,QYn,QXA,QXq,hle,true_or,QYL,←List.map_take,eE,seval];refine Qj (hcl _ (by exact m3) (by rfl)) (by simp only[QXY,QYt,h3,Qa,seval]<;>rfl) ?_;cases hp:(L.take i).any fun y=>nm y==nm x
  ·rw[hp]at hstep;simp only[h9,e1,Qa,seval];exact⟨L.length-(i+1),by omega,_,_,i+1,rfl,rfl,hstep,(by exact h0),(by exact h3),(by exact h7),(by exact h8),(by rfl),(by exact m3),by simp<;>rfl⟩
  ·rw[hp]at hstep;have hf:Kv L nm=false:=by
    rw[QZf];intro h';rw[QL.2 fun k hk=>QL.1 h' k (by omega)]at hstep;cases hstep
   simp only[hf,QYz,Qa,seval]
 ·have hf:Kv L nm=true:=QL.2 fun k hk=>QL.1 hx k (by omega)
  simp only[Qw hlt,hf,QY4,Qa,seval]

end

theorem QQz (nm:PI→List UInt8)(c:Nat)(hn:∀x,Qk Tryz.prog c [Q4 x] (.str (nm x)))(y x:PI)(fr:Nat→Ob)(m:Qo)(h3:fr 3=.cells [.fn (.func c) [] []])(h6:fr 6=.cells x.cells) :
  Qg Tryz.prog 213 [Q4 y,.ptr 3 3 0,.ptr 3 6 0] (Qc :: Qc :: Qc :: fr :: m) fun r m1=>r=.bool (nm y==nm x)∧m1=Qc :: Qc :: Qc :: fr :: m:=by
 have hy:=hn y;have hx:=hn x;have g3:∀n,AV.shN n (.fn (.func c) [] [])=.fn (.func c) [] []:=fun n=>Tx n c
 simp only[Q4,PI.cells]at hy hx h6;refine QOg.go (by simp) ?_;simp only[Q4,PI.cells,h3,g3,eE,seval];refine Ka (fa:=[]) (fb:=[]) (by rfl) hy rfl rfl rfl (.inl rfl) ?_;simp only[h3,h6,g3,eE,seval];refine Ka (fa:=[]) (fb:=[]) (by rfl) hx rfl rfl rfl (.inl rfl) ?_;simp only[QI,Qa,seval]

section
variable (L:List PI)(hl:L.length≤maxLen)(nm:PI→List UInt8)(c:Nat)(m:Qo)

def ReI (k:Nat)(st:St):Prop :=
 ∃f fr i,st=⟨f,fr :: m,[]⟩∧k=L.length-i∧QB (uniq L nm) i=true∧f 0=.list (L.map Q4)∧f 3=.ptr 0 3 0∧f 7=.list (L.map Q4)∧f 8=.int .i64 (L.length:Nat)∧f 9=.int .i64 (i:Nat)∧fr 3=.cells [.fn (.func c) [] []]∧∀s∈[6],(fr s).isRow=false

include hl in
theorem QQA (hn:∀x,Qk Tryz.prog c [Q4 x] (.str (nm x))) :
  Qg Tryz.prog 160 [.list (L.map Q4),.fn (.func c) [] []] m fun y m1=>y=.bool (!Kv L nm)∧m1=m:=by
 refine QNq.go (by simp) ?_;simp only[QYn,eE,seval];refine Qd (ReI L nm c m) _ ⟨_,_,0,rfl,rfl,rfl,(by rfl),(by rfl),(by rfl),(by rfl),(by rfl),(by rfl),by simp<;>rfl⟩ ?_;rintro _ st ⟨f0,fr0,i,rfl,rfl,hx,h00,h30,h70,h80,h90,m30,r6⟩;refine QJ (a:=_) [6] r6 ?_;intro f fr hf hm hn6;have h0:f 0=.list (L.map Q4):=by rw[hf,h00]<;>rfl
 have h3:f 3=.ptr 0 3 0:=by rw[hf,h30]<;>rfl
 have h7:f 7=.list (L.map Q4):=by rw[hf,h70]<;>rfl
 have h8:f 8=.int .i64 (L.length:Nat):=by rw[hf,h80]<;>rfl
 have h9:f 9=.int .i64 (i:Nat):=by rw[hf,h90]<;>rfl
 have m3:fr 3=.cells [.fn (.func c) [] []]:=by rw[hm 3 (by decide),m30]<;>rfl
 have n6:=hn6 6 (by decide);clear hf hm hn6 h00 h30 h70 h80 h90 m30 r6;simp only[h8,h9,Qa,seval];by_cases hlt:i<L.length
 ·obtain⟨x,hi⟩:∃x,L[i]? = some x:=⟨L[i],QXt hlt⟩;have hg:(L.map Q4)[i]? = some (Q4 x):=by simp[hi]
  have e1:=Ql i _ hlt hl;have hle:(i≤L.length)=True:=eq_true (by omega);have ht:((L.map Q4).drop 0).take (i-0)=(L.take i).map Q4:=by simp
  have hstep:QB (uniq L nm) (i+1)=!(L.take i).any fun y=>nm y==nm x:=by
   rw[QB,hx,QY3,UU hi,Dr]
  have hcl:=fun(fr:Nat→Ob) (h3:fr 3=.cells [.fn (.func c) [] []]) (h6:fr 6=.cells x.cells)=>Cc (L.take i) (by simp;omega) (fun y=>nm y==nm x) 213 [.ptr 0 3 0,.ptr 0 6 0] (fr :: m) fun y _=>QQz nm c hn y x fr m h3 h6
  simp only[Qm hlt,Qi,QYT,Qb,hg,Q4,PI.cells,n6,h0,h7,h9,Zv,Zg,QX,QY0,QYn,QXA,QXq,hle,true_or,QYL,←List.map_take,eE,seval];refine Qj (hcl _ (by exact m3) (by rfl)) (by simp only[QXY,QYt,h3,Qa,seval]<;>rfl) ?_;cases hp:(L.take i).any fun y=>nm y==nm x
  ·rw[hp]at hstep;simp only[h9,e1,Qa,seval];exact⟨L.length-(i+1),by omega,_,_,i+1,rfl,rfl,hstep,(by exact h0),(by exact h3),(by exact h7),(by exact h8),(by rfl),(by exact m3),by simp<;>rfl⟩
  ·rw[hp]at hstep;have hf:Kv L nm=false:=by
    rw[QZf];intro h';rw[QL.2 fun k hk=>QL.1 h' k (by omega)]at hstep;cases hstep
   simp only[hf,QYz,Qa,seval]
 ·have hf:Kv L nm=true:=QL.2 fun k hk=>QL.1 hx k (by omega)
  simp only[Qw hlt,hf,QY4,Qa,seval]

end

theorem QQB (o:PO):Qk Tryz.prog 158 [Qr o] (.str o.name):=by
 refine QfA.fn (by simp) ?_;simp only[Qr,PO.cells,eE,seval]

theorem QQC (o:PI):Qk Tryz.prog 161 [Q4 o] (.str o.name):=by
 refine QNt.fn (by simp) ?_;simp only[Q4,PI.cells,eE,seval]

theorem QQD (x:PE)(g:PG)(fr:Nat→Ob)(m:Qo)(h2:fr 2=.cells g.cells):Qg Tryz.prog 156 [Qq x,.ptr 3 2 0] (Qc :: Qc :: Qc :: fr :: m) fun y m1=>y=.bool (x.name==g.name)∧m1=Qc :: Qc :: Qc :: fr :: m:=by
 simp only[PG.cells]at h2;refine QNk.go (by simp) ?_;simp only[Qq,PE.cells,h2,QI,eE,seval]

theorem QQE (x:PE)(hl:x.items.length≤maxLen)(m:Qo):Qg Tryz.prog 159 [Qq x] m fun y m1=>y=.bool (!Wy x)∧m1=m:=by
 refine QNn.go (by simp) ?_;simp only[Qq,PE.cells,Wy,eE,seval];refine Qj (QQA x.items hl PI.name 161 _ QQC) (by simp only[QXY,QYt,Qa,seval]<;>rfl) ?_;simp only[Qa,seval]

section
variable {M:Nat}(P:PL)(hP:P.ok M)
include hP

theorem QQF (g:PG)(hl:g.ops.length≤maxLen)(fr:Nat→Ob)(h1:fr 1=.cells [.list (P.progs.map Qh),.list (P.enums.map Qq)]) :
  Qg Tryz.prog 155 [Qh g,.ptr 3 1 0] [Qc,Qc,Qc,fr] fun y m1=>y=.bool (!Ky P g)∧m1=[Qc,Qc,Qc,fr]:=by
 have e:Ky P g=(!(P.enums.any fun e=>e.name==g.name)&&Kv g.ops PO.name):=by rw[Ky,Dr]
 refine Qfj.go (by simp) ?_;simp only[Qh,PG.cells,h1,e,eE,seval];refine Qj (HF P.enums hP.len2 (fun e=>e.name==g.name) 156 [.ptr 0 2 0] _ fun o _=>QQD o g _ _ (by rfl)) (by simp only[QXY,QYt,Qa,seval]<;>rfl) ?_;cases P.enums.any fun e=>e.name==g.name
 ·simp only[QYz,QY3,eE,seval];refine Qj (QQy g.ops hl PO.name 158 _ QQB) (by simp only[QXY,QYt,Qa,seval]<;>rfl) ?_;simp only[Qa,seval]
 ·simp only[QY4,QYW,QYz,Qa,seval]

theorem z86:Qk Tryz.prog 86 [P.av] (.bool (!Bw P)):=by
 have e0:P.av=.agg [.list (P.progs.map Qh),.list (P.enums.map Qq)]:=rfl;refine k86.fn (by simp) ?_;simp only[e0,Bw,eE,seval];refine Qj (Ds P.progs hP.len1 (fun g=>!Ky P g) 155 [.ptr 0 1 0] _ fun o ho=>QQF P hP o (hP.progs o ho).len _ (by rfl)) (by simp only[QXY,QYt,Qa,seval]<;>rfl) ?_;simp only[Xr,Qa,seval];cases P.progs.all (Ky P)
 ·simp only[QYz,QYW,Qa,seval]
 simp only[QY4,QY3,eE,seval];refine Qj (HF P.enums hP.len2 (fun g=>!Wy g) 159 [] _ fun o ho=>QQE o (hP.enums o ho).len1 _) (by simp only[QXY,QYt,Qa,seval]<;>rfl) ?_;simp only[Xr,Qa,seval]

end

theorem QQG (x:PS)(n:Int)(fr:Nat→Ob)(m:Qo)(h3:fr 3=.cells [.int .i64 n]):Qg Tryz.prog 247 [X8 x,.ptr 2 3 0] (Qc :: Qc :: fr :: m) fun y m1=>y=.bool (decide (x.lo≤n)&&decide (n≤x.hi))∧m1=Qc :: Qc :: fr :: m:=by
 refine QOU.go (by simp) ?_;simp only[X8,PS.cells,h3,eE,seval];cases h:decide (x.lo≤n)<;>simp only[h3,QY3,QYW,eE,seval]

theorem QQH (L:List PS)(hl:L.length≤maxLen)(n:Int):Qk Tryz.prog 215 [.list (L.map X8),.int .i64 n] (.bool (kept L n)):=by
 refine QOm.fn (by simp) ?_;simp only[eE,seval];refine Qj (QP3 L hl (fun x=>decide (x.lo≤n)&&decide (n≤x.hi)) 247 [.ptr 0 3 0] _ fun o _=>QQG o n _ _ (by rfl)) (by simp only[QXY,QYt,Qa,seval]<;>rfl) ?_;simp only[kept,Qa,seval]

theorem QQI (o:PO)(m:Qo):Qg Tryz.prog 163 [Qr o] m fun y m1=>y=.bool (!Zq o)∧m1=m:=by
 refine QfK.go (by simp) ?_;have e1:decide (o.num<1)=!decide (o.num≥1):=(by rw[QYm];simp only[QXx,QYq,QZj];omega);have e2:decide (o.num > 65535)=!decide (o.num≤65535):=(by rw[QYm];simp only[QXx,QYq,QZj];omega);simp only[Qr,PO.cells,Zq,e1,eE,seval];cases decide (o.num≥1)<;>simp only[QY4,QYz,QY3,QYW,e2,eE,seval]

theorem QQJ (g:PG)(hl:g.ops.length≤maxLen)(m:Qo):Qg Tryz.prog 162 [Qh g] m fun y m1=>y=.bool (!g.ops.all Zq)∧m1=m:=by
 refine QfF.go (by simp) ?_;simp only[Qh,PG.cells,eE,seval];refine Qj (Bz g.ops hl (fun o=>!Zq o) 163 [] _ fun o _=>QQI o _) (by simp only[QXY,QYt,Qa,seval]<;>rfl) ?_;simp only[Xr,Qa,seval]

theorem QQK (o:PI)(x:PE)(hl:x.free.length≤maxLen)(fr:Nat→Ob)(m:Qo)(h1:fr 1=.cells x.cells):Qg Tryz.prog 214 [Q4 o,.ptr 3 1 0] (Qc :: Qc :: Qc :: fr :: m) fun y m1=>y=.bool (!Ya x o)∧m1=Qc :: Qc :: Qc :: fr :: m:=by
 have hr:Qk Tryz.prog 215 [.list (x.free.map fun n=>AV.agg n.cells),.int .i64 o.num] (.bool (kept x.free o.num)):=QQH x.free hl o.num;simp only[PE.cells]at h1;refine QOj.go (by simp) ?_;have e2:decide (o.num > 2147483647)=!decide (o.num≤2147483647):=(by rw[QYm];simp only[QXx,QYq,QZj];omega);simp only[Q4,PI.cells,Ya,e2,eE,seval];cases decide (o.num≤2147483647)
 ·simp only[QYz,QYW,Qa,seval]
 ·simp only[QY4,QY3,h1,eE,seval];refine aC hr ?_;simp only[Bool.not_not,Qa,seval]

def K2 (l:List PS)(i:Nat):Bool:=Ho l GD i&&Xg l Uc i
theorem N8 (l:List PS):QB (K2 l) l.length=(l.all GD&&XW l Uc):=by
 unfold K2 XW;rw[HD,HE]

def OuI (x:PE)(m:Qo)(k:Nat)(st:St):Prop :=
 ∃f fr i,st=⟨f,fr :: m,[]⟩∧k=x.free.length-i∧QB (K2 x.free) i=true∧f 1=.ptr 0 1 0∧f 6=.list (x.free.map X8)∧f 7=.int .i64 (x.free.length:Nat)∧f 8=.int .i64 (i:Nat)∧fr 1=.cells x.cells∧∀s∈[4],(fr s).isRow=false

theorem QQL (x:PE)(h0:x.items≠[])(hl1:x.items.length≤maxLen)(hl:x.free.length≤maxLen)(m:Qo):Qg Tryz.prog 164 [Qq x] m fun y m1=>y=.bool (!Jq x)∧m1=m:=by
 have hsp:=N8 x.free;have z1:Int.toNat 0=0:=rfl;have z0:(0≤(0:Int))=True:=by simp
 refine QNw.go (by simp) ?_;simp only[Qq,PE.cells,QYn,eE,seval];refine Qd (OuI x m) _ ⟨_,_,0,rfl,rfl,rfl,(by rfl),(by rfl),(by rfl),(by rfl),(by rfl),by simp<;>rfl⟩ ?_;rintro _ st ⟨f0,fr0,i,rfl,rfl,hx,h10,h60,h70,h80,m10,r4⟩;refine QJ (a:=_) [4] r4 ?_;intro f fr hf hm hn4;have h1:f 1=.ptr 0 1 0:=by rw[hf,h10]<;>rfl
 have h6:f 6=.list (x.free.map X8):=by rw[hf,h60]<;>rfl
 have h7:f 7=.int .i64 (x.free.length:Nat):=by rw[hf,h70]<;>rfl
 have h8:f 8=.int .i64 (i:Nat):=by rw[hf,h80]<;>rfl
 have m1:fr 1=.cells x.cells:=by rw[hm 1 (by decide),m10]<;>rfl
 have n4:=hn4 4 (by decide);clear hf hm hn4 h10 h60 h70 h80 m10 r4;simp only[PE.cells]at m1;simp only[h7,h8,Qa,seval];by_cases hlt:i<x.free.length
 ·obtain⟨y,hi⟩:∃y,x.free[i]? = some y:=⟨x.free[i],QXt hlt⟩;have hg:(x.free.map X8)[i]? = some (X8 y):=by simp[hi]
  have e1:=Ql i _ hlt hl;have hstep:QB (K2 x.free) (i+1)=(GD y&&Xg x.free Uc i):=by
   rw[QB,hx,QY3,K2,Yk hi]
  have hend:QB (K2 x.free) (i+1)=false→Jq x=false:=by
   intro h;unfold Jq;rw[←hsp];have:QB (K2 x.free) x.free.length=false:=by
    rw[QZf];intro h';rw[QL.2 fun k hk=>QL.1 h' k (by omega)]at h;cases h
   rw[this];rfl
  have fin:∀(f':Fr) (fr':Nat→Ob),QB (K2 x.free) (i+1)=true→f' 1=.ptr 0 1 0→f' 6=.list (x.free.map X8)→f' 7=.int .i64 (x.free.length:Nat)→f' 8=.int .i64 ((i+1:Nat):Int)→fr' 1=.cells x.cells→(∀s∈[4],(fr' s).isRow=false)→∃k,k<x.free.length-i∧OuI x m k ⟨f',fr' :: m,[]⟩:=by
   intro f' fr' a b c d e g h;exact⟨x.free.length-(i+1),by omega,f',fr',i+1,rfl,rfl,a,b,c,d,e,g,h⟩
  have s1:GD y=(!decide (y.lo<0) && !decide (y.hi > 2147483647) && !decide (y.hi<y.lo)):=by
   unfold GD;exact(by rw[QYm];simp only[QXx,QYq,QZj,QXQ];omega)
  rw[s1]at hstep;simp only[Qm hlt,Qi,QYT,Qb,hg,X8,PS.cells,n4,h6,h8,eE,seval];cases a1:decide (y.lo<0)
  case true=>
   rw[a1,QY4,QYW,QYW,QYW]at hstep;simp only[hend hstep,QYz,Qa,seval]
  cases a2:decide (y.hi > 2147483647)
  case true=>
   rw[a1,a2,QY4,QZk,QYW,QYW]at hstep;simp only[a2,hend hstep,QYz,eE,seval]
  cases a3:decide (y.hi<y.lo)
  case true=>
   rw[a1,a2,a3,QY4,QZk,QYW]at hstep;simp only[a2,a3,hend hstep,QYz,eE,seval]
  rw[a1,a2,a3]at hstep;simp only[QYz,QY3]at hstep;cases i with
  |zero=>
   have d0:decide (((0:Nat):Int) > 0)=false:=rfl;rw[YF]at hstep;simp only[a2,a3,h8,eE,seval];exact fin _ _ hstep (by exact h1) (by exact h6) (by exact h7) (by rfl) (by exact m1) (by simp<;>rfl)
  |succ j=>
   have d0:decide (((j+1:Nat):Int) > 0)=true:=QZi (by omega);obtain⟨z,hj⟩:∃z,x.free[j]? = some z:=⟨x.free[j]'(by omega),QXt (by omega)⟩;have hgj:(x.free.map fun n=>AV.agg n.cells)[j]? = some (.agg z.cells):=by simp[hj]
   simp only[PS.cells]at hgj;rw[Jo hj hi]at hstep;have w:=Wz j _ hlt hl;have s2:Uc z y=!decide (y.lo≤z.hi):=by unfold Uc;exact(by rw[QYm];simp only[QXx,QYq,QZj];omega)
   rw[s2]at hstep;simp only[a2,a3,d0,w,Qi,QYT,Qb,hgj,PS.cells,h1,m1,eE,seval];cases a4:decide (y.lo≤z.hi)
   ·rw[a4]at hstep;simp only[h8,e1,Qa,seval];exact fin _ _ hstep (by exact h1) (by exact h6) (by exact h7) (by rfl) (by exact m1) (by simp<;>rfl)
   ·rw[a4]at hstep;simp only[hend hstep,QYz,Qa,seval]
 ·have hfr:QB (K2 x.free) x.free.length=true:=QL.2 fun k hk=>QL.1 hx k (by omega)
  obtain⟨it,Qe,hits⟩:∃it Qe,x.items=it :: Qe:=by
   cases h:x.items with
   |nil=>exact absurd h h0
   |cons a b=>exact⟨a,b,rfl⟩
  have hr:Jq x=(it.num==0&&x.items.all (Ya x)):=by
   unfold Jq;rw[←hsp,hfr,QY3,Us,hits]
  have hg0:(x.items.map fun n=>AV.agg n.cells)[0]? = some (.agg it.cells):=by simp[hits]
  have hne:(it.num != 0)=!(it.num==0):=rfl;simp only[PI.cells]at hg0;simp only[Qw hlt,Qb,z0,z1,hg0,PI.cells,hr,hne,QXH,QYo,h1,m1,eE,seval];cases it.num==0
  ·simp only[QYz,QYW,Qa,seval]
  ·simp only[QY4,QY3,m1,h1,eE,seval];refine Qj (Cc x.items hl1 (fun o=>!Ya x o) 214 [.ptr 0 1 0] _ fun o _=>QQK o x hl _ _ (by exact m1)) (by simp only[QXY,QYt,h1,Qa,seval]<;>rfl) ?_;simp only[Xr,Qa,seval]

theorem z87 {M:Nat}(P:PL)(hP:P.ok M)(hi:∀e∈P.enums,e.items≠[]):Qk Tryz.prog 87 [P.av] (.bool (!Bx P)):=by
 have e0:P.av=.agg [.list (P.progs.map Qh),.list (P.enums.map Qq)]:=rfl;refine k87.fn (by simp) ?_;simp only[e0,Bx,eE,seval];refine Qj (Ds P.progs hP.len1 (fun g=>!g.ops.all Zq) 162 [] _ fun o ho=>QQJ o (hP.progs o ho).len _) (by simp only[QXY,QYt,Qa,seval]<;>rfl) ?_;simp only[Xr,Qa,seval];cases P.progs.all fun g=>g.ops.all Zq
 ·simp only[QYz,QYW,Qa,seval]
 simp only[QY4,QY3,eE,seval];refine Qj (HF P.enums hP.len2 (fun g=>!Jq g) 164 [] _ fun o ho=>QQL o (hi o ho) (hP.enums o ho).len1 (hP.enums o ho).len2 _) (by simp only[QXY,QYt,Qa,seval]<;>rfl) ?_;simp only[Xr,Qa,seval]

end Go.Proofs.YtipjfckmopekaaaGreatDoor.Va

namespace Go.Proofs.YtipjfckmopekaaaGreatDoor.Va
open Go Am Rc Bt

def bt (s:List UInt8)(i lo hi:Nat):Bool :=
 match s[i]? with
 |some b=>decide (lo≤b.toNat)&&decide (b.toNat≤hi)
 |none=>false
def tl (s:List UInt8):Nat→Nat→Bool
 |_,0=>true
 |i,n+1=>bt s i 128 191&&tl s (i+1) n
def D7 (s:List UInt8)(i b:Nat):Nat :=
 if b<128 then 1
 else if 194≤b∧b≤223∧tl s (i+1) 1=true then 2
 else if b=224∧bt s (i+1) 160 191=true∧tl s (i+2) 1=true then 3
 else if b=237∧bt s (i+1) 128 159=true∧tl s (i+2) 1=true then 3
 else if 225≤b∧b≤239∧b≠237∧tl s (i+1) 2=true then 3
 else if b=240∧bt s (i+1) 144 191=true∧tl s (i+2) 2=true then 4
 else if 241≤b∧b≤243∧tl s (i+1) 3=true then 4
 else if b=244∧bt s (i+1) 128 143=true∧tl s (i+2) 2=true then 4
 else 0
def sz (s:List UInt8)(i:Nat):Nat :=
 match s[i]? with
 |none=>0
 |some c=>D7 s i c.toNat
def WZ (s:List UInt8):Nat→Nat→Int
 |0,_=>-1
 |k+1,i=>if i<s.length then(if sz s i=0 then(i:Int)else WZ s k (i+sz s i))else -1
def Uu (s:List UInt8):Bool:=decide (WZ s s.length 0<0)

theorem QQM (c:UInt8)(n:Nat):decide ((c.toNat:Int)≥(n:Int))=decide (n≤c.toNat):=by simp
theorem QQN (c:UInt8)(n:Nat):decide ((c.toNat:Int)≤(n:Int))=decide (c.toNat≤n):=by simp

theorem BE (s:List UInt8)(i lo hi:Nat):Qk Tryz.prog 272 [.str s,.int .i64 (i:Nat),.int .u8 (lo:Nat),.int .u8 (hi:Nat)] (.bool (bt s i lo hi)):=by
 refine QPm.fn (by simp) ?_;by_cases hlt:i<s.length
 ·obtain⟨c,hc⟩:∃c,s[i]? = some c:=⟨s[i],QXt hlt⟩;have hb:bt s i lo hi=(decide (lo≤c.toNat)&&decide (c.toNat≤hi)):=by simp only[bt,hc]
  simp only[Qm hlt,Qi,QYT,hc,QQM,Qa,seval];by_cases h1:lo≤c.toNat
  ·have d1:decide (lo≤c.toNat)=true:=by simpa using h1
   simp only[d1,Qi,QYT,hc,hb,QQN,QY3,Qa,seval]
  ·have d1:decide (lo≤c.toNat)=false:=by simpa using h1
   simp only[d1,hb,QYW,Qa,seval]
 ·have hb:bt s i lo hi=false:=by simp only[bt,QYQ (Nat.le_of_not_lt hlt)]
  simp only[Qw hlt,hb,Qa,seval]

def QHs (s:List UInt8)(i n:Nat)(k:Nat)(st:St):Prop :=
 ∃f j,st=⟨f,[Qc],[]⟩∧k=n-j∧j≤n∧tl s i n=tl s (i+j) (n-j)∧f 0=.str s∧f 1=.int .i64 (i:Nat)∧f 2=.int .i64 (n:Nat)∧f 7=.int .i64 (j:Nat)

theorem JE (a b:Nat)(h:a+b≤maxLen):IntKind.i64.wrap ((a:Int)+(b:Int))=((a+b:Nat):Int):=by
 simp only[maxLen]at h;rw[QE];omega

theorem HG (s:List UInt8)(i n:Nat)(hi:i+n≤maxLen):Qk Tryz.prog 271 [.str s,.int .i64 (i:Nat),.int .i64 (n:Nat)] (.bool (tl s i n)):=by
 refine QPj.fn (by simp) ?_;simp only[Qa,seval];refine Qd (QHs s i n) _ ⟨_,0,rfl,rfl,QXA _,rfl,rfl,rfl,rfl,rfl⟩ ?_;rintro _ st ⟨f,j,rfl,rfl,hj,ht,h0,h1,h2,h7⟩;simp only[h2,h7,Qa,seval];by_cases hlt:j<n
 ·have e0:=JE i j (by omega);have e1:=Ql j _ hlt (by omega);simp only[Qm hlt,h0,h1,h7,e0,Qa,seval];refine aC (BE s (i+j) 128 191) ?_;have hs:tl s i n=(bt s (i+j) 128 191&&tl s (i+(j+1)) (n-(j+1))):=by
   rw[ht];obtain⟨m,hm⟩:∃m,n-j=m+1:=⟨n-j-1,by omega⟩;rw[hm,show n-(j+1)=m by omega];rfl
  cases hb:bt s (i+j) 128 191
  ·rw[hb]at hs;simp only[hs,QYW,Qa,seval]
  ·rw[hb,QY3]at hs;simp only[h7,e1,Qa,seval];exact⟨n-(j+1),by omega,_,j+1,rfl,rfl,by omega,hs,(by exact h0),(by exact h1),(by exact h2),(by rfl)⟩
 ·have hs:tl s i n=true:=by
   rw[ht,show n-j=0 by omega];rfl
  simp only[Qw hlt,hs,Qa,seval]

def BF (s:List UInt8)(i:Nat)(c:UInt8)(D:Nat)(cond:Prop)(g:List Am.Item):Prop :=
 ∀Q:St→Prop,(∀f' B,(B=true↔cond)→f' 0=.str s→f' 1=.int .i64 (i:Nat)→f' 5=.int .u8 (c.toNat:Nat)→f' D=.bool B→Q ⟨f',[Qc],[]⟩)→
  ∀f,f 0=.str s→f 1=.int .i64 (i:Nat)→f 5=.int .u8 (c.toNat:Nat)→QD Tryz.prog g ⟨f,[Qc],[]⟩ Q

section
variable {s:List UInt8}{i:Nat}{c:UInt8}(hi:i<s.length)(hs:s.length+8≤maxLen)
include hi hs

theorem QQO:BF s i c 12 (194≤c.toNat∧c.toNat≤223∧tl s (i+1) 1=true) Bk:=by
 intro Q hQ f h0 h1 h5;have e1:IntKind.i64.wrap ((i:Int)+1)=((i+1:Nat):Int):=JE i 1 (by omega);have e2:IntKind.i64.wrap ((i:Int)+2)=((i+2:Nat):Int):=JE i 2 (by omega);simp only[Bk,h5,Qa,seval]
 repeat' (first|(refine Q2 (fun h=>?_) (fun h=>?_)<;>simp only[h,h0,h1,h5,e1,e2,eE,seval])|(refine XG (fun h=>?_) (fun h=>?_)<;>simp only[h,Qn,h0,h1,h5,e1,Qa,seval])|(refine XH (fun h=>?_) (fun h=>?_)<;>simp only[h,Qn,h0,h1,h5,e1,e2,eE,seval])|((with_reducible apply Xv (k:=271));(case hy=>rfl);(case h1=>rfl);(case hk=>exact HG s (i+1) 1 (by omega));(case h2=>rfl);(case h3=>first|exact .inl rfl|exact .inr rfl);simp only[Qa,seval]))
 all_goals(refine hQ _ _ ?_ (by exact h0) (by exact h1) (by exact h5) rfl)
 all_goals simp only[QXx,QZj]at *
 all_goals
  constructor
  ·intro hh
   first
    |cases hh
    |(refine⟨by omega,?_⟩;first|exact hh|(refine⟨by omega,?_⟩;first|exact hh|(refine⟨by omega,?_⟩;exact hh))|exact⟨by assumption,hh⟩)
  ·intro hh
   first
    |exact hh.2.2.2
    |exact hh.2.2
    |(exfalso;omega)
    |(exfalso;simp_all;done)

theorem QQP:BF s i c 25 (c.toNat=224∧bt s (i+1) 160 191=true∧tl s (i+2) 1=true) Bl:=by
 intro Q hQ f h0 h1 h5;have e1:IntKind.i64.wrap ((i:Int)+1)=((i+1:Nat):Int):=JE i 1 (by omega);have e2:IntKind.i64.wrap ((i:Int)+2)=((i+2:Nat):Int):=JE i 2 (by omega);simp only[Bl,h5,Qa,seval]
 repeat' (first|(refine Q2 (fun h=>?_) (fun h=>?_)<;>simp only[h,h0,h1,h5,e1,e2,eE,seval])|(refine XG (fun h=>?_) (fun h=>?_)<;>simp only[h,Qn,h0,h1,e1,e2,Qa,seval])|(refine XH (fun h=>?_) (fun h=>?_)<;>simp only[h,Qn,h0,h1,h5,e1,e2,eE,seval])|((with_reducible apply Xv (k:=272));(case hy=>rfl);(case h1=>rfl);(case hk=>exact BE s (i+1) 160 191);(case h2=>rfl);(case h3=>first|exact .inl rfl|exact .inr rfl);simp only[Qa,seval])|((with_reducible apply Xv (k:=271));(case hy=>rfl);(case h1=>rfl);(case hk=>exact HG s (i+2) 1 (by omega));(case h2=>rfl);(case h3=>first|exact .inl rfl|exact .inr rfl);simp only[Qa,seval]))
 all_goals(refine hQ _ _ ?_ (by exact h0) (by exact h1) (by exact h5) rfl)
 all_goals simp only[QXy,QY8,ne_eq]at *
 all_goals
  constructor
  ·intro hh
   first
    |cases hh
    |(refine⟨by omega,?_⟩;first|exact hh|(refine⟨by omega,?_⟩;first|exact hh|(refine⟨by omega,?_⟩;exact hh))|exact⟨by assumption,hh⟩)
  ·intro hh
   first
    |exact hh.2.2.2
    |exact hh.2.2
    |(exfalso;omega)
    |(exfalso;simp_all;done)

theorem QQQ:BF s i c 40 (c.toNat=237∧bt s (i+1) 128 159=true∧tl s (i+2) 1=true) Bm:=by
 intro Q hQ f h0 h1 h5;have e1:IntKind.i64.wrap ((i:Int)+1)=((i+1:Nat):Int):=JE i 1 (by omega);have e2:IntKind.i64.wrap ((i:Int)+2)=((i+2:Nat):Int):=JE i 2 (by omega);simp only[Bm,h5,Qa,seval]
 repeat' (first|(refine Q2 (fun h=>?_) (fun h=>?_)<;>simp only[h,h0,h1,h5,e1,e2,eE,seval])|(refine XG (fun h=>?_) (fun h=>?_)<;>simp only[h,Qn,h0,h1,e1,e2,Qa,seval])|(refine XH (fun h=>?_) (fun h=>?_)<;>simp only[h,Qn,h0,h1,h5,e1,e2,eE,seval])|((with_reducible apply Xv (k:=272));(case hy=>rfl);(case h1=>rfl);(case hk=>exact BE s (i+1) 128 159);(case h2=>rfl);(case h3=>first|exact .inl rfl|exact .inr rfl);simp only[Qa,seval])|((with_reducible apply Xv (k:=271));(case hy=>rfl);(case h1=>rfl);(case hk=>exact HG s (i+2) 1 (by omega));(case h2=>rfl);(case h3=>first|exact .inl rfl|exact .inr rfl);simp only[Qa,seval]))
 all_goals(refine hQ _ _ ?_ (by exact h0) (by exact h1) (by exact h5) rfl)
 all_goals simp only[QXy,QY8,ne_eq]at *
 all_goals
  constructor
  ·intro hh
   first
    |cases hh
    |(refine⟨by omega,?_⟩;first|exact hh|(refine⟨by omega,?_⟩;first|exact hh|(refine⟨by omega,?_⟩;exact hh))|exact⟨by assumption,hh⟩)
  ·intro hh
   first
    |exact hh.2.2.2
    |exact hh.2.2
    |(exfalso;omega)
    |(exfalso;simp_all;done)

theorem QHt:BF s i c 55 (225≤c.toNat∧c.toNat≤239∧c.toNat≠237∧tl s (i+1) 2=true) Dm:=by
 intro Q hQ f h0 h1 h5;have e1:IntKind.i64.wrap ((i:Int)+1)=((i+1:Nat):Int):=JE i 1 (by omega);have e2:IntKind.i64.wrap ((i:Int)+2)=((i+2:Nat):Int):=JE i 2 (by omega);simp only[Dm,h5,Qa,seval]
 repeat' (first|(refine Q2 (fun h=>?_) (fun h=>?_)<;>simp only[h,h0,h1,h5,e1,e2,eE,seval])|(refine XG (fun h=>?_) (fun h=>?_)<;>simp only[h,Qn,h0,h1,h5,e1,Qa,seval])|(refine XH (fun h=>?_) (fun h=>?_)<;>simp only[h,Qn,h0,h1,h5,e1,e2,eE,seval])|((with_reducible apply Xv (k:=271));(case hy=>rfl);(case h1=>rfl);(case hk=>exact HG s (i+1) 2 (by omega));(case h2=>rfl);(case h3=>first|exact .inl rfl|exact .inr rfl);simp only[Qa,seval]))
 all_goals(refine hQ _ _ ?_ (by exact h0) (by exact h1) (by exact h5) rfl)
 all_goals simp only[QXx,QZj,QXS,bne_eq_false_iff_eq,ne_eq]at *
 all_goals
  constructor
  ·intro hh
   first
    |cases hh
    |(refine⟨by omega,?_⟩;first|exact hh|(refine⟨by omega,?_⟩;first|exact hh|(refine⟨by omega,?_⟩;exact hh))|exact⟨by assumption,hh⟩)
  ·intro hh
   first
    |exact hh.2.2.2
    |exact hh.2.2
    |(exfalso;omega)
    |(exfalso;simp_all;done)

theorem QHu:BF s i c 72 (c.toNat=240∧bt s (i+1) 144 191=true∧tl s (i+2) 2=true) Dn:=by
 intro Q hQ f h0 h1 h5;have e1:IntKind.i64.wrap ((i:Int)+1)=((i+1:Nat):Int):=JE i 1 (by omega);have e2:IntKind.i64.wrap ((i:Int)+2)=((i+2:Nat):Int):=JE i 2 (by omega);simp only[Dn,h5,Qa,seval]
 repeat' (first|(refine Q2 (fun h=>?_) (fun h=>?_)<;>simp only[h,h0,h1,h5,e1,e2,eE,seval])|(refine XG (fun h=>?_) (fun h=>?_)<;>simp only[h,Qn,h0,h1,e1,e2,Qa,seval])|(refine XH (fun h=>?_) (fun h=>?_)<;>simp only[h,Qn,h0,h1,h5,e1,e2,eE,seval])|((with_reducible apply Xv (k:=272));(case hy=>rfl);(case h1=>rfl);(case hk=>exact BE s (i+1) 144 191);(case h2=>rfl);(case h3=>first|exact .inl rfl|exact .inr rfl);simp only[Qa,seval])|((with_reducible apply Xv (k:=271));(case hy=>rfl);(case h1=>rfl);(case hk=>exact HG s (i+2) 2 (by omega));(case h2=>rfl);(case h3=>first|exact .inl rfl|exact .inr rfl);simp only[Qa,seval]))
 all_goals(refine hQ _ _ ?_ (by exact h0) (by exact h1) (by exact h5) rfl)
 all_goals simp only[QXy,QY8,ne_eq]at *
 all_goals
  constructor
  ·intro hh
   first
    |cases hh
    |(refine⟨by omega,?_⟩;first|exact hh|(refine⟨by omega,?_⟩;first|exact hh|(refine⟨by omega,?_⟩;exact hh))|exact⟨by assumption,hh⟩)
  ·intro hh
   first
    |exact hh.2.2.2
    |exact hh.2.2
    |(exfalso;omega)
    |(exfalso;simp_all;done)

theorem QHv:BF s i c 87 (241≤c.toNat∧c.toNat≤243∧tl s (i+1) 3=true) Dp:=by
 intro Q hQ f h0 h1 h5;have e1:IntKind.i64.wrap ((i:Int)+1)=((i+1:Nat):Int):=JE i 1 (by omega);have e2:IntKind.i64.wrap ((i:Int)+2)=((i+2:Nat):Int):=JE i 2 (by omega);simp only[Dp,h5,Qa,seval]
 repeat' (first|(refine Q2 (fun h=>?_) (fun h=>?_)<;>simp only[h,h0,h1,h5,e1,e2,eE,seval])|(refine XG (fun h=>?_) (fun h=>?_)<;>simp only[h,Qn,h0,h1,h5,e1,Qa,seval])|(refine XH (fun h=>?_) (fun h=>?_)<;>simp only[h,Qn,h0,h1,h5,e1,e2,eE,seval])|((with_reducible apply Xv (k:=271));(case hy=>rfl);(case h1=>rfl);(case hk=>exact HG s (i+1) 3 (by omega));(case h2=>rfl);(case h3=>first|exact .inl rfl|exact .inr rfl);simp only[Qa,seval]))
 all_goals(refine hQ _ _ ?_ (by exact h0) (by exact h1) (by exact h5) rfl)
 all_goals simp only[QXx,QZj]at *
 all_goals
  constructor
  ·intro hh
   first
    |cases hh
    |(refine⟨by omega,?_⟩;first|exact hh|(refine⟨by omega,?_⟩;first|exact hh|(refine⟨by omega,?_⟩;exact hh))|exact⟨by assumption,hh⟩)
  ·intro hh
   first
    |exact hh.2.2.2
    |exact hh.2.2
    |(exfalso;omega)
    |(exfalso;simp_all;done)

theorem QHw:BF s i c 100 (c.toNat=244∧bt s (i+1) 128 143=true∧tl s (i+2) 2=true) Dq:=by
 intro Q hQ f h0 h1 h5;have e1:IntKind.i64.wrap ((i:Int)+1)=((i+1:Nat):Int):=JE i 1 (by omega);have e2:IntKind.i64.wrap ((i:Int)+2)=((i+2:Nat):Int):=JE i 2 (by omega);simp only[Dq,h5,Qa,seval]
 repeat' (first|(refine Q2 (fun h=>?_) (fun h=>?_)<;>simp only[h,h0,h1,h5,e1,e2,eE,seval])|(refine XG (fun h=>?_) (fun h=>?_)<;>simp only[h,Qn,h0,h1,e1,e2,Qa,seval])|(refine XH (fun h=>?_) (fun h=>?_)<;>simp only[h,Qn,h0,h1,h5,e1,e2,eE,seval])|((with_reducible apply Xv (k:=272));(case hy=>rfl);(case h1=>rfl);(case hk=>exact BE s (i+1) 128 143);(case h2=>rfl);(case h3=>first|exact .inl rfl|exact .inr rfl);simp only[Qa,seval])|((with_reducible apply Xv (k:=271));(case hy=>rfl);(case h1=>rfl);(case hk=>exact HG s (i+2) 2 (by omega));(case h2=>rfl);(case h3=>first|exact .inl rfl|exact .inr rfl);simp only[Qa,seval]))
 all_goals(refine hQ _ _ ?_ (by exact h0) (by exact h1) (by exact h5) rfl)
 all_goals simp only[QXy,QY8,ne_eq]at *
 all_goals
  constructor
  ·intro hh
   first
    |cases hh
    |(refine⟨by omega,?_⟩;first|exact hh|(refine⟨by omega,?_⟩;first|exact hh|(refine⟨by omega,?_⟩;exact hh))|exact⟨by assumption,hh⟩)
  ·intro hh
   first
    |exact hh.2.2.2
    |exact hh.2.2
    |(exfalso;omega)
    |(exfalso;simp_all;done)

end

theorem QQR (s:List UInt8)(i:Nat)(hi:i<s.length)(hs:s.length+8≤maxLen):Qk Tryz.prog 240 [.str s,.int .i64 (i:Nat)] (.int .i64 (sz s i:Nat)):=by
 refine QOM.fn (by simp) ?_;obtain⟨c,hc⟩:∃c,s[i]? = some c:=⟨s[i],QXt hi⟩;have hz:sz s i=D7 s i c.toNat:=by simp only[sz,hc]
 unfold D7 at hz;simp only[M5,M6,M7,M8,M9,Pa,Pb,N1,N2,N3,N4,N5,QuB,QuC,Qi,QYT,hc,Qa,seval];refine Q2 (fun h=>?_) (fun h=>?_)
 ·have h:c.toNat<128:=by simp at h;omega
  rw[hz,QXV h];simp only[Qa,seval]
  try rfl
 have h:¬c.toNat<128:=by simp at h;omega
 rw[hz,QXG h];simp only[Qa,seval];refine QQO hi hs _ (fun f B hB h0 h1 h5 hd=>?_) _ (by rfl) (by rfl) (by rfl);by_cases hB1:B=true
 ·rw[QXV (hB.1 hB1)];subst hB1;simp only[hd,Qa,seval]
  try rfl
 rw[QXG (fun hh=>hB1 (hB.2 hh))];have hB2:B=false:=by simpa using hB1
 subst hB2;simp only[hd,Qa,seval];refine QQP hi hs _ (fun f B hB h0 h1 h5 hd=>?_) _ (by exact h0) (by exact h1) (by exact h5);by_cases hB1:B=true
 ·rw[QXV (hB.1 hB1)];subst hB1;simp only[hd,Qa,seval]
  try rfl
 rw[QXG (fun hh=>hB1 (hB.2 hh))];have hB2:B=false:=by simpa using hB1
 subst hB2;simp only[hd,Qa,seval];refine QQQ hi hs _ (fun f B hB h0 h1 h5 hd=>?_) _ (by exact h0) (by exact h1) (by exact h5);by_cases hB1:B=true
 ·rw[QXV (hB.1 hB1)];subst hB1;simp only[hd,Qa,seval]
  try rfl
 rw[QXG (fun hh=>hB1 (hB.2 hh))];have hB2:B=false:=by simpa using hB1
 subst hB2;simp only[hd,Qa,seval];refine QHt hi hs _ (fun f B hB h0 h1 h5 hd=>?_) _ (by exact h0) (by exact h1) (by exact h5);by_cases hB1:B=true
 ·rw[QXV (hB.1 hB1)];subst hB1;simp only[hd,Qa,seval]
  try rfl
 rw[QXG (fun hh=>hB1 (hB.2 hh))];have hB2:B=false:=by simpa using hB1
 subst hB2;simp only[hd,Qa,seval];refine QHu hi hs _ (fun f B hB h0 h1 h5 hd=>?_) _ (by exact h0) (by exact h1) (by exact h5);by_cases hB1:B=true
 ·rw[QXV (hB.1 hB1)];subst hB1;simp only[hd,Qa,seval]
  try rfl
 rw[QXG (fun hh=>hB1 (hB.2 hh))];have hB2:B=false:=by simpa using hB1
 subst hB2;simp only[hd,Qa,seval];refine QHv hi hs _ (fun f B hB h0 h1 h5 hd=>?_) _ (by exact h0) (by exact h1) (by exact h5);by_cases hB1:B=true
 ·rw[QXV (hB.1 hB1)];subst hB1;simp only[hd,Qa,seval]
  try rfl
 rw[QXG (fun hh=>hB1 (hB.2 hh))];have hB2:B=false:=by simpa using hB1
 subst hB2;simp only[hd,Qa,seval];refine QHw hi hs _ (fun f B hB h0 h1 h5 hd=>?_) _ (by exact h0) (by exact h1) (by exact h5);by_cases hB1:B=true
 ·rw[QXV (hB.1 hB1)];subst hB1;simp only[hd,Qa,seval]
  try rfl
 rw[QXG (fun hh=>hB1 (hB.2 hh))];have hB2:B=false:=by simpa using hB1
 subst hB2;simp only[hd,Qa,seval]
 try rfl

theorem TA (s:List UInt8)(i:Nat)(hi:i<s.length)(_h:sz s i≠0):i+sz s i≤s.length:=by
 have tl1:∀n j,tl s j n=true→n≠0→j+n≤s.length:=by
  intro n
  induction n with
  |zero=>intro j _ h;exact absurd rfl h
  |succ n ih=>
   intro j hj _;simp only[tl,QXQ]at hj;have hb:j<s.length:=by
    have h1:=hj.1;unfold bt at h1;split at h1
    ·rename_i b hb;exact(QXs.1 hb).1
    ·cases h1
   by_cases h0:n=0
   ·subst h0;omega
   ·have:=ih (j+1) hj.2 h0;omega
 obtain⟨c,hc⟩:∃c,s[i]? = some c:=⟨s[i],QXt hi⟩;simp only[sz,hc]at _h ⊢;unfold D7 at _h ⊢
 (repeat' split)<;>first
  |omega
  |(rename_i hh;have:=tl1 _ _ hh.2.2 (by decide);omega)
  |(rename_i hh;have:=tl1 _ _ hh.2.2.2 (by decide);omega)
  |simp_all

def QQS (s:List UInt8)(k:Nat)(st:St):Prop :=
 ∃f i,st=⟨f,[Qc],[]⟩∧i≤s.length∧s.length-i≤k∧WZ s s.length 0=WZ s k i∧f 0=.str s∧f 3=.int .i64 (i:Nat)

theorem QQT (s:List UInt8)(hs:s.length+8≤maxLen):Qk Tryz.prog 202 [.str s] (.int .i64 (WZ s s.length 0)):=by
 refine QOb.fn (by simp) ?_;simp only[Qa,seval];refine Qd (QQS s) s.length ⟨_,0,rfl,QXA _,QXq _,rfl,rfl,rfl⟩ ?_;rintro k st ⟨f,i,rfl,hi,hk,hb,h0,h3⟩;simp only[h0,h3,Qa,seval];by_cases hlt:i<s.length
 ·simp only[Qm hlt,h0,h3,Qa,seval];refine aC (QQR s i hlt hs) ?_;obtain⟨k,rfl⟩:∃n,k=n+1:=⟨k-1,by omega⟩;have hbk:WZ s (k+1) i=if sz s i=0 then(i:Int)else WZ s k (i+sz s i):=by
   show(if i<s.length then _ else _)=_;rw[QXV hlt]
  by_cases hz:sz s i=0
  ·have b0:((sz s i:Int)==0)=true:=by simp[hz]
   simp only[b0,h3,hb,hbk,QXV hz,Qa,seval]
  ·have b0:((sz s i:Int)==0)=false:=by simp;omega
   have hle:=TA s i hlt hz;have e0:=JE i (sz s i) (by omega);simp only[b0,h3,e0,Qa,seval];exact⟨k,by omega,_,i+sz s i,rfl,hle,by omega,by rw[hb,hbk,QXG hz],(by exact h0),(by rfl)⟩
 ·have hbk:WZ s k i = -1:=by
   cases k with
   |zero=>rfl
   |succ k=>
    show(if i<s.length then _ else _)=_;rw[QXG hlt]
  simp only[Qw hlt,hb,hbk,Qa,seval]

theorem Ce (s:List UInt8)(hs:s.length+8≤maxLen):Qk Tryz.prog 131 [.str s] (.bool (Uu s)):=by
 refine QMN.fn (by simp) ?_;simp only[Qa,seval];refine aC (QQT s hs) ?_;simp only[Qa,seval]
 try rfl

def KZ (s:List UInt8)(i:Nat):Bool:=(s.drop i).take 3==[239,191,189]

theorem QQU (s t:List UInt8):Qk Tryz.prog 293 [.str s,.str t] (.bool (s.take t.length==t)):=by
 refine QPK.fn (by simp) ?_;by_cases h:t.length≤s.length
 ·have d0:decide ((s.length:Int)≥(t.length:Int))=true:=by simp;omega
  have s1:(0≤t.length∧t.length≤s.length)=True:=by simp;omega
  simp only[d0,Qi,s1,QYT,QI,QYL,QX9,Qa,seval]
 ·have d0:decide ((s.length:Int)≥(t.length:Int))=false:=by simp;omega
  have e0:(s.take t.length==t)=false:=by
   rw[QY8];intro hh;have:=congrArg List.length hh;simp at this;omega
  simp only[d0,e0,Qa,seval]

theorem QQV (s t:List UInt8):Qk Tryz.prog 277 [.str s,.str t] (.bool (s.take t.length==t)):=by
 refine QPs.fn (by simp) ?_;simp only[Qa,seval];refine aC (QQU s t) ?_;simp only[Qa,seval]

theorem QQW (s:List UInt8)(i:Nat)(hi:i≤s.length)(c:Nat):Qk Tryz.prog 248 [.str s,.int .i64 (i:Nat),.int .i32 (c:Nat)] (.bool (decide (c=65533) && !KZ s i)):=by
 refine QOX.fn (by simp) ?_;by_cases hc:c=65533
 ·have b0:((c:Int)==65533)=true:=by simp[hc]
  have s1:(i≤s.length∧s.length≤s.length)=True:=by simp;omega
  simp only[b0,Qi,s1,QYT,Qa,seval];refine aC (QQV (List.take (s.length-i) (List.drop i s)) [239,191,189]) ?_;have ht:List.take (s.length-i) (List.drop i s)=List.drop i s:=QX0 (by simp);simp only[ht,KZ,hc,Qa,seval]
 ·have b0:((c:Int)==65533)=false:=by simp;omega
  simp only[b0,hc,Qa,seval];simp

end Go.Proofs.YtipjfckmopekaaaGreatDoor.Va

namespace Go.Proofs.YtipjfckmopekaaaGreatDoor.Vp

def K0:Nat→Nat→List UInt8
 |0,u=>[UInt8.ofNat u]
 |k+1,u=>if u<128 then [UInt8.ofNat u]else UInt8.ofNat (u % 128+128) :: K0 k (u / 128)

def put (u:Nat):List UInt8:=K0 9 u

def K3:Nat→Nat→List UInt8→Nat×Nat×Nat
 |_,_,[]=>(0,0,4)
 |i,acc,c :: t=>
  if i=9∧1<c.toNat then(0,0,6)
  else if c.toNat<128 then(acc+c.toNat*128 ^ i,i+1,0)
  else K3 (i+1) (acc+(c.toNat-128)*128 ^ i) t

def take (s:List UInt8):Nat×Nat×Nat:=K3 0 0 s

theorem toNat_ofNat (n:Nat)(h:n<256):(UInt8.ofNat n).toNat=n:=by
 simp[UInt8.toNat_ofNat'];omega

theorem RT (k u:Nat):1≤(K0 k u).length∧(K0 k u).length≤k+1:=by
 induction k generalizing u with
 |zero=>simp[K0]
 |succ k ih=>
  unfold K0;split
  ·simp
  ·have:=ih (u / 128);simp;omega

theorem put_len (u:Nat):1≤(put u).length∧(put u).length≤10:=RT 9 u

theorem GE (k u:Nat)(h:u<128):K0 k u=[UInt8.ofNat u]:=by
 cases k<;>simp[K0,h]

theorem BG (k u:Nat)(h:¬u<128):K0 (k+1) u=UInt8.ofNat (u % 128+128) :: K0 k (u / 128):=by
 simp[K0,h]

def Uv (i:Nat):Nat:=2 ^ (64-7*i)

theorem D8 (i u:Nat)(hi:i<9)(h:u<Uv i):u / 128<Uv (i+1):=by
 unfold Uv at *;have e:64-7*i=(64-7*(i+1))+7:=by omega
 rw[e,Nat.pow_add]at h;omega

theorem Cf (i acc:Nat)(s:List UInt8)(hi:i≤9)(ha:acc<128 ^ i)(h:(K3 i acc s).2.2=0) :
  i<(K3 i acc s).2.1∧(K3 i acc s).2.1≤i+s.length∧(K3 i acc s).2.1≤10∧(K3 i acc s).1<2 ^ 64:=by
 induction s generalizing i acc with
 |nil=>simp[K3]at h
 |cons c t ih=>
  unfold K3 at h ⊢;split
  ·rename_i h1;rw[QXV h1]at h;simp at h
  ·rename_i h1;rw[QXG h1]at h;have hp:128 ^ i=2 ^ (7*i):=by rw[show(128:Nat)=2 ^ 7 from rfl,←Nat.pow_mul]
   split
   ·rename_i h2;refine⟨Nat.lt_succ_self i,by simp,by show i+1≤10;omega,?_⟩;show acc+c.toNat*128 ^ i<2 ^ 64;rcases Nat.lt_or_ge i 9 with h9|h9
    ·have:c.toNat*128 ^ i≤127*128 ^ i:=QYx _ (by omega);have h3:acc+c.toNat*128 ^ i<128 ^ (i+1):=by rw[Nat.pow_succ];omega
     have h4:128 ^ (i+1)≤128 ^ 9:=Nat.pow_le_pow_right (by omega) (by omega);omega
    ·obtain rfl:i=9:=by omega
     have:c.toNat≤1:=by omega
     omega
   ·rename_i h2;rw[QXG h2]at h;have h9:i<9:=by
     rcases Nat.lt_or_ge i 9 with h9|h9
     ·exact h9
     ·exact absurd ⟨by omega,by omega⟩ h1
    have hc:=c.toNat_lt;have h3:acc+(c.toNat-128)*128 ^ i<128 ^ (i+1):=by
     have:(c.toNat-128)*128 ^ i≤127*128 ^ i:=QYx _ (by omega);rw[Nat.pow_succ];omega
    obtain⟨a,b,d,e⟩:=ih (i+1) _ (by omega) h3 h;exact⟨by omega,by simp;omega,d,e⟩

theorem NA (s:List UInt8)(h:(take s).2.2=0):0<(take s).2.1∧(take s).2.1≤s.length∧(take s).2.1≤10∧(take s).1<2 ^ 64:=by
 have:=Cf 0 0 s (by omega) (by omega) h
 simpa [take]using this

theorem Cg (i acc:Nat)(s t:List UInt8)(h:(K3 i acc s).2.2≠4):K3 i acc (s++t)=K3 i acc s:=by
 induction s generalizing i acc with
 |nil=>simp[K3]at h
 |cons c r ih=>
  simp only[QXO];unfold K3 at h ⊢;split
  ·rfl
  ·rename_i h1;rw[QXG h1]at h;split
   ·rfl
   ·rename_i h2;rw[QXG h2]at h;exact ih _ _ h

theorem Qau (i acc:Nat)(s:List UInt8)(hi:i≤9)(hl:10≤i+s.length):(K3 i acc s).2.2≠4:=by
 induction s generalizing i acc with
 |nil=>simp at hl;omega
 |cons c r ih=>
  unfold K3;split
  ·simp
  ·rename_i h1;split
   ·simp
   ·rename_i h2;exact ih _ _ (by omega) (by simp at hl;omega)

theorem take_take (s:List UInt8):take (s.take 10)=take s:=by
 rcases Nat.lt_or_ge s.length 10 with h|h
 ·rw[QX0 (by omega)]
 ·have:=Cg 0 0 (s.take 10) (s.drop 10) (Qau 0 0 _ (by omega) (by simp;omega));rw[QYI]at this;exact this.symm

end Go.Proofs.YtipjfckmopekaaaGreatDoor.Vp

namespace Go.Proofs.YtipjfckmopekaaaGreatDoor.Va
open Go Am Rc Bt Vp

theorem JI (s:List UInt8)(j:Nat)(c:UInt8)(h:s[j]? = some c):(⟨⟨s⟩⟩:ByteArray).get! j=c:=by
 show(⟨s⟩:Array UInt8)[j]! = c;simp[h]

theorem Dt (a:UInt8)(n:Nat)(hn:n<256):(a==UInt8.ofNat n)=decide (a.toNat=n):=by
 rw[QYm,QXy,QXx]
 constructor
 ·rintro rfl;rw[toNat_ofNat _ hn]
 ·intro h;rw[←UInt8.toNat_inj,toNat_ofNat _ hn,h]

set_option maxHeartbeats 4000000 in
theorem QQX (s:List UInt8)(i:Nat)(a b c d:UInt8)(t:List UInt8)(hr:s.drop i=a :: b :: c :: d :: t):(decide ((Xp s i).1=65533) && !KZ s i)=decide (sz s i=0)∧(sz s i≠0→(Xp s i).2=sz s i):=by
 have hsz:∀j,(s[i+j]? = (a :: b :: c :: d :: t)[j]?):=fun j=>by rw[←hr,QX6]
 have hn:ByteArray.size ⟨⟨s⟩⟩=s.length:=rfl;have hl:s.length=i+(a :: b :: c :: d :: t).length:=by
  have h:=congrArg List.length hr;simp at h ⊢;omega
 have h0:=hsz 0;have h1:=hsz 1;have h2:=hsz 2;have h3:=hsz 3;simp only[QXX]at h0;have g0:=JI s i a h0;have g1:=JI s (i+1) b h1;have g2:=JI s (i+2) c h2;have g3:=JI s (i+3) d h3;have l1:(i+1<s.length)=True:=by simp at hl ⊢;omega
 have l2:(i+2<s.length)=True:=by simp at hl ⊢;omega
 have l3:(i+3<s.length)=True:=by simp at hl ⊢;omega
 have wa:=a.toNat_lt;have wb:=b.toNat_lt;have wc:=c.toNat_lt;have wd:=d.toNat_lt;have hrep:KZ s i=(decide (a.toNat=239)&&(decide (b.toNat=191)&&decide (c.toNat=189))):=by
  rw[←Dt a 239 (by decide),←Dt b 191 (by decide),←Dt c 189 (by decide)];simp[KZ,hr]
 simp only[QYy,QYu]at h0 h1 h2 h3;generalize hD:Xp s i=D;generalize hS:sz s i=S;rw[hrep];simp only[Xp,Utf8.decode,Utf8.valid,Utf8.runeError,hn,l1,l2,l3,QXX,g0,g1,g2,g3,sz,h0,D7,tl,bt,QXp,seval,h1,h2,h3,decide_true,QY3,QYF,QXQ,QXw,QXx,QXy,ge_iff_le]at hD hS;clear hsz hr hl h0 h1 h2 h3 g0 g1 g2 g3 l1 l2 l3 hrep hn;generalize a.toNat=x at *;generalize b.toNat=y at *;generalize c.toNat=z at *;generalize d.toNat=u at *
 (repeat' split at hD)<;>subst hD<;>(repeat' split at hS)<;>subst hS<;>refine⟨?_,?_⟩<;>(try rw[QYm])<;>(try simp only[QXQ,QXx,QYq,QZn,QZj])<;>first|omega|(intro _;rfl)|(simp;done)|(simp;omega)

theorem RU (s:List UInt8)(i:Nat)(hi:i<s.length):(decide ((Xp s i).1=65533) && !KZ s i)=decide (sz s i=0)∧(sz s i≠0→(Xp s i).2=sz s i):=by
 have hsz:∀j,(s[i+j]? = (s.drop i)[j]?):=fun j=>by rw[QX6]
 have hn:ByteArray.size ⟨⟨s⟩⟩=s.length:=rfl;have hl:s.length=i+(s.drop i).length:=by simp;omega
 generalize hr:s.drop i=r at hsz hl;have h0:=hsz 0;have h1:=hsz 1;have h2:=hsz 2;have h3:=hsz 3;simp only[QXX]at h0
 match r,hl with
 | [],hl=>simp at hl;omega
 | [a],hl=>
  have g0:=JI s i a h0;have l1:(i+1<s.length)=False:=by simp at hl ⊢;omega
  have l2:(i+2<s.length)=False:=by simp at hl ⊢;omega
  have l3:(i+3<s.length)=False:=by simp at hl ⊢;omega
  have wa:=a.toNat_lt;have hrep:KZ s i=false:=by simp[KZ,hr]
  simp only[QYy,List.getElem?_nil,QYu]at h0 h1 h2 h3;simp only[Xp,Utf8.decode,Utf8.runeError,hn,l1,l2,l3,QXX,g0,sz,h0,D7,tl,bt,QXp,seval,h1,h2,h3,hrep,decide_false,QYW,QZk,QYF,QXL,and_false]
  (repeat' split)<;>refine⟨?_,?_⟩<;>(try rw[QYm])<;>(try simp only[QXx,QYz,QYF])<;>first|omega|(intro _;rfl)|(intro _;omega)|(simp;done)|(simp;omega)
 | [a,b],hl=>
  have g0:=JI s i a h0;have g1:=JI s (i+1) b h1;have l1:(i+1<s.length)=True:=by simp at hl ⊢;omega
  have l2:(i+2<s.length)=False:=by simp at hl ⊢;omega
  have l3:(i+3<s.length)=False:=by simp at hl ⊢;omega
  have wa:=a.toNat_lt;have wb:=b.toNat_lt;have hrep:KZ s i=false:=by simp[KZ,hr]
  simp only[QYy,List.getElem?_nil,QYu]at h0 h1 h2 h3;simp only[Xp,Utf8.decode,Utf8.runeError,hn,l1,l2,l3,QXX,g0,g1,sz,h0,D7,tl,bt,QXp,seval,h1,h2,h3,hrep,decide_false,decide_true,QYW,QZk,QY3,QYF,QXL,and_false,QXQ,QXx,QXy,ge_iff_le]
  (repeat' split)<;>refine⟨?_,?_⟩<;>(try rw[QYm])<;>(try simp only[QXx,QYz,QYF])<;>first|omega|(intro _;rfl)|(intro _;omega)|(simp;done)|(simp;omega)
 | [a,b,c],hl=>
  have g0:=JI s i a h0;have g1:=JI s (i+1) b h1;have g2:=JI s (i+2) c h2;have l1:(i+1<s.length)=True:=by simp at hl ⊢;omega
  have l2:(i+2<s.length)=True:=by simp at hl ⊢;omega
  have l3:(i+3<s.length)=False:=by simp at hl ⊢;omega
  have wa:=a.toNat_lt;have wb:=b.toNat_lt;have wc:=c.toNat_lt;have hrep:KZ s i=(decide (a.toNat=239)&&(decide (b.toNat=191)&&decide (c.toNat=189))):=by
   rw[←Dt a 239 (by decide),←Dt b 191 (by decide),←Dt c 189 (by decide)];simp[KZ,hr]
  simp only[QYy,List.getElem?_nil,QYu]at h0 h1 h2 h3;simp only[Xp,Utf8.decode,Utf8.valid,Utf8.runeError,hn,l1,l2,l3,QXX,g0,g1,g2,sz,h0,D7,tl,bt,QXp,seval,h1,h2,h3,hrep,decide_false,decide_true,QYW,QZk,QY3,QYF,QXL,and_false,QXQ,QXw,QXx,QXy,ge_iff_le]
  (repeat' split)<;>refine⟨?_,?_⟩<;>(try rw[QYm])<;>(try simp only[QXQ,QXx,QYq,QZj,QZn])<;>first|omega|(intro _;rfl)|(intro _;omega)|(simp;done)|(simp;omega)
 |a :: b :: c :: d :: t,hl=>exact QQX s i a b c d t hr

def QQY (s:List UInt8)(k:Nat)(st:St):Prop :=
 ∃f fr i,st=⟨f,[fr],[]⟩∧i≤s.length∧s.length-i≤k∧WZ s s.length 0=WZ s k i∧f 0=.str s∧f 6=.ptr 0 6 0∧fr 6=.iter (.str s) i

theorem QQZ (s:List UInt8):Qk Tryz.prog 216 [.str s] (.int .i64 (WZ s s.length 0)):=by
 refine QjH.fn (by simp) ?_;simp only[Qa,seval];refine DR rfl rfl ?_;simp only[Qa,seval];refine Qd (QQY s) s.length ⟨_,_,0,rfl,QXA _,QXq _,rfl,(by rfl),(by rfl),(by rfl)⟩ ?_;rintro k st ⟨f,fr,i,rfl,hi,hk,hb,h0,h6,m6⟩;simp only[Qa,seval];refine DS (by exact h6) m6 (fun hlt=>?_) (fun hge=>?_)
 ·obtain⟨hd,hw⟩:=RU s i hlt;obtain⟨k,rfl⟩:∃n,k=n+1:=⟨k-1,by omega⟩;have hbk:WZ s (k+1) i=if sz s i=0 then(i:Int)else WZ s k (i+sz s i):=by
   show(if i<s.length then _ else _)=_;rw[QXV hlt]
  have hwr:=QQW s i hi (Xp s i).1;rw[hd]at hwr;generalize Xp s i=cw at hw hwr;obtain⟨c,w⟩:=cw;simp only[h0,Qa,seval];refine aC hwr ?_;by_cases hz:sz s i=0
  ·simp only[hz,decide_true,hb,hbk,Qa,seval]
  ·have hw:=hw hz;simp only at hw;have hle:=TA s i hlt hz;simp only[hz,decide_false,Qa,seval];exact⟨k,by omega,_,_,i+sz s i,rfl,hle,by omega,by rw[hb,hbk,QXG hz],(by exact h0),(by exact h6),by rw[←hw]<;>first|rfl|simp only[eE,seval]⟩
 ·have hbk:WZ s k i = -1:=by
   cases k with
   |zero=>rfl
   |succ k=>
    show(if i<s.length then _ else _)=_;rw[QXG (by omega)]
  simp only[hb,hbk,Qa,seval]

theorem RV (s:List UInt8):Qk Tryz.prog 168 [.str s] (.bool (Uu s)):=by
 refine Qgd.fn (by simp) ?_;simp only[Qa,seval];refine aC (QQZ s) ?_;simp only[Qa,seval]
 try rfl

end Go.Proofs.YtipjfckmopekaaaGreatDoor.Va

namespace Go.Proofs.YtipjfckmopekaaaGreatDoor.Va
open Go Am Rc Bt

def YH (k:Int)(b:Nat):Bool :=
 if k=1 then decide ((b:Int)≤1)else if k=2 then decide (IntKind.i64.wrap (b:Int)≥-2147483648)&&decide (IntKind.i64.wrap (b:Int)≤2147483647)
 else if k=4 then decide ((b:Int)<4294967296)else if k=9 then decide ((b:Int)<2147483648)else true

theorem QQ0 (k:Int)(b:Nat):Qk Tryz.prog 294 [.int .i64 k,.int .u64 (b:Nat)] (.bool (YH k b)):=by
 have e1:decide ((b:Int)≤4294967295)=decide ((b:Int)<4294967296):=by rw[decide_eq_decide];omega
 have e2:decide ((b:Int)≤2147483647)=decide ((b:Int)<2147483648):=by rw[decide_eq_decide];omega
 refine QmB.fn (by simp) ?_;simp only[Qa,seval];unfold YH;by_cases h1:k=1
 ·subst h1;have b1:((1:Int)==1)=true:=rfl;simp only[b1,Qa,seval]
 ·have b1:(k==1)=false:=by simp[h1]
  by_cases h2:k=2
  ·subst h2;have b2:((2:Int)==2)=true:=rfl;simp only[b1,b2,h1,Qa,seval];cases hd:decide (IntKind.i64.wrap (b:Int)≥-2147483648)<;>simp only[QY3,QYW,Qa,seval]
  ·have b2:(k==2)=false:=by simp[h2]
   by_cases h9:k=9
   ·subst h9;have b9:((9:Int)==9)=true:=rfl;simp only[b1,b2,b9,h1,h2,e2,Qa,seval]
   ·have b9:(k==9)=false:=by simp[h9]
    by_cases h4:k=4
    ·subst h4;have b4:((4:Int)==4)=true:=rfl;simp only[b1,b2,b9,b4,h1,h2,e1,Qa,seval]
    ·have b4:(k==4)=false:=by simp[h4]
     simp only[b1,b2,b9,b4,h1,h2,h4,h9,Qa,seval]

end Go.Proofs.YtipjfckmopekaaaGreatDoor.Va

namespace Go.Proofs.YtipjfckmopekaaaGreatDoor.Ev
open Go Am Rc

def tab:F1:=fun k=>match k with
 |9=>some (r9,o9,100)
 |25=>some (r25,o25,34)
 |10=>some (D5,o10,40)
 |24=>some (r24,o24,8)
 |19=>some (r19,o19,16)
 |15=>some (ML,o15,16)
 |12=>some (JX,o12,20)
 |50=>some (r50,o50,10)
 |51=>some (r51,o51,14)
 |26=>some (r26,o26,15)
 |27=>some (r27,o27,19)
 |28=>some (r28,o28,32)
 |29=>some (r29,o29,57)
 |37=>some (SD,o37,30)
 |52=>some (r52,o52,19)
 |53=>some (r53,o53,8)
 |54=>some (r54,o54,24)
 |55=>some (r55,o55,77)
 |56=>some (r56,o56,23)
 |57=>some (r57,o57,86)
 |58=>some (r58,o58,54)
 |72=>some (r72,o72,12)
 |73=>some (r73,o73,14)
 |83=>some (r83,o83,21)
 |84=>some (r84,o84,11)
 |85=>some (r85,o85,23)
 |86=>some (r86,o86,12)
 |87=>some (r87,o87,11)
 |88=>some (r88,o88,12)
 |89=>some (r89,o89,41)
 |90=>some (r90,o90,74)
 |91=>some (r91,o91,69)
 |92=>some (r92,o92,9)
 |95=>some (r95,o95,40)
 |96=>some (SH,N0,8)
 |97=>some (r97,o97,40)
 |98=>some (r98,o98,67)
 |99=>some (r99,o99,27)
 |100=>some (Qcm,Qcn,9)
 |102=>some (Qcy,Qcz,20)
 |103=>some (QcI,QcJ,24)
 |104=>some (QcP,QcQ,26)
 |105=>some (QcW,QcX,19)
 |107=>some (Qc1,Qc2,13)
 |108=>some (Qdb,Qdc,20)
 |109=>some (Qdg,Qdh,14)
 |116=>some (Qdl,Qdm,8)
 |117=>some (Qdt,Qdu,20)
 |119=>some (Qdy,Qdz,21)
 |120=>some (QdM,QdN,47)
 |122=>some (QdR,QdS,15)
 |133=>some (QdW,QdX,8)
 |134=>some (Qd1,Qd2,7)
 |135=>some (Qd6,Qd7,8)
 |137=>some (Qeb,Qec,12)
 |138=>some (Qeg,Qeh,11)
 |139=>some (Qel,Qem,8)
 |140=>some (Qeq,Qer,7)
 |141=>some (Qev,Qew,10)
 |145=>some (QeG,QeH,24)
 |147=>some (QeR,QeS,24)
 |149=>some (QeW,QeX,7)
 |150=>some (Qe7,Qe8,24)
 |151=>some (Qfc,Qfd,10)
 |155=>some (Qfh,Qfi,13)
 |157=>some (Qft,Qfu,20)
 |158=>some (Qfy,Qfz,5)
 |162=>some (QfD,QfE,6)
 |163=>some (QfI,QfJ,11)
 |165=>some (QfN,QfO,13)
 |166=>some (Qf1,Qf2,47)
 |167=>some (Qf6,Qf7,35)
 |168=>some (Qgb,Qgc,6)
 |169=>some (Qgi,Qgj,22)
 |170=>some (Qgs,Qgt,46)
 |174=>some (Qgx,Qgy,20)
 |175=>some (QgC,QgD,9)
 |176=>some (QgH,QgI,9)
 |177=>some (QgV,QgW,59)
 |178=>some (Qg7,Qg8,19)
 |180=>some (V4,Dk,8)
 |181=>some (V5,Dl,8)
 |182=>some (Qhb,Qhc,9)
 |183=>some (Qhf,Qhg,10)
 |184=>some (Qhm,Qhn,17)
 |186=>some (Qhq,Qhr,20)
 |187=>some (QhG,QhH,63)
 |188=>some (QhK,QhL,6)
 |189=>some (QhQ,QhR,20)
 |195=>some (Qh2,Qh3,19)
 |196=>some (Qh7,Qh8,8)
 |197=>some (Qie,Qif,18)
 |198=>some (Qiq,Qir,27)
 |203=>some (Qiv,Qiw,9)
 |204=>some (QiA,QiB,9)
 |205=>some (QiM,QiN,19)
 |206=>some (QiR,QiS,9)
 |207=>some (QiW,QiX,8)
 |208=>some (Qi9,Qja,27)
 |209=>some (Qjd,Qje,9)
 |210=>some (Qjp,Qjq,36)
 |212=>some (Qju,Qjv,12)
 |216=>some (QjF,QjG,16)
 |217=>some (QjK,QjL,9)
 |219=>some (QjW,QjX,19)
 |220=>some (Qj3,Qj4,31)
 |223=>some (Qkj,Qkk,63)
 |229=>some (Qkr,Qks,28)
 |230=>some (QkD,QkE,53)
 |241=>some (QkO,QkP,19)
 |242=>some (Qk0,Qk1,19)
 |243=>some (Qle,Qlf,66)
 |244=>some (Qlr,Qls,27)
 |251=>some (QlE,QlF,49)
 |254=>some (QlQ,QlR,53)
 |267=>some (QlU,QlV,9)
 |274=>some (Ql8,Ql9,34)
 |275=>some (Qmd,Qme,8)
 |279=>some (Qmk,Qml,39)
 |292=>some (V6,Rx,143)
 |294=>some (Qmz,QmA,28)
 |300=>some (QmE,QmF,8)
 |_=>none

theorem QwJ:Gm Tryz.prog tab:=by
 intro k c rs N h;unfold tab at h;split at h
 ·cases h;exact k9
 ·cases h;exact k25
 ·cases h;exact k10
 ·cases h;exact k24
 ·cases h;exact k19
 ·cases h;exact k15
 ·cases h;exact k12
 ·cases h;exact k50
 ·cases h;exact k51
 ·cases h;exact k26
 ·cases h;exact k27
 ·cases h;exact k28
 ·cases h;exact k29
 ·cases h;exact k37
 ·cases h;exact k52
 ·cases h;exact k53
 ·cases h;exact k54
 ·cases h;exact k55
 ·cases h;exact k56
 ·cases h;exact k57
 ·cases h;exact k58
 ·cases h;exact k72
 ·cases h;exact k73
 ·cases h;exact k83
 ·cases h;exact k84
 ·cases h;exact k85
 ·cases h;exact k86
 ·cases h;exact k87
 ·cases h;exact k88
 ·cases h;exact k89
 ·cases h;exact k90
 ·cases h;exact k91
 ·cases h;exact k92
 ·cases h;exact k95
 ·cases h;exact k96
 ·cases h;exact k97
 ·cases h;exact SI
 ·cases h;exact k99
 ·cases h;exact QLP
 ·cases h;exact QcA
 ·cases h;exact QcK
 ·cases h;exact QcR
 ·cases h;exact QcY
 ·cases h;exact Qc3
 ·cases h;exact Qdd
 ·cases h;exact Qdi
 ·cases h;exact Qdn
 ·cases h;exact Qdv
 ·cases h;exact QdA
 ·cases h;exact QdO
 ·cases h;exact QdT
 ·cases h;exact QdY
 ·cases h;exact Qd3
 ·cases h;exact Qd8
 ·cases h;exact Qed
 ·cases h;exact Qei
 ·cases h;exact Qen
 ·cases h;exact Qes
 ·cases h;exact Qex
 ·cases h;exact QeI
 ·cases h;exact QeT
 ·cases h;exact QeY
 ·cases h;exact Qe9
 ·cases h;exact Qfe
 ·cases h;exact Qfj
 ·cases h;exact Qfv
 ·cases h;exact QfA
 ·cases h;exact QfF
 ·cases h;exact QfK
 ·cases h;exact QfP
 ·cases h;exact Qf3
 ·cases h;exact Qf8
 ·cases h;exact Qgd
 ·cases h;exact Qgk
 ·cases h;exact Qgu
 ·cases h;exact Qgz
 ·cases h;exact QgE
 ·cases h;exact QgJ
 ·cases h;exact QgX
 ·cases h;exact Qg9
 ·cases h;exact Rr
 ·cases h;exact Rs
 ·cases h;exact QLQ
 ·cases h;exact Qhh
 ·cases h;exact Rt
 ·cases h;exact Qhs
 ·cases h;exact QLR
 ·cases h;exact QhM
 ·cases h;exact QhS
 ·cases h;exact Ru
 ·cases h;exact Qh9
 ·cases h;exact Rv
 ·cases h;exact Qis
 ·cases h;exact Qix
 ·cases h;exact QiC
 ·cases h;exact QiO
 ·cases h;exact QiT
 ·cases h;exact QiY
 ·cases h;exact Rw
 ·cases h;exact Qjf
 ·cases h;exact Qjr
 ·cases h;exact Qjw
 ·cases h;exact QjH
 ·cases h;exact QjM
 ·cases h;exact QjY
 ·cases h;exact Qj5
 ·cases h;exact QLS
 ·cases h;exact Qkt
 ·cases h;exact QLT
 ·cases h;exact QkQ
 ·cases h;exact Qk2
 ·cases h;exact Qlg
 ·cases h;exact Qlt
 ·cases h;exact QlG
 ·cases h;exact QLU
 ·cases h;exact QlW
 ·cases h;exact Qma
 ·cases h;exact Qmf
 ·cases h;exact Qmm
 ·cases h;exact Qmo
 ·cases h;exact QmB
 ·cases h;exact QmG
 ·cases h

def nat:K1:=fun _ _ _=>none

theorem nat_ok:Wf Tryz.prog nat:=by
 intro k args m v m' h;cases h

end Go.Proofs.YtipjfckmopekaaaGreatDoor.Ev

namespace Go.Proofs.YtipjfckmopekaaaGreatDoor.Va
open Go Am Rc Bt

def vo (k:Int)(b:Nat)(t:List UInt8)(l p s r:List AV):AV:=.agg [.int .i64 k,.int .u64 (b:Nat),.str t,.list l,.list p,.list s,.list r]

section
variable (k:Int)(b:Nat)(t:List UInt8)(l p s r:List AV)

def W0:Bool:=(l.length:Int)==0&&(p.length:Int)==0&&(s.length:Int)==0&&(r.length:Int)==0
def BH:Bool:=isk k&&W0 l p s r&&(b:Int)==0&&t==[]
def emp:Bool:=(k==11&&(l.length:Int)==0)||(k==12&&(p.length:Int)==0)||BH k b t l p s r

theorem RX:Qk Tryz.prog 194 [vo k b t l p s r] (.bool (W0 l p s r)):=by
 refine QN0.fn (by simp) ?_;simp only[vo,W0,eE,seval];cases h0:((l.length:Int)==0)<;>cases h1:((p.length:Int)==0)<;>cases h2:((s.length:Int)==0)<;>simp only[h1,h2,QY3,QYW,eE,seval]

theorem QwK (hl:l.length≤140737488351232)(hp:p.length≤140737488351232)(hs:s.length≤140737488351232)(hr:r.length≤140737488351232) :
  Qk Tryz.prog 229 [vo k b t l p s r] (.bool (W0 l p s r&&(if Za k=true then(b:Int)==0 else t==[]))):=by
 refine Qkt.fn (by simp) ?_;have w:IntKind.i64.wrap (IntKind.i64.wrap (IntKind.i64.wrap ((l.length:Int)+(p.length:Int))+(s.length:Int))+(r.length:Int))=(l.length+p.length+s.length+r.length:Nat):=by
  simp only[QE];omega
 simp only[vo,w,eE,seval];by_cases h:l.length+p.length+s.length+r.length=0
 ·have d:decide (((l.length+p.length+s.length+r.length:Nat):Int) > 0)=false:=QZd (by omega);have e:W0 l p s r=true:=by
   unfold W0;simp only[QXQ,QXy];omega
  simp only[d,e,QY3,eE,seval];refine aC (Qww k) ?_;cases Za k
  ·simp only[QXL,QI,eE,seval]
  ·simp only[eE,seval]
 ·have d:decide (((l.length+p.length+s.length+r.length:Nat):Int) > 0)=true:=QZi (by omega);have e:W0 l p s r=false:=by
   unfold W0;rw[QZf];simp only[ne_eq,QXQ,QXy];omega
  simp only[d,e,QYW,Qa,seval]

end

end Go.Proofs.YtipjfckmopekaaaGreatDoor.Va

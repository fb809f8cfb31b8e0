/- Parts of the proof, in order. -/
import Derived.WalkKit
import Derived.Lib.SmallJoins
import Derived.Deep.Slices
import Derived.DataShut
import Derived.Test.YtfgchfdkiomfpaaGreatRows
import Derived.Test.YtfgchfdkiomfpaaGreatProg
import Derived.Lib.IndexLaws
import Derived.Test.YtfgchfdkiomfpaaGreatMTagdecOnto1

namespace Go.Proofs.YtfgchfdkiomfpaaGreat.Rc
open Go Am
abbrev Qz4:IL:=[jh 1 1 0,jq 2]
abbrev Qz5:IL:=[yi 3]
abbrev Qz6:IL:=[jc 4 0]
abbrev Qz7:IL:=[ja 8 4,jb 9 0 1,je 10 9,jp 11 1 10,jv 12 8 11]
abbrev Qz8:IL:=[ja 15 3,ja 16 15,jk 17 4 16,yo 18 17 0 16,jk 19 18 16,jz 20 0 1 19,zu 21 0 1 20 19,yc 22 4 19,⟨some 23,.val (.bin .num .sub (.t 22) (.c (.int .i64 1))),(some (19,false))⟩,zo 24 3 21 23 19,jz 25 0 24 19,NQ 26 25 19,jz 27 0 1 19,zu 28 0 1 27 19,yc 29 4 19,zo 30 3 28 29 19,jz 31 0 30 19,NQ 32 31 19,⟨some 33,.val (.bin .str .lss (.t 26) (.t 32)),(some (19,false))⟩,zf 34 19 33 16,jm 35 16 34,ja 3 35]
abbrev Qz9:IL:=[jc 5 1]
abbrev QAa:IL:=[ja 36 5,jb 37 0 1,je 38 37,ja 39 4,jr 40 3 38 39,jb 41 1 40,je 42 41,jp 43 1 42,jv 44 36 43]
abbrev QAb:IL:=[ja 47 3,ja 48 47,jo 49 0 1 48,zk 50 0 1 49 48,jk 51 4 48,ye 52 3 50 51 48,jo 53 1 52 48,yt 54 53 48,jk 55 5 48,FV 56 55 1 48,ye 57 8 54 56 48,jo 58 0 57 48,yt 59 58 48,jo 60 0 1 48,zk 61 0 1 60 48,jk 62 4 48,ye 63 3 61 62 48,jo 64 1 63 48,yt 65 64 48,jk 66 5 48,ye 67 8 65 66 48,jo 68 0 67 48,yt 69 68 48,DO 70 59 69 48,jm 71 48 70,ja 3 71]
abbrev QAc:IL:=[ja 45 5,jw 46 45 1,ja 5 46]
abbrev Th:RC:=.seq (jQ QAa (jX 44 2)) (.seq (.block 3 (.draw QAb)) (.reg QAc))
abbrev QAd:IL:=[ja 13 4,jw 14 13 1,ja 4 14]
abbrev Ti:RC:=.seq (jQ Qz7 (jX 12 0)) (.seq (.block 1 (jD Qz8 (jQ Qz9 (.block 2 (.loop Th))))) (.reg QAd))
abbrev Qmz:IL:=[jc 6 0]
abbrev QmA:IL:=[ja 72 6,jb 73 1 1,je 74 73,jp 75 1 74,jv 76 72 75]
abbrev QmB:IL:=[ja 79 3,ja 80 79,jk 81 6 80,yo 82 81 0 80,jk 83 82 80,jz 84 1 1 83,zu 85 0 1 84 83,yc 86 6 83,⟨some 87,.val (.bin .num .sub (.t 86) (.c (.int .i64 1))),(some (83,false))⟩,zo 88 5 85 87 83,jz 89 0 88 83,NQ 90 89 83,jz 91 1 1 83,zu 92 0 1 91 83,yc 93 6 83,zo 94 5 92 93 83,jz 95 0 94 83,NQ 96 95 83,⟨some 97,.val (.bin .str .lss (.t 90) (.t 96)),(some (83,false))⟩,zf 98 83 97 80,jm 99 80 98,ja 3 99]
abbrev QmC:IL:=[jc 7 1]
abbrev QmD:IL:=[ja 100 7,jb 101 1 1,je 102 101,ja 103 6,jr 104 5 102 103,jb 105 2 104,je 106 105,jp 107 1 106,jv 108 100 107]
abbrev QmE:IL:=[ja 111 3,ja 112 111,jo 113 1 1 112,zk 114 0 1 113 112,jk 115 6 112,ye 116 5 114 115 112,jo 117 2 116 112,yt 118 117 112,jk 119 7 112,FV 120 119 1 112,ye 121 3 118 120 112,jo 122 1 121 112,yt 123 122 112,jo 124 1 1 112,zk 125 0 1 124 112,jk 126 6 112,ye 127 5 125 126 112,jo 128 2 127 112,yt 129 128 112,jk 130 7 112,ye 131 3 129 130 112,jo 132 1 131 112,yt 133 132 112,DO 134 123 133 112,jm 135 112 134,ja 3 135]
abbrev QmF:IL:=[ja 109 7,jw 110 109 1,ja 7 110]
abbrev Tj:RC:=.seq (jQ QmD (jX 108 6)) (.seq (.block 7 (.draw QmE)) (.reg QmF))
abbrev QmG:IL:=[ja 77 6,jw 78 77 1,ja 6 78]
abbrev Tk:RC:=.seq (jQ QmA (jX 76 4)) (.seq (.block 5 (jD QmB (jQ QmC (.block 6 (.loop Tj))))) (.reg QmG))
abbrev QmH:IL:=[ja 136 3,ja 2 136]
abbrev r30:RC:=jQ Qz4 (jQ Qz5 (.seq (jQ Qz6 (.block 0 (.loop Ti))) (.seq (jQ Qmz (.block 4 (.loop Tk))) (jQ QmH (.ret)))))
abbrev o30:List RR:=[.tmp 2]
theorem k30:CT 30 137 r30 o30:=ck Tryz.func30 Tryz.ntmps30 (by decide +kernel)
abbrev QAe:IL:=[jh 1 1 0,jq 2]
abbrev QAf:IL:=[yi 3]
abbrev QAg:IL:=[jc 4 0]
abbrev QAh:IL:=[ja 13 4,jb 14 0 1,je 15 14,jp 16 1 15,jv 17 13 16]
abbrev QAi:IL:=[jc 5 0]
abbrev QAj:IL:=[ja 20 5,jb 21 0 1,je 22 21,ja 23 4,jr 24 3 22 23,jb 25 1 24,je 26 25,jp 27 1 26,jv 28 20 27]
abbrev QAk:IL:=[jb 31 0 1,je 32 31,ja 33 4,jr 34 3 32 33,jb 35 1 34,je 36 35,ja 37 5,jr 38 8 36 37,jb 39 0 38,je 40 39,ja 6 40]
abbrev QAl:IL:=[ja 41 3,ja 42 41,jk 43 6 42,NS 44 43 1 42,jm 45 42 44,ja 46 45,jk 47 6 46,yz 48 47 65535 46,jm 49 46 48,ja 3 49]
abbrev QAm:IL:=[ja 29 5,jw 30 29 1,ja 5 30]
abbrev Tl:RC:=.seq (jQ QAj (jX 28 2)) (.seq (.block 3 (jQ QAk (.reg QAl))) (.reg QAm))
abbrev QAn:IL:=[ja 18 4,jw 19 18 1,ja 4 19]
abbrev Tm:RC:=.seq (jQ QAh (jX 17 0)) (.seq (.block 1 (jQ QAi (.block 2 (.loop Tl)))) (.reg QAn))
abbrev QmI:IL:=[jc 7 0]
abbrev QmJ:IL:=[ja 50 7,jb 51 1 1,je 52 51,jp 53 1 52,jv 54 50 53]
abbrev QmK:IL:=[jb 57 1 1,je 58 57,ja 59 7,jr 60 5 58 59,jd 61 5 60,⟨some 8,.allocN 8 [.str [],.bool false,.nils,.nils,.nils],none⟩,jf 5 8 61]
abbrev QmL:IL:=[jc 9 0]
abbrev QmM:IL:=[ja 62 9,jb 63 2 8,je 64 63,jp 65 1 64,jv 66 62 65]
abbrev QmN:IL:=[jb 69 2 8,je 70 69,ja 71 9,jr 72 3 70 71,jb 73 1 72,je 74 73,ja 10 74]
abbrev QmO:IL:=[ja 75 3,ja 76 75,jk 77 10 76,yz 78 77 2147483647 76,jm 79 76 78,ja 80 79,jk 81 9 80,⟨some 82,.val (.bin .num .gtr (.t 81) (.c (.int .i64 0))),(some (80,true))⟩,jk 83 82 80,yc 84 10 83,yu 85 84 0 83,zf 86 83 85 80,jm 87 80 86,ja 88 87,jo 89 3 8 88,jx 90 89 88,jk 91 10 88,DP 92 63 90 91 88,zt 93 92 88,jm 94 88 93,ja 3 94]
abbrev QmP:IL:=[ja 67 9,jw 68 67 1,ja 9 68]
abbrev Tn:RC:=.seq (jQ QmM (jX 66 6)) (.seq (.block 7 (jQ QmN (.reg QmO))) (.reg QmP))
abbrev QmQ:IL:=[jc 11 0]
abbrev QmR:IL:=[ja 95 11,jb 96 3 8,je 97 96,jp 98 1 97,jv 99 95 98]
abbrev QmS:IL:=[jb 102 3 8,je 103 102,ja 104 11,jr 105 2 103 104,jd 106 2 105,⟨some 12,.allocN 12 [.int .i64 0,.int .i64 0],none⟩,jf 2 12 106]
abbrev QmT:IL:=[ja 107 3,ja 108 107,jo 109 0 12 108,zk 110 0 12 109 108,NS 111 110 0 108,jm 112 108 111,ja 113 112,jo 114 1 12 113,zk 115 0 12 114 113,yz 116 115 2147483647 113,jm 117 113 116,ja 118 117,jo 119 0 12 118,zk 120 0 12 119 118,jo 121 1 12 118,zk 122 0 12 121 118,FX 123 120 122 118,jm 124 118 123,ja 125 124,jk 126 11 125,yo 127 126 0 125,jk 128 127 125,jz 129 0 12 128,zu 130 0 12 129 128,jz 131 3 8 128,zu 132 0 8 131 128,yc 133 11 128,⟨some 134,.val (.bin .num .sub (.t 133) (.c (.int .i64 1))),(some (128,false))⟩,zo 135 2 132 134 128,jz 136 1 135 128,NQ 137 136 128,M4 138 130 137 128,zf 139 128 138 125,jm 140 125 139,ja 3 140]
abbrev QmU:IL:=[ja 100 11,jw 101 100 1,ja 11 101]
abbrev To:RC:=.gho (.drop 12) (.seq (jQ QmR (jX 99 8)) (.seq (.block 9 (jQ QmS (.draw QmT))) (.reg QmU)))
abbrev QmV:IL:=[ja 55 7,jw 56 55 1,ja 7 56]
abbrev Tp:RC:=.gho (.drop 12) (.gho (.drop 8) (.seq (jQ QmJ (jX 54 4)) (.seq (.block 5 (jQ QmK (.seq (jQ QmL (.block 6 (.loop Tn))) (jQ QmQ (.block 8 (.loop To)))))) (.reg QmV))))
abbrev QmW:IL:=[ja 141 3,ja 2 141]
abbrev r32:RC:=jQ QAe (jQ QAf (.seq (jQ QAg (.block 0 (.loop Tm))) (.seq (jQ QmI (.block 4 (.loop Tp))) (jQ QmW (.ret)))))
abbrev o32:List RR:=[.tmp 2]
theorem k32:CT 32 142 r32 o32:=ck Tryz.func32 Tryz.ntmps32 (by decide +kernel)
abbrev QAo:IL:=[jq 2]
abbrev QAp:IL:=[ja 3 0,jl 4 111 3,ja 5 4,jk 6 0 5,za 7 110 6 5,zt 8 7 5,jm 9 5 8,ja 2 9]
abbrev r62:RC:=jQ QAo (jQ QAp (.ret))
abbrev o62:List RR:=[.tmp 2]
theorem k62:CT 62 10 r62 o62:=ck Tryz.func62 Tryz.ntmps62 (by decide +kernel)
abbrev QAq:IL:=[jh 1 1 0,jq 2]
abbrev QAr:IL:=[yi 3]
abbrev QAs:IL:=[jc 4 0]
abbrev QAt:IL:=[ja 13 4,jb 14 0 1,je 15 14,jp 16 1 15,jv 17 13 16]
abbrev QAu:IL:=[jc 5 0]
abbrev QAv:IL:=[ja 20 5,jb 21 1 1,je 22 21,jp 23 1 22,jv 24 20 23]
abbrev QAw:IL:=[ja 27 3,ja 28 27,jo 29 0 1 28,zk 30 0 1 29 28,jk 31 4 28,ye 32 3 30 31 28,jo 33 0 32 28,yt 34 33 28,jo 35 1 1 28,zk 36 0 1 35 28,jk 37 5 28,ye 38 5 36 37 28,jo 39 0 38 28,yt 40 39 28,⟨some 41,.val (.bin .str .neq (.t 34) (.t 40)),(some (28,true))⟩,jm 42 28 41,ja 3 42]
abbrev QAx:IL:=[ja 25 5,jw 26 25 1,ja 5 26]
abbrev Tq:RC:=.seq (jQ QAv (jX 24 2)) (.seq (.block 3 (.draw QAw)) (.reg QAx))
abbrev QAy:IL:=[jb 43 0 1,je 44 43,ja 45 4,jr 46 3 44 45,jb 47 1 46,je 48 47,ja 6 48]
abbrev QmX:IL:=[jc 7 0]
abbrev QmY:IL:=[ja 49 7,ja 50 6,jp 51 1 50,jv 52 49 51]
abbrev QmZ:IL:=[jc 8 0]
abbrev Qm0:IL:=[ja 55 8,ja 56 7,jv 57 55 56]
abbrev Qm1:IL:=[ja 60 3,ja 61 60,jk 62 6 61,jk 63 8 61,ye 64 8 62 63 61,jo 65 1 64 61,yt 66 65 61,jk 67 6 61,jk 68 7 61,ye 69 8 67 68 61,jo 70 1 69 61,yt 71 70 61,⟨some 72,.val (.bin .str .neq (.t 66) (.t 71)),(some (61,true))⟩,jm 73 61 72,ja 3 73]
abbrev Qm2:IL:=[ja 58 8,jw 59 58 1,ja 8 59]
abbrev Tr:RC:=.seq (jQ Qm0 (jX 57 6)) (.seq (.block 7 (.draw Qm1)) (.reg Qm2))
abbrev Qm3:IL:=[ja 53 7,jw 54 53 1,ja 7 54]
abbrev Ts:RC:=.seq (jQ QmY (jX 52 4)) (.seq (.block 5 (jQ QmZ (.block 6 (.loop Tr)))) (.reg Qm3))
abbrev QAz:IL:=[ja 18 4,jw 19 18 1,ja 4 19]
abbrev Tt:RC:=.seq (jQ QAt (jX 17 0)) (.seq (.block 1 (.seq (jQ QAu (.block 2 (.loop Tq))) (jQ QAy (jQ QmX (.block 4 (.loop Ts)))))) (.reg QAz))
abbrev Qm4:IL:=[jc 9 0]
abbrev Qm5:IL:=[ja 74 9,jb 75 1 1,je 76 75,jp 77 1 76,jv 78 74 77]
abbrev Qm6:IL:=[jb 81 1 1,je 82 81,ja 83 9,jr 84 5 82 83,jb 85 2 84,je 86 85,ja 10 86]
abbrev Qm7:IL:=[jc 11 0]
abbrev Qm8:IL:=[ja 87 11,ja 88 10,jp 89 1 88,jv 90 87 89]
abbrev Qm9:IL:=[jc 12 0]
abbrev Qna:IL:=[ja 93 12,ja 94 11,jv 95 93 94]
abbrev Qnb:IL:=[ja 98 3,ja 99 98,jk 100 10 99,jk 101 12 99,ye 102 3 100 101 99,jo 103 0 102 99,yt 104 103 99,jk 105 10 99,jk 106 11 99,ye 107 3 105 106 99,jo 108 0 107 99,yt 109 108 99,⟨some 110,.val (.bin .str .neq (.t 104) (.t 109)),(some (99,true))⟩,jm 111 99 110,ja 3 111]
abbrev Qnc:IL:=[ja 96 12,jw 97 96 1,ja 12 97]
abbrev Tu:RC:=.seq (jQ Qna (jX 95 12)) (.seq (.block 13 (.draw Qnb)) (.reg Qnc))
abbrev Qnd:IL:=[ja 91 11,jw 92 91 1,ja 11 92]
abbrev Tv:RC:=.seq (jQ Qm8 (jX 90 10)) (.seq (.block 11 (jQ Qm9 (.block 12 (.loop Tu)))) (.reg Qnd))
abbrev Qne:IL:=[ja 79 9,jw 80 79 1,ja 9 80]
abbrev Tw:RC:=.seq (jQ Qm5 (jX 78 8)) (.seq (.block 9 (jQ Qm6 (jQ Qm7 (.block 10 (.loop Tv))))) (.reg Qne))
abbrev Qnf:IL:=[ja 112 3,ja 2 112]
abbrev r31:RC:=jQ QAq (jQ QAr (.seq (jQ QAs (.block 0 (.loop Tt))) (.seq (jQ Qm4 (.block 8 (.loop Tw))) (jQ Qnf (.ret)))))
abbrev o31:List RR:=[.tmp 2]
theorem k31:CT 31 113 r31 o31:=ck Tryz.func31 Tryz.ntmps31 (by decide +kernel)
abbrev Qng:IL:=[jh 2 2 0,jh 3 3 1,jq 4]
abbrev Qnh:IL:=[jb 5 5 3,je 6 5]
abbrev Qni:IL:=[jn 8 6 10,ja 7 8]
abbrev Qnj:IL:=[jb 9 6 3,je 10 9,zg 11 10 0,ja 12 11,jo 13 6 3 12,jx 14 13 12,jo 15 0 2 12,jx 16 15 12,yq 17 1 16 12,DO 18 14 17 12,jm 19 12 18,ja 20 19,jo 21 3 3 20,jx 22 21 20,M3 23 22 3 20,jm 24 20 23,ja 4 24]
abbrev Qnk:IL:=[jn 26 6 9,ja 25 26]
abbrev Qnl:IL:=[jb 27 6 3,je 28 27,zg 29 28 0,ja 30 29,jo 31 6 3 30,jx 32 31 30,jo 33 1 2 30,jx 34 33 30,yq 35 1 34 30,DO 36 32 35 30,jm 37 30 36,ja 4 37]
abbrev Qnm:IL:=[jb 38 6 3,je 39 38,jn 40 39 (-1),ja 4 40]
abbrev QHy:RC:=jQ Qng (.seq (jQ Qnh (.block 0 (jQ Qni (.cond (.t 7) (jQ Qnj (.ret)) (jQ Qnk (.cond (.t 25) (jQ Qnl (.ret)) (.skip))))))) (jQ Qnm (.ret)))
abbrev QHz:List RR:=[.tmp 4]
theorem QHA:CT 116 41 QHy QHz:=ck Tryz.func116 Tryz.ntmps116 (by decide +kernel)
abbrev Qnn:IL:=[jc 2 0]
abbrev Qno:IL:=[ja 5 0,⟨some 6,.rngs 6 (.t 5),none⟩]
abbrev Qnp:IL:=[⟨some 7,.nxts (.t 6),none⟩,jg 8 7 0]
abbrev Qnq:IL:=[jg 9 7 1,jg 10 7 2,ja 3 9,ja 4 10]
abbrev Qnr:IL:=[ja 11 0,ja 12 3,ja 13 4,yp 14 219 11 12 13]
abbrev Qns:IL:=[ja 15 3,ja 2 15]
abbrev Qnt:RC:=jQ Qnp (.seq (jX 8 0) (.block 1 (jQ Qnq (jQ Qnr (.cond (.t 14) (jQ Qns (.ret)) (.skip))))))
abbrev Qnu:IL:=[jc 2 (-1)]
abbrev QHB:RC:=jQ Qnn (.seq (jQ Qno (.block 0 (.loop Qnt))) (jQ Qnu (.ret)))
abbrev QHC:List RR:=[.tmp 2]
theorem QHD:CT 206 16 QHB QHC:=ck Tryz.func206 Tryz.ntmps206 (by decide +kernel)
abbrev QAA:IL:=[jh 2 2 0,zd 4 4,jq 5]
abbrev QAB:IL:=[jc 6 0]
abbrev QAC:IL:=[ja 7 6,jb 8 1 2,je 9 8,jp 10 1 9,jv 11 7 10]
abbrev QAD:IL:=[jb 14 1 2,je 15 14,ja 16 6,jr 17 8 15 16,jb 18 0 17,je 19 18,ja 20 1,zh 21 19 20]
abbrev QAE:IL:=[jb 22 1 2,je 23 22,ja 24 6,jr 25 8 23 24,jd 26 8 25,jf 8 4 26,yi 5]
abbrev QAF:IL:=[ja 12 6,jw 13 12 1,ja 6 13]
abbrev QAG:RC:=.seq (jQ QAC (jX 11 0)) (.seq (.block 1 (jQ QAD (.cond (.t 21) (jQ QAE (.ret)) (.skip)))) (.reg QAF))
abbrev QAH:IL:=[⟨some 27,.val (.build [.int .i64 0,.str [],.str [],.int .i64 0,.int .i64 0,.int .i64 0,.int .i64 0,.int .i64 0] []),none⟩,jf 8 4 27,jq 5]
abbrev r75:RC:=jQ QAA (.seq (jQ QAB (.block 0 (.loop QAG))) (jQ QAH (.ret)))
abbrev o75:List RR:=[.cell 4 (some 8),.tmp 5]
theorem k75:CT 75 28 r75 o75:=ck Tryz.func75 Tryz.ntmps75 (by decide +kernel)
abbrev Qnv:IL:=[jh 3 3 0,jq 6]
abbrev Qnw:IL:=[ja 9 1,ym 10 9 0,ja 11 10,yc 12 1 11,jz 13 1 3 11,yb 14 13 11,zm 15 1 14 11,⟨some 16,.val (.bin .num .geq (.t 12) (.t 15)),(some (11,false))⟩,ya 17 11 16,ja 18 17,yc 19 2 18,⟨some 20,.val (.bin .num .gtr (.t 19) (.c (.int .u64 2147483647))),(some (18,false))⟩,ya 21 18 20]
abbrev Qnx:IL:=[jq 6]
abbrev Qny:IL:=[jb 22 1 3,je 23 22,ja 24 1,jr 25 5 23 24,jb 26 1 25,je 27 26,ja 7 27]
abbrev Qnz:IL:=[jc 8 0]
abbrev QnA:IL:=[ja 28 8,jb 29 1 3,je 30 29,ja 31 1,jr 32 5 30 31,jb 33 2 32,je 34 33,jp 35 1 34,jv 36 28 35]
abbrev QnB:IL:=[ja 39 7,ja 40 39,jz 41 1 3 40,yb 42 41 40,yc 43 1 40,zo 44 5 42 43 40,jz 45 2 44 40,yb 46 45 40,yc 47 8 40,zo 48 3 46 47 40,jz 49 1 48 40,yb 50 49 40,yc 51 2 40,⟨some 52,.val (.cvi .i64 (.t 51)),(some (40,false))⟩,⟨some 53,.val (.bin .num .eql (.t 50) (.t 52)),(some (40,false))⟩,ya 54 40 53,ja 7 54]
abbrev QnC:IL:=[ja 37 8,jw 38 37 1,ja 8 38]
abbrev QnD:RC:=.seq (jQ QnA (jX 36 0)) (.seq (.block 1 (.reg QnB)) (.reg QnC))
abbrev QnE:IL:=[ja 55 7,ja 6 55]
abbrev QHE:RC:=jQ Qnv (.seq (jQ Qnw (.cond (.t 21) (jQ Qnx (.ret)) (.skip))) (jQ Qny (.seq (jQ Qnz (.block 0 (.loop QnD))) (jQ QnE (.ret)))))
abbrev QHF:List RR:=[.tmp 6]
theorem QHG:CT 180 56 QHE QHF:=ck Tryz.func180 Tryz.ntmps180 (by decide +kernel)
abbrev QAI:IL:=[jc 4 0]
abbrev QAJ:IL:=[jc 5 0]
abbrev QAK:IL:=[ja 7 5,ja 8 0,jp 9 1 8,jv 10 7 9,ja 11 10,jk 12 5 11,jk 13 1 11,yq 14 1 13 11,DO 15 12 14 11,jm 16 11 15]
abbrev QAL:IL:=[ja 19 0,ja 20 5,jr 21 7 19 20,yn 22 7 21,ja 23 1,ja 24 5,jr 25 7 23 24,yn 26 7 25,ju 27 41 22 26,ja 6 27]
abbrev QAM:IL:=[ja 28 6,js 29 28 0]
abbrev QAN:IL:=[ja 30 6,ja 4 30]
abbrev QAO:IL:=[ja 17 5,jw 18 17 1,ja 5 18]
abbrev QAP:RC:=.seq (jQ QAK (jX 16 0)) (.seq (.block 1 (jD QAL (jQ QAM (.cond (.t 29) (jQ QAN (.ret)) (.skip))))) (.reg QAO))
abbrev QAQ:IL:=[ja 31 0,jp 32 1 31,ja 33 1,jp 34 1 33,ju 35 67 32 34,ja 4 35]
abbrev N3:RC:=jQ QAI (.seq (jQ QAJ (.block 0 (.loop QAP))) (jQ QAQ (.ret)))
abbrev o68:List RR:=[.tmp 4]
theorem k68:CT 68 36 N3 o68:=ck Tryz.func68 Tryz.ntmps68 (by decide +kernel)
abbrev QAR:IL:=[jc 4 0]
abbrev QAS:IL:=[jc 5 0]
abbrev QAT:IL:=[ja 8 5,ja 9 0,jp 10 1 9,jv 11 8 10,ja 12 11,jk 13 5 12,jk 14 1 12,yq 15 1 14 12,DO 16 13 15 12,jm 17 12 16]
abbrev QAU:IL:=[ja 20 0,ja 21 5,jr 22 14 20 21,jb 23 0 22,yn 24 7 23,ja 25 1,ja 26 5,jr 27 14 25 26,jb 28 0 27,yn 29 7 28,ju 30 41 24 29,ja 6 30]
abbrev QAV:IL:=[ja 31 6,js 32 31 0]
abbrev QAW:IL:=[ja 33 6,ja 4 33]
abbrev QAX:IL:=[ja 34 0,ja 35 5,jr 36 14 34 35,jb 37 7 36,yn 38 7 37,ja 39 1,ja 40 5,jr 41 14 39 40,jb 42 7 41,yn 43 7 42,ju 44 41 38 43,ja 7 44]
abbrev QAY:IL:=[ja 45 7,js 46 45 0]
abbrev QAZ:IL:=[ja 47 7,ja 4 47]
abbrev QA0:IL:=[ja 18 5,jw 19 18 1,ja 5 19]
abbrev QA1:RC:=.seq (jQ QAT (jX 17 0)) (.seq (.block 1 (.seq (jD QAU (jQ QAV (.cond (.t 32) (jQ QAW (.ret)) (.skip)))) (jD QAX (jQ QAY (.cond (.t 46) (jQ QAZ (.ret)) (.skip)))))) (.reg QA0))
abbrev QnF:IL:=[ja 48 0,jp 49 1 48,ja 50 1,jp 51 1 50,ju 52 67 49 51,ja 4 52]
abbrev r69:RC:=jQ QAR (.seq (jQ QAS (.block 0 (.loop QA1))) (jQ QnF (.ret)))
abbrev o69:List RR:=[.tmp 4]
theorem k69:CT 69 53 r69 o69:=ck Tryz.func69 Tryz.ntmps69 (by decide +kernel)
abbrev QA2:IL:=[jh 2 2 0,jh 3 3 1,jc 4 0]
abbrev QA3:IL:=[jb 6 0 2,je 7 6,jb 8 0 3,je 9 8,jv 10 7 9,ja 5 10]
abbrev QA4:IL:=[jc 4 (-1)]
abbrev QA5:IL:=[jb 12 0 2,je 13 12,jb 14 0 3,je 15 14,yr 16 13 15,ja 11 16]
abbrev QA6:IL:=[jc 4 1]
abbrev QA7:IL:=[jb 18 0 2,je 19 18,jl 20 118 19,yd 21 20,ja 17 21]
abbrev QA8:IL:=[jc 4 0]
abbrev QA9:IL:=[jb 23 0 2,je 24 23,jl 25 119 24,ja 26 25,jo 27 2 2 26,jx 28 27 26,jo 29 2 3 26,jx 30 29 26,⟨some 31,.val (.bin .str .lss (.t 28) (.t 30)),(some (26,true))⟩,jm 32 26 31,ja 22 32]
abbrev QBa:IL:=[jc 4 (-1)]
abbrev QBb:IL:=[jb 34 0 2,je 35 34,jl 36 119 35,ja 37 36,jo 38 2 2 37,jx 39 38 37,jo 40 2 3 37,jx 41 40 37,⟨some 42,.val (.bin .str .gtr (.t 39) (.t 41)),(some (37,true))⟩,jm 43 37 42,ja 33 43]
abbrev QnG:IL:=[jc 4 1]
abbrev QnH:IL:=[jb 45 0 2,je 46 45,jl 47 119 46,ja 44 47]
abbrev QnI:IL:=[jc 4 0]
abbrev QnJ:IL:=[ji 49 0 2 7 2,jl 50 120 49,ji 51 0 3 7 3,jl 52 120 51,jv 53 50 52,ja 48 53]
abbrev QnK:IL:=[jc 4 (-1)]
abbrev QnL:IL:=[ji 55 0 2 7 2,jl 56 120 55,ji 57 0 3 7 3,jl 58 120 57,yr 59 56 58,ja 54 59]
abbrev QnM:IL:=[jc 4 1]
abbrev QnN:IL:=[jc 4 0]
abbrev r72:RC:=jQ QA2 (.seq (.block 0 (jQ QA3 (.cond (.t 5) (jQ QA4 (.ret)) (jQ QA5 (.cond (.t 11) (jQ QA6 (.ret)) (jQ QA7 (.cond (.t 17) (jQ QA8 (.ret)) (jQ QA9 (.cond (.t 22) (jQ QBa (.ret)) (jQ QBb (.cond (.t 33) (jQ QnG (.ret)) (jQ QnH (.cond (.t 44) (jQ QnI (.ret)) (jD QnJ (.cond (.t 48) (jQ QnK (.ret)) (jD QnL (.cond (.t 54) (jQ QnM (.ret)) (.skip)))))))))))))))))) (jQ QnN (.ret)))
abbrev o72:List RR:=[.tmp 4]
theorem k72:CT 72 60 r72 o72:=ck Tryz.func72 Tryz.ntmps72 (by decide +kernel)
abbrev QnO:IL:=[jc 2 0]
abbrev QnP:IL:=[ja 4 0,FU 5 4 9223372036854775808,ja 3 5]
abbrev QnQ:IL:=[ja 7 3,⟨some 8,.val (.bin .num .gtr (.t 7) (.c (.int .u64 9218868437227405312))),none⟩,ja 6 8]
abbrev QnR:IL:=[jc 2 0]
abbrev QnS:IL:=[ja 10 3,zn 11 10 9218868437227405312,ja 9 11]
abbrev QnT:IL:=[jc 2 1]
abbrev QnU:IL:=[ja 13 3,zn 14 13 0,ja 12 14]
abbrev QnV:IL:=[jc 2 2]
abbrev QnW:IL:=[ja 16 3,NO 17 16 4503599627370496,ja 15 17]
abbrev QnX:IL:=[jc 2 3]
abbrev IX:IL:=[jc 2 4]
abbrev QHH:RC:=jQ QnO (jQ QnP (.seq (.block 0 (jQ QnQ (.cond (.t 6) (jQ QnR (.ret)) (jQ QnS (.cond (.t 9) (jQ QnT (.ret)) (jQ QnU (.cond (.t 12) (jQ QnV (.ret)) (jQ QnW (.cond (.t 15) (jQ QnX (.ret)) (.skip)))))))))) (jQ IX (.ret))))
abbrev QHI:List RR:=[.tmp 2]
theorem QHJ:CT 137 18 QHH QHI:=ck Tryz.func137 Tryz.ntmps137 (by decide +kernel)
abbrev QnY:IL:=[jh 1 1 0,yl 2 0]
abbrev QnZ:IL:=[jb 4 0 1,je 5 4,jl 6 171 5,ja 3 6]
abbrev Qn0:IL:=[jb 7 1 1,je 8 7,⟨some 9,.val (.bin .num .add (.t 8) (.c (.int .u64 9223372036854775808))),none⟩,ja 2 9]
abbrev Qn1:IL:=[jb 11 0 1,je 12 11,js 13 12 6,ja 10 13]
abbrev Qn2:IL:=[jb 14 1 1,je 15 14,ja 2 15]
abbrev Qn3:IL:=[jb 17 1 1,je 18 17,jl 19 137 18,jn 20 19 0,ja 16 20]
abbrev Qn4:IL:=[yl 2 18446744073709551615]
abbrev Qn5:IL:=[jb 22 1 1,je 23 22,⟨some 24,.val (.bin .num .geq (.t 23) (.c (.int .u64 9223372036854775808))),none⟩,ja 21 24]
abbrev Qn6:IL:=[jb 25 1 1,je 26 25,⟨some 27,.val (.bin .num .sub (.c (.int .u64 18446744073709551615)) (.t 26)),none⟩,ja 2 27]
abbrev Qn7:IL:=[jb 28 1 1,je 29 28,⟨some 30,.val (.bin .num .add (.t 29) (.c (.int .u64 9223372036854775808))),none⟩,ja 2 30]
abbrev QHK:RC:=jQ QnY (.seq (.block 0 (jQ QnZ (.cond (.t 3) (jQ Qn0 (.ret)) (jQ Qn1 (.cond (.t 10) (jQ Qn2 (.ret)) (jQ Qn3 (.cond (.t 16) (jQ Qn4 (.ret)) (jQ Qn5 (.cond (.t 21) (jQ Qn6 (.ret)) (.skip)))))))))) (jQ Qn7 (.ret)))
abbrev QHL:List RR:=[.tmp 2]
theorem Qn8:CT 120 31 QHK QHL:=ck Tryz.func120 Tryz.ntmps120 (by decide +kernel)
abbrev Qn9:IL:=[jq 2]
abbrev Qoa:IL:=[ja 3 0,jn 4 3 2,ja 5 4,yc 6 0 5,yu 7 6 3 5,ya 8 5 7,ja 2 8]
abbrev QHM:RC:=jQ Qn9 (jQ Qoa (.ret))
abbrev QHN:List RR:=[.tmp 2]
theorem QHO:CT 171 9 QHM QHN:=ck Tryz.func171 Tryz.ntmps171 (by decide +kernel)
abbrev Qob:IL:=[jh 2 2 0,jh 3 3 1,jc 4 0]
abbrev Qoc:IL:=[jb 11 0 2,je 12 11,jb 13 0 3,je 14 13,yx 15 12 14]
abbrev Qod:IL:=[jb 16 0 2,je 17 16,jb 18 0 3,je 19 18,ju 20 60 17 19,ja 4 20]
abbrev Qoe:IL:=[jd 21 7 3,jl 22 192 21,ja 5 22]
abbrev Qof:IL:=[jd 23 7 2,jl 24 192 23]
abbrev Qog:IL:=[⟨some 25,.val (.tas 188 true (.agg [.int .i64 0,.int .u64 0,.str [],.nils,.nils,.nils,.nils]) (.t 24)),none⟩,jg 26 25 1,jg 27 25 0]
abbrev Qoh:IL:=[jt 6 6,jf 7 6 27]
abbrev Qoi:IL:=[jd 28 7 6,jd 29 7 3,ju 30 193 28 29,ja 4 30]
abbrev Qoj:IL:=[⟨some 31,.val (.tas 189 true (.nils) (.t 24)),none⟩,jg 32 31 1,jg 33 31 0]
abbrev Qok:IL:=[ja 7 33]
abbrev IY:IL:=[ja 34 7,ja 35 5,⟨some 36,.val (.tas 189 false (.nils) (.t 35)),none⟩,⟨some 37,.callF (.f 194) [(.t 34),(.t 36),(.f 160)],none⟩,ja 4 37]
abbrev IZ:IL:=[⟨some 38,.val (.tas 191 true (.nils) (.t 24)),none⟩,jg 39 38 1,jg 40 38 0]
abbrev I0:IL:=[ja 8 40]
abbrev I1:IL:=[ja 41 8,ja 42 5,⟨some 43,.val (.tas 191 false (.nils) (.t 42)),none⟩,⟨some 44,.callF (.f 195) [(.t 41),(.t 43),(.f 196)],none⟩,ja 4 44]
abbrev I2:IL:=[⟨some 45,.val (.tas 194 true (.agg [.nils,.nils]) (.t 24)),none⟩,jg 46 45 1,jg 47 45 0]
abbrev I3:IL:=[⟨some 9,.allocN 9 [.nils,.nils],none⟩,jf 2 9 47]
abbrev I4:IL:=[ja 48 5,⟨some 49,.val (.tas 194 false (.agg [.nils,.nils]) (.t 48)),none⟩,⟨some 10,.allocN 10 [.nils,.nils],none⟩,jf 2 10 49]
abbrev I5:IL:=[jc 4 0]
abbrev QHP:RC:=jQ Qob (.seq (jQ Qoc (.cond (.t 15) (jQ Qod (.ret)) (.skip))) (jQ Qoe (.seq (jQ Qof (.block 0 (jQ Qog (.cond (.t 26) (jQ Qoh (jQ Qoi (.ret))) (jQ Qoj (.cond (.t 32) (jQ Qok (jQ IY (.ret))) (jQ IZ (.cond (.t 39) (jQ I0 (jQ I1 (.ret))) (jQ I2 (.cond (.t 46) (jQ I3 (jQ I4 (.seq (.no) (.ret)))) (.skip))))))))))) (jQ I5 (.ret)))))
abbrev QHQ:List RR:=[.tmp 4]
theorem QHR:CT 160 62 QHP QHQ:=ck Tryz.func160 Tryz.ntmps160 (by decide +kernel)
abbrev Qol:IL:=[jh 1 1 0,⟨some 2,.val (.mov (.c (.nili))),none⟩]
abbrev Qom:IL:=[jb 4 0 1,je 5 4,jl 6 163 5,ja 3 6]
abbrev Qon:IL:=[jd 7 7 1,⟨some 8,.val (.mki 188 (.t 7)),none⟩,ja 2 8]
abbrev Qoo:IL:=[jb 10 0 1,je 11 10,jn 12 11 11,ja 9 12]
abbrev Qop:IL:=[jb 13 3 1,je 14 13,⟨some 15,.val (.mki 189 (.t 14)),none⟩,ja 2 15]
abbrev Qoq:IL:=[jb 17 0 1,je 18 17,jn 19 18 12,ja 16 19]
abbrev Qor:IL:=[jb 20 4 1,je 21 20,⟨some 22,.val (.mki 191 (.t 21)),none⟩,ja 2 22]
abbrev Qos:IL:=[jb 24 0 1,je 25 24,jn 26 25 10,ja 23 26]
abbrev Qot:IL:=[jb 27 5 1,je 28 27,jb 29 6 1,je 30 29,⟨some 31,.val (.build [.nils,.nils] [(0,1,(.t 28)),(1,1,(.t 30))]),none⟩,⟨some 32,.val (.mki 194 (.t 31)),none⟩,ja 2 32]
abbrev Qou:IL:=[⟨some 2,.val (.mov (.c (.nili))),none⟩]
abbrev QHS:RC:=jQ Qol (.seq (.block 0 (jQ Qom (.cond (.t 3) (jQ Qon (.ret)) (jQ Qoo (.cond (.t 9) (jQ Qop (.ret)) (jQ Qoq (.cond (.t 16) (jQ Qor (.ret)) (jQ Qos (.cond (.t 23) (jQ Qot (.ret)) (.skip)))))))))) (jQ Qou (.ret)))
abbrev QHT:List RR:=[.tmp 2]
theorem QHU:CT 192 33 QHS QHT:=ck Tryz.func192 Tryz.ntmps192 (by decide +kernel)
abbrev QHV:IL:=[jh 4 4 0,jh 6 6 2,jh 7 7 3,jq 8]
abbrev QHW:IL:=[jd 15 2 4,jl 16 5 15,yd 17 16,ja 18 17,⟨some 19,.val (.iaddr 1 (some 2) (.t 6) (.c (.int .i64 0))),(some (18,false))⟩,yb 20 19 18,zm 21 0 20 18,zz 22 21 3000 18,ya 23 18 22,ja 24 23,⟨some 25,.val (.iaddr 1 (some 2) (.t 6) (.c (.int .i64 1))),(some (24,false))⟩,yb 26 25 24,zm 27 0 26 24,zz 28 27 3000 24,ya 29 24 28]
abbrev QHX:IL:=[yi 8]
abbrev QHY:IL:=[ji 31 0 4 2 4,ja 32 1,NJ 33,⟨some 34,.val (.iaddr 1 (some 2) (.t 6) (.c (.int .i64 0))),none⟩,yg 35 0 6 34,⟨some 36,.call (.f 11) [],none⟩,zl 37 10 31 32 33 35 36,ja 30 37,jg 38 30 0,jg 39 30 1,jt 9 9,jj 0 9 7 9 38,ja 10 39]
abbrev QHZ:IL:=[jd 41 2 4,ja 42 1,jd 43 7 9,⟨some 44,.val (.iaddr 1 (some 2) (.t 6) (.c (.int .i64 1))),none⟩,je 45 44,jd 46 4 7,zl 47 12 41 42 43 45 46,ja 40 47,jg 48 40 0,jg 49 40 1,jt 11 11,jf 7 11 48,ja 12 49]
abbrev QH0:IL:=[jd 51 2 4,ja 52 1,jd 53 7 9,⟨some 54,.val (.iaddr 1 (some 2) (.t 6) (.c (.int .i64 1))),none⟩,je 55 54,jd 56 4 7,zl 57 10 51 52 53 55 56,ja 50 57,jg 58 50 0,jg 59 50 1,jt 13 13,jf 7 13 58,ja 14 59]
abbrev QH1:IL:=[ja 60 12,ja 61 14,zh 62 60 61,ja 63 62,yy 64 7 11 63,yy 65 7 13 63,DP 66 8 64 65 63,jm 67 63 66,ja 68 67,⟨some 69,.call (.f 9) [],(some (68,true))⟩,jm 70 68 69,ja 8 70]
abbrev r4:RC:=jQ QHV (.seq (jQ QHW (.cond (.t 29) (jQ QHX (.ret)) (.skip))) (jD QHY (jQ QHZ (jQ QH0 (jQ QH1 (.ret))))))
abbrev o4:List RR:=[.tmp 8]
theorem k4:CT 4 71 r4 o4:=ck Tryz.func4 Tryz.ntmps4 (by decide +kernel)
def QH2:IL:=[jh 4 4 0,jh 7 7 3,jq 8]
def QH3:IL:=[jd 13 2 4,jl 14 5 13,yd 15 14,ja 16 15,yc 17 2 16,zm 18 0 17 16,zz 19 18 3000 16,ya 20 16 19]
def QH4:IL:=[yi 8]
def QH5:IL:=[jd 22 2 4,ja 23 1,ja 24 2,jd 25 4 7,zb 26 6 22 23 24 25,ja 21 26,jg 27 21 0,jg 28 21 1,jt 9 9,jf 7 9 27,ja 10 28]
def QH6:IL:=[jd 30 2 4,ja 31 1,ja 32 2,jd 33 4 7,zb 34 7 30 31 32 33,ja 29 34,jg 35 29 0,jg 36 29 1,jt 11 11,jf 7 11 35,ja 12 36]
def QH7:IL:=[ja 37 10,ja 38 12,zh 39 37 38,ja 40 39,yy 41 7 9 40,yy 42 7 11 40,DP 43 8 41 42 40,jm 44 40 43,ja 45 44,⟨some 46,.call (.f 9) [],(some (45,true))⟩,jm 47 45 46,ja 8 47]
def r3:RC:=jQ QH2 (.seq (jQ QH3 (.cond (.t 20) (jQ QH4 (.ret)) (.skip))) (jQ QH5 (jQ QH6 (jQ QH7 (.ret)))))
def o3:List RR:=[.tmp 8]
theorem k3:CT 3 48 r3 o3:=ck Tryz.func3 Tryz.ntmps3 (by decide +kernel)
abbrev QH8:IL:=[jh 1 1 0,jq 2]
abbrev QH9:IL:=[jb 3 0 1,je 4 3,jp 5 1 4,⟨some 6,.val (.bin .num .leq (.t 5) (.c (.int .i64 8))),none⟩,ja 7 6,jo 8 1 1 7,jx 9 8 7,yq 10 1 9 7,yz 11 10 8 7,jm 12 7 11,ja 13 12,yy 14 2 1 13,za 15 13 14 13,yo 16 15 0 13,jm 17 13 16,ja 2 17]
abbrev r5:RC:=jQ QH8 (jQ QH9 (.ret))
abbrev o5:List RR:=[.tmp 2]
theorem k5:CT 5 18 r5 o5:=ck Tryz.func5 Tryz.ntmps5 (by decide +kernel)
abbrev Qov:IL:=[yl 2 0,jc 3 0,jc 4 0]
abbrev Qow:IL:=[yl 5 0,yl 6 1]
abbrev Qox:IL:=[jc 7 0]
abbrev Qoy:IL:=[ja 9 7,ym 10 9 10]
abbrev Qoz:IL:=[ja 13 7,ja 14 0,jp 15 0 14,⟨some 16,.val (.bin .num .geq (.t 13) (.t 15)),none⟩]
abbrev QoA:IL:=[yl 2 0,jc 3 0,jc 4 4]
abbrev QoB:IL:=[ja 17 0,ja 18 7,zw 19 17 18,zp 20 19,ja 8 20]
abbrev QoC:IL:=[ja 21 7,jn 22 21 9,ja 23 22,jk 24 8 23,⟨some 25,.val (.bin .num .gtr (.t 24) (.c (.int .u64 1))),(some (23,true))⟩,jm 26 23 25]
abbrev QoD:IL:=[yl 2 0,jc 3 0,jc 4 6]
abbrev I6:IL:=[ja 27 5,ja 28 8,FU 29 28 128,ja 30 6,⟨some 31,.val (.bin .num .mul (.t 29) (.t 30)),none⟩,yk 32 27 31,ja 5 32]
abbrev I7:IL:=[ja 33 8,NO 34 33 128]
abbrev I8:IL:=[ja 35 5,ja 36 7,jw 37 36 1,ja 2 35,ja 3 37,jc 4 0]
abbrev I9:IL:=[ja 38 6,⟨some 39,.val (.bin .num .mul (.t 38) (.c (.int .u64 128))),none⟩,ja 6 39]
abbrev QoE:IL:=[ja 11 7,jw 12 11 1,ja 7 12]
abbrev QoF:RC:=.seq (jQ Qoy (jX 10 0)) (.seq (.block 1 (.seq (jQ Qoz (.cond (.t 16) (jQ QoA (.ret)) (.skip))) (jQ QoB (.seq (jQ QoC (.cond (.t 26) (jQ QoD (.ret)) (.skip))) (jQ I6 (.seq (jQ I7 (.cond (.t 34) (jQ I8 (.ret)) (.skip))) (.reg I9))))))) (.reg QoE))
abbrev La:IL:=[yl 2 0,jc 3 0,jc 4 6]
abbrev QIa:RC:=jQ Qov (jQ Qow (.seq (jQ Qox (.block 0 (.loop QoF))) (jQ La (.ret))))
abbrev QIb:List RR:=[.tmp 2,.tmp 3,.tmp 4]
theorem QIc:CT 172 40 QIa QIb:=ck Tryz.func172 Tryz.ntmps172 (by decide +kernel)
abbrev QoG:IL:=[jc 2 0]
abbrev QoH:IL:=[ja 3 0,FU 4 3 2,zn 5 4 0]
abbrev QoI:IL:=[ja 6 0,NN 7 6 2,yv 8 7,ja 2 8]
abbrev QoJ:IL:=[ja 9 0,NN 10 9 2,yv 11 10,⟨some 12,.val (.un .neg (.t 11)),none⟩,WR 13 12 1,ja 2 13]
abbrev QId:RC:=jQ QoG (.seq (jQ QoH (.cond (.t 5) (jQ QoI (.ret)) (.skip))) (jQ QoJ (.ret)))
abbrev QIe:List RR:=[.tmp 2]
theorem QIf:CT 179 14 QId QIe:=ck Tryz.func179 Tryz.ntmps179 (by decide +kernel)
abbrev QoK:IL:=[jh 1 1 0,⟨some 2,.val (.mov (.c (.int .u8 0))),none⟩,jy 3 3,jc 4 0]
abbrev QoL:IL:=[jd 6 6 1,jl 7 73 6,ja 5 7]
abbrev QoM:IL:=[ja 8 5,⟨some 9,.val (.bin .str .eql (.t 8) (.c (.str []))),none⟩]
abbrev QoN:IL:=[ji 10 0 1 6 1,⟨some 2,.val (.mov (.c (.int .u8 0))),none⟩,jj 0 3 6 3 10,jc 4 4]
abbrev QoO:IL:=[ja 11 5,⟨some 12,.val (.idx (.t 11) (.c (.int .i64 0))),none⟩,ji 13 0 1 6 1,zj 14 173 13 1,ja 2 12,jj 0 3 6 3 14,jc 4 0]
abbrev QIg:RC:=jQ QoK (jQ QoL (.seq (jQ QoM (.cond (.t 9) (jD QoN (.ret)) (.skip))) (jD QoO (.ret))))
abbrev QIh:List RR:=[.tmp 2,.cell 3 (some 6),.tmp 4]
theorem QIi:CT 130 15 QIg QIh:=ck Tryz.func130 Tryz.ntmps130 (by decide +kernel)
abbrev QoP:IL:=[jh 2 2 0,jy 4 4,jc 5 0]
abbrev QoQ:IL:=[ja 6 1,ym 7 6 0]
abbrev QoR:IL:=[jd 8 6 2,jf 6 4 8,jc 5 1]
abbrev QoS:IL:=[ja 9 1,jd 10 6 2,jl 11 42 10,yr 12 9 11]
abbrev QoT:IL:=[jd 13 6 2,jf 6 4 13,jc 5 4]
abbrev QoU:IL:=[jb 14 3 2,je 15 14,ym 16 15 1]
abbrev QoV:IL:=[jd 17 6 2,jf 6 4 17,jc 5 17]
abbrev QoW:IL:=[jb 18 1 2,je 19 18,ja 20 1,yk 21 19 20,jb 22 2 2,jf 1 22 21]
abbrev QoX:IL:=[jb 23 3 2,je 24 23,WR 25 24 1,jb 26 3 2,jf 1 26 25]
abbrev QoY:IL:=[jd 27 6 2,jf 6 4 27,jc 5 0]
abbrev QIj:RC:=jQ QoP (.seq (jQ QoQ (.cond (.t 7) (jQ QoR (.ret)) (.skip))) (.seq (jQ QoS (.cond (.t 12) (jQ QoT (.ret)) (.skip))) (.seq (jQ QoU (.cond (.t 16) (jQ QoV (.ret)) (.skip))) (jQ QoW (jQ QoX (jQ QoY (.ret)))))))
abbrev QIk:List RR:=[.cell 4 (some 6),.tmp 5]
theorem QIl:CT 176 28 QIj QIk:=ck Tryz.func176 Tryz.ntmps176 (by decide +kernel)
abbrev QoZ:IL:=[jh 1 1 0,yl 2 0,jy 3 3,jc 4 0]
abbrev Qo0:IL:=[jd 8 6 1,jl 9 73 8,ja 5 9]
abbrev Qo1:IL:=[ja 10 5,jp 11 0 10,ym 12 11 8]
abbrev Qo2:IL:=[ji 13 0 1 6 1,yl 2 0,jj 0 3 6 3 13,jc 4 4]
abbrev Qo3:IL:=[yl 6 0]
abbrev Qo4:IL:=[jc 7 7]
abbrev Qo5:IL:=[ja 14 7,zg 15 14 0]
abbrev Qo6:IL:=[ja 18 6,⟨some 19,.val (.bin .num .mul (.t 18) (.c (.int .u64 256))),none⟩,ja 20 5,ja 21 7,zw 22 20 21,zp 23 22,yk 24 19 23,ja 6 24]
abbrev Qo7:IL:=[ja 16 7,WR 17 16 1,ja 7 17]
abbrev Qo8:RC:=.seq (jQ Qo5 (jX 15 0)) (.seq (.block 1 (.reg Qo6)) (.reg Qo7))
abbrev Qo9:IL:=[ja 25 6,jd 26 6 1,zj 27 173 26 8,ja 2 25,jf 6 3 27,jc 4 0]
abbrev QIm:RC:=jQ QoZ (jQ Qo0 (.seq (jQ Qo1 (.cond (.t 12) (jD Qo2 (.ret)) (.skip))) (jQ Qo3 (.seq (jQ Qo4 (.block 0 (.loop Qo8))) (jQ Qo9 (.ret))))))
abbrev QIn:List RR:=[.tmp 2,.cell 3 (some 6),.tmp 4]
theorem QIo:CT 174 28 QIm QIn:=ck Tryz.func174 Tryz.ntmps174 (by decide +kernel)
abbrev Qpa:IL:=[jh 2 2 0,jh 3 3 1,jy 4 4]
abbrev Qpb:IL:=[jd 5 6 2,jl 6 121 5,yd 7 6,ja 8 7,jz 9 2 3 8,yb 10 9 8,jz 11 1 2 8,yb 12 11 8,⟨some 13,.val (.bin .num .lss (.t 10) (.t 12)),(some (8,false))⟩,ya 14 8 13,ja 15 14,jz 16 2 3 15,yb 17 16 15,jz 18 2 2 15,yb 19 18 15,M4 20 17 19 15,ya 21 15 20,ja 22 21,jz 23 4 3 22,yb 24 23 22,Hh 25 24 0 22,ya 26 22 25,ja 27 26,jz 28 4 3 27,yb 29 28 27,jz 30 4 2 27,yb 31 30 27,M4 32 29 31 27,ya 33 27 32]
abbrev Qpc:IL:=[jd 34 6 2,jf 6 4 34]
abbrev Qpd:IL:=[jb 35 2 3,je 36 35,jb 37 1 2,jf 1 37 36]
abbrev Qpe:IL:=[jb 38 4 3,je 39 38,jb 40 4 2,jf 1 40 39]
abbrev Qpf:IL:=[jd 41 6 2,jf 6 4 41]
abbrev QIp:RC:=jQ Qpa (.seq (jQ Qpb (.cond (.t 33) (jQ Qpc (.ret)) (.skip))) (jQ Qpd (jQ Qpe (jQ Qpf (.ret)))))
abbrev QIq:List RR:=[.cell 4 (some 6)]
theorem QIr:CT 177 42 QIp QIq:=ck Tryz.func177 Tryz.ntmps177 (by decide +kernel)
abbrev QBc:IL:=[jh 1 1 0,jc 2 0]
abbrev QBd:IL:=[jd 3 6 1,jl 4 73 3,jp 5 0 4,ja 2 5]
abbrev r42:RC:=jQ QBc (jQ QBd (.ret))
abbrev o42:List RR:=[.tmp 2]
theorem k42:CT 42 6 r42 o42:=ck Tryz.func42 Tryz.ntmps42 (by decide +kernel)
abbrev QBe:IL:=[jh 3 3 1,jy 4 4,jc 5 0]
abbrev QBf:IL:=[jb 6 0 3,je 7 6,ym 8 7 0,ja 9 8,jz 10 1 3 9,yb 11 10 9,Hh 12 11 0 9,ya 13 9 12,ja 14 13,jz 15 2 3 14,yb 16 15 14,Hh 17 16 0 14,ya 18 14 17,ja 19 18,jz 20 3 3 19,yb 21 20 19,Hh 22 21 0 19,ya 23 19 22]
abbrev QBg:IL:=[⟨some 24,.val (.build [.str [],.int .i64 0,.int .i64 0,.int .i64 0,.int .i64 0,.int .i64 0] []),none⟩,jf 6 4 24,jc 5 1]
abbrev QBh:IL:=[ja 25 0,jp 26 0 25,jb 27 0 3,je 28 27,yr 29 26 28]
abbrev QBi:IL:=[⟨some 30,.val (.build [.str [],.int .i64 0,.int .i64 0,.int .i64 0,.int .i64 0,.int .i64 0] []),none⟩,jf 6 4 30,jc 5 3]
abbrev QBj:IL:=[ja 31 0,ja 32 0,jp 33 0 32,jb 34 1 3,je 35 34,jb 36 2 3,je 37 36,jb 38 3 3,je 39 38,⟨some 40,.val (.build [.str [],.int .i64 0,.int .i64 0,.int .i64 0,.int .i64 0,.int .i64 0] [(0,1,(.t 31)),(2,1,(.t 33)),(3,1,(.t 35)),(4,1,(.t 37)),(5,1,(.t 39))]),none⟩,jf 6 4 40,jc 5 0]
abbrev r20:RC:=jQ QBe (.seq (jQ QBf (.cond (.t 23) (jQ QBg (.ret)) (.skip))) (.seq (jQ QBh (.cond (.t 29) (jQ QBi (.ret)) (.skip))) (jQ QBj (.ret))))
abbrev o20:List RR:=[.cell 4 (some 6),.tmp 5]
theorem k20:CT 20 41 r20 o20:=ck Tryz.func20 Tryz.ntmps20 (by decide +kernel)
abbrev Qph:IL:=[jh 1 1 0,jq 2]
abbrev Qpi:IL:=[jb 3 1 1,je 4 3,⟨some 5,.val (.bin .num .leq (.c (.int .i64 0)) (.t 4)),none⟩,ja 6 5,jo 7 1 1 6,jx 8 7 6,jo 9 2 1 6,jx 10 9 6,FX 11 8 10 6,jm 12 6 11,ja 13 12,jo 14 2 1 13,jx 15 14 13,jo 16 0 1 13,jx 17 16 13,yq 18 0 17 13,FX 19 15 18 13,jm 20 13 19,ja 2 20]
abbrev QIs:RC:=jQ Qph (jQ Qpi (.ret))
abbrev QIt:List RR:=[.tmp 2]
theorem QIu:CT 121 21 QIs QIt:=ck Tryz.func121 Tryz.ntmps121 (by decide +kernel)
abbrev QBk:IL:=[jh 2 2 0,jy 4 4,jc 5 0]
abbrev QBl:IL:=[ja 6 1,ym 7 6 0]
abbrev QBm:IL:=[jd 8 6 2,jf 6 4 8,jc 5 1]
abbrev QBn:IL:=[ja 9 1,jb 10 4 2,je 11 10,yr 12 9 11]
abbrev QBo:IL:=[jd 13 6 2,jf 6 4 13,jc 5 3]
abbrev QBp:IL:=[jb 14 4 2,je 15 14,ja 16 1,⟨some 17,.val (.bin .num .sub (.t 15) (.t 16)),none⟩,jb 18 4 2,jf 1 18 17]
abbrev QBq:IL:=[jd 19 6 2,jf 6 4 19,jc 5 0]
abbrev r21:RC:=jQ QBk (.seq (jQ QBl (.cond (.t 7) (jQ QBm (.ret)) (.skip))) (.seq (jQ QBn (.cond (.t 12) (jQ QBo (.ret)) (.skip))) (jQ QBp (jQ QBq (.ret)))))
abbrev o21:List RR:=[.cell 4 (some 6),.tmp 5]
theorem k21:CT 21 20 r21 o21:=ck Tryz.func21 Tryz.ntmps21 (by decide +kernel)
abbrev Qpj:IL:=[jh 2 2 0,ys 4,jy 5 5,jc 6 0]
abbrev Qpk:IL:=[jd 8 6 2,jl 9 73 8,ja 7 9]
abbrev Qpl:IL:=[ja 10 1,ym 11 10 0]
abbrev Qpm:IL:=[ji 12 0 2 6 2,ys 4,jj 0 5 6 5 12,jc 6 1]
abbrev Qpn:IL:=[ja 13 1,ja 14 7,jp 15 0 14,yr 16 13 15]
abbrev Qpo:IL:=[ji 17 0 2 6 2,ys 4,jj 0 5 6 5 17,jc 6 4]
abbrev Qpp:IL:=[ja 18 1,jb 19 5 2,je 20 19,yr 21 18 20]
abbrev Qpq:IL:=[ji 22 0 2 6 2,ys 4,jj 0 5 6 5 22,jc 6 3]
abbrev Qpr:IL:=[ja 23 7,ja 24 1,⟨some 25,.val (.slc none (.t 23) none (some (.t 24)) none),none⟩,ji 26 0 2 6 2,ja 27 1,ju 28 173 26 27,ja 4 25,jj 0 5 6 5 28,jc 6 0]
abbrev QIv:RC:=jQ Qpj (jQ Qpk (.seq (jQ Qpl (.cond (.t 11) (jD Qpm (.ret)) (.skip))) (.seq (jQ Qpn (.cond (.t 16) (jD Qpo (.ret)) (.skip))) (.seq (jQ Qpp (.cond (.t 21) (jD Qpq (.ret)) (.skip))) (jD Qpr (.ret))))))
abbrev QIw:List RR:=[.tmp 4,.cell 5 (some 6),.tmp 6]
theorem QIx:CT 178 29 QIv QIw:=ck Tryz.func178 Tryz.ntmps178 (by decide +kernel)
abbrev Qps:IL:=[jh 1 1 0,yl 2 0,jy 3 3,jc 4 0]
abbrev Qpt:IL:=[jd 9 6 1,jl 10 73 9,jl 11 172 10,ja 8 11,jg 12 8 0,jg 13 8 1,jg 14 8 2,ja 5 12,ja 6 13,ja 7 14]
abbrev Qpu:IL:=[ja 15 7,js 16 15 0]
abbrev Qpv:IL:=[ji 17 0 1 6 1,ja 18 7,yl 2 0,jj 0 3 6 3 17,ja 4 18]
abbrev Qpw:IL:=[ja 19 5,jd 20 6 1,ja 21 6,ju 22 173 20 21,ja 2 19,jf 6 3 22,jc 4 0]
abbrev QIy:RC:=jQ Qps (jQ Qpt (.seq (jQ Qpu (.cond (.t 16) (jD Qpv (.ret)) (.skip))) (jQ Qpw (.ret))))
abbrev QIz:List RR:=[.tmp 2,.cell 3 (some 6),.tmp 4]
theorem QIA:CT 122 23 QIy QIz:=ck Tryz.func122 Tryz.ntmps122 (by decide +kernel)
abbrev Qpx:IL:=[jh 2 2 0,jy 4 4]
abbrev Qpy:IL:=[jb 5 1 2,je 6 5,ja 7 1,yk 8 6 7,jb 9 1 2,jf 1 9 8]
abbrev Qpz:IL:=[jd 10 6 2,jf 6 4 10]
abbrev QIB:RC:=jQ Qpx (jQ Qpy (jQ Qpz (.ret)))
abbrev QIC:List RR:=[.cell 4 (some 6)]
theorem QID:CT 173 11 QIB QIC:=ck Tryz.func173 Tryz.ntmps173 (by decide +kernel)
abbrev QBr:IL:=[jh 1 1 0,ys 2]
abbrev QBs:IL:=[jd 3 6 1,jl 4 121 3,yd 5 4]
abbrev QBt:IL:=[ys 2]
abbrev QBu:IL:=[jb 6 0 1,je 7 6,jb 8 1 1,je 9 8,jb 10 2 1,je 11 10,NT 12 7 9 11,ja 2 12]
abbrev r73:RC:=jQ QBr (.seq (jQ QBs (.cond (.t 5) (jQ QBt (.ret)) (.skip))) (jQ QBu (.ret)))
abbrev o73:List RR:=[.tmp 2]
theorem k73:CT 73 13 r73 o73:=ck Tryz.func73 Tryz.ntmps73 (by decide +kernel)
abbrev QBv:IL:=[jh 2 2 0,jc 4 0,jq 5]
abbrev QBw:IL:=[jc 6 0]
abbrev QBx:IL:=[ja 7 6,jb 8 0 2,je 9 8,jp 10 1 9,jv 11 7 10]
abbrev QBy:IL:=[jb 14 0 2,je 15 14,ja 16 6,jr 17 3 15 16,jb 18 0 17,je 19 18,ja 20 1,⟨some 21,.val (.bin .str .eql (.t 19) (.t 20)),none⟩]
abbrev QBz:IL:=[ja 22 6,ja 4 22,yi 5]
abbrev QBA:IL:=[ja 12 6,jw 13 12 1,ja 6 13]
abbrev QBB:RC:=.seq (jQ QBx (jX 11 0)) (.seq (.block 1 (jQ QBy (.cond (.t 21) (jQ QBz (.ret)) (.skip)))) (.reg QBA))
abbrev QBC:IL:=[jc 4 0,jq 5]
abbrev r16:RC:=jQ QBv (.seq (jQ QBw (.block 0 (.loop QBB))) (jQ QBC (.ret)))
abbrev o16:List RR:=[.tmp 4,.tmp 5]
theorem k16:CT 16 23 r16 o16:=ck Tryz.func16 Tryz.ntmps16 (by decide +kernel)
abbrev QBD:IL:=[jh 1 1 0,jq 2]
abbrev QBE:IL:=[jb 3 3 1,je 4 3,jn 5 4 4,ja 6 5,jo 7 5 1 6,jx 8 7 6,NS 9 8 1 6,jk 10 9 6,jo 11 5 1 10,jx 12 11 10,yz 13 12 6 10,⟨some 14,.val (.pick (.t 10) (.t 13) (.c (.bool false))),(some (6,true))⟩,jk 15 14 6,jz 16 5 1 15,yb 17 16 15,yu 18 17 9 15,zf 19 15 18 6,jm 20 6 19,ja 2 20]
abbrev r79:RC:=jQ QBD (jQ QBE (.ret))
abbrev o79:List RR:=[.tmp 2]
theorem k79:CT 79 21 r79 o79:=ck Tryz.func79 Tryz.ntmps79 (by decide +kernel)
abbrev QpA:IL:=[jh 1 1 0,jc 2 0]
abbrev QpB:IL:=[jb 3 3 1,je 4 3,jn 5 4 5]
abbrev QpC:IL:=[jc 2 6]
abbrev QpD:IL:=[jd 6 8 1,jl 7 79 6]
abbrev QpE:IL:=[jc 2 5]
abbrev QpF:IL:=[jb 8 5 1,je 9 8]
abbrev QpG:IL:=[jn 11 9 1,ja 10 11]
abbrev QpH:IL:=[jn 12 9 4,ja 10 12]
abbrev QpI:IL:=[jn 13 9 5,ja 10 13]
abbrev QpJ:IL:=[jn 14 9 9,ja 10 14]
abbrev Lb:IL:=[jc 2 0]
abbrev Lc:IL:=[jn 16 9 2,ja 15 16]
abbrev Ld:IL:=[jn 17 9 3,ja 15 17]
abbrev Le:IL:=[jc 2 1]
abbrev Lf:IL:=[jn 19 9 6,ja 18 19]
abbrev Lg:IL:=[jc 2 2]
abbrev Lh:IL:=[jn 21 9 7,ja 20 21]
abbrev Li:IL:=[jn 22 9 8,ja 20 22]
abbrev Lj:IL:=[jc 2 3]
abbrev Lk:IL:=[jn 24 9 10,ja 23 24]
abbrev Ll:IL:=[jc 2 4]
abbrev Lm:IL:=[jc 2 (-1)]
abbrev QIE:RC:=jQ QpA (.seq (jQ QpB (.cond (.t 5) (jQ QpC (.ret)) (.skip))) (.seq (jQ QpD (.cond (.t 7) (jQ QpE (.ret)) (.skip))) (.seq (jQ QpF (.block 0 (.seq (jQ QpG (.cond (.t 10) (.skip) (jQ QpH (.cond (.t 10) (.skip) (jQ QpI (.cond (.t 10) (.skip) (.reg QpJ))))))) (.cond (.t 10) (jQ Lb (.ret)) (.seq (jQ Lc (.cond (.t 15) (.skip) (.reg Ld))) (.cond (.t 15) (jQ Le (.ret)) (jQ Lf (.cond (.t 18) (jQ Lg (.ret)) (.seq (jQ Lh (.cond (.t 20) (.skip) (.reg Li))) (.cond (.t 20) (jQ Lj (.ret)) (jQ Lk (.cond (.t 23) (jQ Ll (.ret)) (.skip))))))))))))) (jQ Lm (.ret)))))
abbrev QIF:List RR:=[.tmp 2]
theorem QIG:CT 131 25 QIE QIF:=ck Tryz.func131 Tryz.ntmps131 (by decide +kernel)
abbrev QBF:IL:=[jh 1 1 0,ze 2 2,jy 3 3,jc 4 0]
abbrev QBG:IL:=[jd 11 6 1,jl 12 74 11,ja 10 12,jg 13 10 0,jg 14 10 1,jg 15 10 2,jg 16 10 3,jy 7 7,ja 5 13,ja 6 14,jf 6 7 15,ja 8 16]
abbrev QBH:IL:=[ja 17 8,js 18 17 0]
abbrev QBI:IL:=[FY 19,ji 20 0 1 6 1,ja 21 8,jj 0 2 4 2 19,jj 0 3 6 3 20,ja 4 21]
abbrev QBJ:IL:=[jd 23 6 7,zj 24 21 23 1,ja 22 24,jg 25 22 0,jg 26 22 1,jf 6 7 25,ja 8 26]
abbrev QBK:IL:=[ja 27 8,js 28 27 0]
abbrev QBL:IL:=[FY 29,ji 30 0 1 6 1,ja 31 8,jj 0 2 4 2 29,jj 0 3 6 3 30,ja 4 31]
abbrev QBM:IL:=[ja 33 5,ja 34 6,M1 35 0 1 33 1 1 34,jd 36 6 7,ju 37 123 35 36,ja 32 37,jg 38 32 0,jg 39 32 1,jg 40 32 2,ze 9 9,jf 4 9 38,jf 6 7 39,ja 8 40]
abbrev QBN:IL:=[ja 41 8,js 42 41 0]
abbrev QBO:IL:=[FY 43,ji 44 0 1 6 1,ja 45 8,jj 0 2 4 2 43,jj 0 3 6 3 44,ja 4 45]
abbrev QpK:IL:=[ji 46 0 9 4 9,ji 47 0 7 6 7,jj 0 2 4 2 46,jj 0 3 6 3 47,jc 4 0]
abbrev r76:RC:=jQ QBF (jQ QBG (.seq (jQ QBH (.cond (.t 18) (jD QBI (.ret)) (.skip))) (jQ QBJ (.seq (jQ QBK (.cond (.t 28) (jD QBL (.ret)) (.skip))) (jQ QBM (.seq (jQ QBN (.cond (.t 42) (jD QBO (.ret)) (.skip))) (jD QpK (.ret))))))))
abbrev o76:List RR:=[.cell 2 (some 4),.cell 3 (some 6),.tmp 4]
theorem k76:CT 76 48 r76 o76:=ck Tryz.func76 Tryz.ntmps76 (by decide +kernel)
abbrev QBP:IL:=[jh 1 1 0,jc 2 0,jc 3 0,jy 4 4,jc 5 0]
abbrev QBQ:IL:=[jd 10 6 1,jl 11 122 10,ja 9 11,jg 12 9 0,jg 13 9 1,jg 14 9 2,jy 7 7,ja 6 12,jf 6 7 13,ja 8 14]
abbrev QBR:IL:=[ja 15 8,js 16 15 0]
abbrev QBS:IL:=[ji 17 0 1 6 1,ja 18 8,jc 2 0,jc 3 0,jj 0 4 6 4 17,ja 5 18]
abbrev QBT:IL:=[ja 19 6,FU 20 19 8,zn 21 20 7]
abbrev QBU:IL:=[ji 22 0 1 6 1,jc 2 0,jc 3 0,jj 0 4 6 4 22,jc 5 5]
abbrev QBV:IL:=[ja 23 6,NN 24 23 8,NO 25 24 1,ja 26 25,yc 27 6 26,⟨some 28,.val (.bin .num .quo (.t 27) (.c (.int .u64 8))),(some (26,false))⟩,⟨some 29,.val (.bin .num .gtr (.t 28) (.c (.int .u64 65535))),(some (26,false))⟩,ya 30 26 29]
abbrev QBW:IL:=[ji 31 0 1 6 1,jc 2 0,jc 3 0,jj 0 4 6 4 31,jc 5 6]
abbrev QBX:IL:=[ja 32 6,NN 33 32 8,yv 34 33,ja 35 6,FU 36 35 8,yv 37 36,ji 38 0 7 6 7,ja 2 34,ja 3 37,jj 0 4 6 4 38,jc 5 0]
abbrev r74:RC:=jQ QBP (jQ QBQ (.seq (jQ QBR (.cond (.t 16) (jD QBS (.ret)) (.skip))) (.seq (jQ QBT (.cond (.t 21) (jD QBU (.ret)) (.skip))) (.seq (jQ QBV (.cond (.t 30) (jD QBW (.ret)) (.skip))) (jD QBX (.ret))))))
abbrev o74:List RR:=[.tmp 2,.tmp 3,.cell 4 (some 6),.tmp 5]
theorem k74:CT 74 39 r74 o74:=ck Tryz.func74 Tryz.ntmps74 (by decide +kernel)
abbrev QpL:IL:=[jh 2 2 0,jh 3 3 1,ze 4 4,jy 5 5,jc 6 0]
abbrev QpM:IL:=[jb 13 1 2,je 14 13,jn 15 14 2]
abbrev QpN:IL:=[jd 17 6 3,jl 18 174 17,ja 16 18,jg 19 16 0,jg 20 16 1,jg 21 16 2,jy 8 8,ja 7 19,jf 6 8 20,ja 9 21]
abbrev QpO:IL:=[ja 22 7,jb 23 2 2,jf 1 23 22]
abbrev QpP:IL:=[ji 24 0 2 4 2,ji 25 0 8 6 8,ja 26 9,jj 0 4 4 4 24,jj 0 5 6 5 25,ja 6 26]
abbrev QpQ:IL:=[jd 28 6 3,jl 29 122 28,ja 27 29,jg 30 27 0,jg 31 27 1,jg 32 27 2,jy 11 11,ja 10 30,jf 6 11 31,ja 12 32]
abbrev QpR:IL:=[ja 33 12,js 34 33 0,ja 35 34,jz 36 1 2 35,yb 37 36 35,zs 38 175 37 35,ya 39 35 38]
abbrev QpS:IL:=[ja 40 10,jb 41 2 2,jf 1 41 40]
abbrev QpT:IL:=[ji 42 0 2 4 2,ji 43 0 11 6 11,ja 44 12,jj 0 4 4 4 42,jj 0 5 6 5 43,ja 6 44]
abbrev QpU:IL:=[ja 45 10,jd 46 6 11,jl 47 42 46,zp 48 47,yr 49 45 48]
abbrev Ln:IL:=[ji 50 0 2 4 2,ji 51 0 3 6 3,jj 0 4 4 4 50,jj 0 5 6 5 51,jc 6 4]
abbrev Lo:IL:=[jb 52 1 2,je 53 52,jn 54 53 3,ja 55 54,jk 56 10 55,⟨some 57,.val (.cvi .i64 (.t 56)),(some (55,true))⟩,jo 58 5 11 55,jx 59 58 55,⟨some 60,.val (.bin .num .gtr (.t 57) (.t 59)),(some (55,true))⟩,jm 61 55 60,ja 62 61,jz 63 1 2 62,yb 64 63 62,⟨some 65,.val (.bin .num .neq (.t 64) (.c (.int .i64 3))),(some (62,false))⟩,yc 66 65 62,jk 67 10 66,⟨some 68,.val (.bin .num .gtr (.t 67) (.c (.int .u64 65536))),(some (66,true))⟩,NI 69 66 68 62,ya 70 62 69]
abbrev Lp:IL:=[ji 71 0 2 4 2,ji 72 0 3 6 3,jj 0 4 4 4 71,jj 0 5 6 5 72,jc 6 3]
abbrev Lq:IL:=[jb 73 0 11,je 74 73,jb 75 1 11,je 76 75,jb 77 1 11,je 78 77,ja 79 10,yv 80 79,yk 81 78 80,NT 82 74 76 81,jb 83 3 2,jf 1 83 82]
abbrev Lr:IL:=[jb 84 1 11,je 85 84,ja 86 10,yv 87 86,yk 88 85 87,jb 89 1 11,jf 1 89 88]
abbrev Ls:IL:=[ji 90 0 2 4 2,ji 91 0 11 6 11,jj 0 4 4 4 90,jj 0 5 6 5 91,jc 6 0]
abbrev QIH:RC:=jQ QpL (.seq (jQ QpM (.cond (.t 15) (jQ QpN (jQ QpO (jD QpP (.ret)))) (.skip))) (jQ QpQ (.seq (jQ QpR (.cond (.t 39) (jQ QpS (jD QpT (.ret))) (.skip))) (.seq (jQ QpU (.cond (.t 49) (jD Ln (.ret)) (.skip))) (.seq (jQ Lo (.cond (.t 70) (jD Lp (.ret)) (.skip))) (jQ Lq (jQ Lr (jD Ls (.ret)))))))))
abbrev QII:List RR:=[.cell 4 (some 4),.cell 5 (some 6),.tmp 6]
theorem QIJ:CT 123 92 QIH QII:=ck Tryz.func123 Tryz.ntmps123 (by decide +kernel)
abbrev QpV:IL:=[jq 2]
abbrev QpW:IL:=[ja 3 0,jn 4 3 0,ja 5 4,yc 6 0 5,yu 7 6 1 5,ya 8 5 7,ja 9 8,yc 10 0 9,yu 11 10 2 9,ya 12 9 11,ja 2 12]
abbrev QIK:RC:=jQ QpV (jQ QpW (.ret))
abbrev QIL:List RR:=[.tmp 2]
theorem QIM:CT 175 13 QIK QIL:=ck Tryz.func175 Tryz.ntmps175 (by decide +kernel)
def QIN:IL:=[jh 4 4 0,jh 7 7 3,jt 8 8,jc 9 0]
def QIO:IL:=[jd 15 2 4,ja 16 1,NJ 17,ja 18 2,jd 19 4 7,zl 20 10 15 16 17 18 19,ja 14 20,jg 21 14 0,jg 22 14 1,jt 10 10,jf 7 10 21,ja 11 22]
def QIP:IL:=[ja 23 11,js 24 23 0]
def QIQ:IL:=[yh 25,ja 26 11,jf 7 8 25,ja 9 26]
def QIR:IL:=[jd 28 2 4,ja 29 1,ju 30 16 28 29,ja 27 30,jg 31 27 0,jg 32 27 1,ja 12 31,ja 13 32]
def QIS:IL:=[jd 33 2 4,ja 34 12,jd 35 7 10,yp 36 17 33 34 35]
def QIT:IL:=[yh 37,jf 7 8 37,jc 9 14]
def QIU:IL:=[jd 38 7 10,jf 7 8 38,jc 9 0]
def r7:RC:=jQ QIN (jQ QIO (.seq (jQ QIP (.cond (.t 24) (jQ QIQ (.ret)) (.skip))) (jQ QIR (.seq (jQ QIS (.cond (.t 36) (jQ QIT (.ret)) (.skip))) (jQ QIU (.ret))))))
def o7:List RR:=[.cell 8 (some 7),.tmp 9]
theorem k7:CT 7 39 r7 o7:=ck Tryz.func7 Tryz.ntmps7 (by decide +kernel)
abbrev QBY:IL:=[jh 2 2 0,jt 4 4,jq 5]
abbrev QBZ:IL:=[jc 6 0]
abbrev QB0:IL:=[ja 7 6,jb 8 5 2,je 9 8,jp 10 1 9,jv 11 7 10]
abbrev QB1:IL:=[jb 14 5 2,je 15 14,ja 16 6,jr 17 8 15 16,jb 18 0 17,je 19 18,ja 20 1,zh 21 19 20]
abbrev QB2:IL:=[jb 22 5 2,je 23 22,ja 24 6,jr 25 8 23 24,jb 26 1 25,jd 27 7 26,jf 7 4 27,yi 5]
abbrev QB3:IL:=[ja 12 6,jw 13 12 1,ja 6 13]
abbrev QB4:RC:=.seq (jQ QB0 (jX 11 0)) (.seq (.block 1 (jQ QB1 (.cond (.t 21) (jQ QB2 (.ret)) (.skip)))) (.reg QB3))
abbrev QB5:IL:=[yh 28,jf 7 4 28,jq 5]
abbrev r39:RC:=jQ QBY (.seq (jQ QBZ (.block 0 (.loop QB4))) (jQ QB5 (.ret)))
abbrev o39:List RR:=[.cell 4 (some 7),.tmp 5]
theorem k39:CT 39 29 r39 o39:=ck Tryz.func39 Tryz.ntmps39 (by decide +kernel)
abbrev QB6:IL:=[jh 5 5 0,jh 7 7 2,jh 9 9 4,jt 10 10,jc 11 0]
abbrev QB7:IL:=[jd 19 2 5,ja 20 1,ju 21 16 19 20,ja 18 21,jg 22 18 0,jg 23 18 1,ja 12 22,ja 13 23]
abbrev QB8:IL:=[ja 24 13,yd 25 24]
abbrev QB9:IL:=[yh 26,jf 7 10 26,jc 11 10]
abbrev QCa:IL:=[jb 27 0 7,je 28 27,js 29 28 10]
abbrev QCb:IL:=[yh 30,jf 7 10 30,jc 11 12]
abbrev QCc:IL:=[ja 32 3,jd 33 4 9,ju 34 20 32 33,ja 31 34,jg 35 31 0,jg 36 31 1,jy 14 14,jf 6 14 35,ja 15 36]
abbrev QCd:IL:=[ja 37 15,js 38 37 0]
abbrev QCe:IL:=[yh 39,ja 40 15,jf 7 10 39,ja 11 40]
abbrev QCf:IL:=[jb 41 3 14,je 42 41,ym 43 42 1]
abbrev QpX:IL:=[yh 44,jf 7 10 44,jc 11 17]
abbrev QpY:IL:=[jb 45 3 14,je 46 45,WR 47 46 1,jb 48 3 14,jf 1 48 47]
abbrev QpZ:IL:=[jd 50 6 14,zj 51 21 50 1,ja 49 51,jg 52 49 0,jg 53 49 1,jf 6 14 52,ja 15 53]
abbrev Qp0:IL:=[ja 54 15,js 55 54 0]
abbrev Qp1:IL:=[yh 56,ja 57 15,jf 7 10 56,ja 11 57]
abbrev Qp2:IL:=[jd 59 2 5,ja 60 12,jd 61 7 7,jd 62 6 14,⟨some 63,.callR (.f 22) [(.t 59),(.t 60),(.t 61),(.t 62)],none⟩,ja 58 63,jg 64 58 0,jg 65 58 1,jg 66 58 2,jt 16 16,jy 17 17,jf 7 16 64,jf 6 17 65,ja 15 66]
abbrev Qp3:IL:=[ja 67 15,js 68 67 0]
abbrev Qp4:IL:=[yh 69,ja 70 15,jf 7 10 69,ja 11 70]
abbrev Qp5:IL:=[jd 71 2 5,ja 72 12,jd 73 7 16,yp 74 23 71 72 73,jf 7 10 74,jc 11 0]
abbrev r10:RC:=jQ QB6 (jQ QB7 (.seq (jQ QB8 (.cond (.t 25) (jQ QB9 (.ret)) (.skip))) (.seq (jQ QCa (.cond (.t 29) (jQ QCb (.ret)) (.skip))) (jQ QCc (.seq (jQ QCd (.cond (.t 38) (jQ QCe (.ret)) (.skip))) (.seq (jQ QCf (.cond (.t 43) (jQ QpX (.ret)) (.skip))) (jQ QpY (jQ QpZ (.seq (jQ Qp0 (.cond (.t 55) (jQ Qp1 (.ret)) (.skip))) (jQ Qp2 (.seq (jQ Qp3 (.cond (.t 68) (jQ Qp4 (.ret)) (.skip))) (jQ Qp5 (.ret)))))))))))))
abbrev o10:List RR:=[.cell 10 (some 7),.tmp 11]
theorem Pk:CT 10 75 r10 o10:=ck Tryz.func10 Tryz.ntmps10 (by decide +kernel)
abbrev Qp6:IL:=[jh 3 3 0,jh 4 4 1,jh 5 5 2,jt 6 6,jc 7 0]
abbrev Qp7:IL:=[jb 9 5 4,je 10 9,jl 11 118 10,yd 12 11]
abbrev Qp8:IL:=[yh 13,jf 7 6 13,jc 7 12]
abbrev Qp9:IL:=[jb 14 1 5,yg 15 0 5 14,ji 16 0 4 8 4,jl 17 81 16,yx 18 15 17]
abbrev Qqa:IL:=[yh 19,jf 7 6 19,jc 7 13]
abbrev Qqb:IL:=[jb 20 5 4,je 21 20,M2 22 0 1 21,jt 8 8,jf 7 8 22]
abbrev Qqc:IL:=[jb 23 1 5,je 24 23]
abbrev Qqd:IL:=[jn 29 24 3,ja 28 29]
abbrev Qqe:IL:=[jb 30 5 4,je 31 30,jn 32 31 7,ja 33 32,jo 34 3 5 33,jx 35 34 33,za 36 115 35 33,zt 37 36 33,jm 38 33 37]
abbrev Lt:IL:=[yh 39,jf 7 6 39,jc 7 7]
abbrev Lu:IL:=[jb 40 3 5,je 41 40,jb 42 2 8,jf 1 42 41]
abbrev Lv:IL:=[jd 43 7 8,jf 7 6 43,jc 7 0]
abbrev Lw:IL:=[jn 45 24 1,ja 44 45]
abbrev Lx:IL:=[jb 46 2 5,je 47 46,jl 48 179 47,zp 49 48,jb 50 1 8,jf 1 50 49]
abbrev Qqf:IL:=[jb 25 2 5,je 26 25,jb 27 1 8,jf 1 27 26]
abbrev Ly:IL:=[jb 51 5 4,je 52 51,jd 53 7 8,ju 54 169 52 53,yd 55 54]
abbrev Lz:IL:=[yh 56,jf 7 6 56,jc 7 6]
abbrev LA:IL:=[jb 57 5 4,je 58 57,jn 59 58 9,ja 60 59,yy 61 2 3 60,jo 62 6 4 60,jx 63 62 60,jo 64 1 8 60,jx 65 64 60,⟨some 66,.call (.f 180) [(.t 61),(.t 63),(.t 65)],(some (60,true))⟩,zt 67 66 60,jm 68 60 67]
abbrev LB:IL:=[yh 69,jf 7 6 69,jc 7 16]
abbrev LC:IL:=[jd 70 7 8,jl 71 86 70,jf 7 6 71,jc 7 0]
abbrev QIV:RC:=jQ Qp6 (.seq (jQ Qp7 (.cond (.t 12) (jQ Qp8 (.ret)) (.skip))) (.seq (jD Qp9 (.cond (.t 18) (jQ Qqa (.ret)) (.skip))) (jQ Qqb (.seq (jQ Qqc (.block 0 (jQ Qqd (.cond (.t 28) (.seq (jQ Qqe (.cond (.t 38) (jQ Lt (.ret)) (.skip))) (jQ Lu (jQ Lv (.ret)))) (jQ Lw (.cond (.t 44) (.reg Lx) (.reg Qqf))))))) (.seq (jQ Ly (.cond (.t 55) (jQ Lz (.ret)) (.skip))) (.seq (jQ LA (.cond (.t 68) (jQ LB (.ret)) (.skip))) (jQ LC (.ret))))))))
abbrev QIW:List RR:=[.cell 6 (some 7),.tmp 7]
theorem QIX:CT 136 72 QIV QIW:=ck Tryz.func136 Tryz.ntmps136 (by decide +kernel)
abbrev QCg:IL:=[jh 1 1 0,jc 2 0]
abbrev QCh:IL:=[jd 3 8 1,jl 4 132 3,jl 5 131 4,ja 2 5]
abbrev r81:RC:=jQ QCg (jQ QCh (.ret))
abbrev o81:List RR:=[.tmp 2]
theorem k81:CT 81 6 r81 o81:=ck Tryz.func81 Tryz.ntmps81 (by decide +kernel)
abbrev QCi:IL:=[jh 2 2 0,jh 3 3 1,jt 4 4]
abbrev QCj:IL:=[zx 5 5 4,⟨some 6,.val (.faddv 6 (.t 2)),none⟩,yg 7 0 2 6,yj 8 4 40 86 5 7,ji 9 0 3 4 3,⟨some 10,.bsl 4 1 [.int .i64 0,.int .i64 0,.int .u64 0,.str []] [(0,4,(.t 9))],none⟩,yj 11 4 40 86 8 10,⟨some 12,.val (.faddv 6 (.t 2)),none⟩,jj 0 2 1 12 11]
abbrev QCk:IL:=[jd 13 7 2,jf 7 4 13]
abbrev r77:RC:=jQ QCi (jD QCj (jQ QCk (.ret)))
abbrev o77:List RR:=[.cell 4 (some 7)]
theorem k77:CT 77 14 r77 o77:=ck Tryz.func77 Tryz.ntmps77 (by decide +kernel)
abbrev Qqg:IL:=[jh 2 2 0,jh 3 3 1,jy 4 4]
abbrev Qqh:IL:=[jb 5 2 3,je 6 5,jb 7 1 2,jf 1 7 6]
abbrev Qqi:IL:=[jb 8 4 3,je 9 8,jb 10 4 2,jf 1 10 9]
abbrev Qqj:IL:=[jd 11 6 2,jf 6 4 11]
abbrev QIY:RC:=jQ Qqg (jQ Qqh (jQ Qqi (jQ Qqj (.ret))))
abbrev QIZ:List RR:=[.cell 4 (some 6)]
theorem QI0:CT 129 12 QIY QIZ:=ck Tryz.func129 Tryz.ntmps129 (by decide +kernel)
abbrev Qqk:IL:=[jh 3 3 1,ze 4 4,jy 5 5,jc 6 0]
abbrev Qql:IL:=[ja 17 0]
abbrev Qqm:IL:=[jn 19 17 2,ja 18 19]
abbrev Qqn:IL:=[jd 21 6 3,jl 22 174 21,ja 20 22,jg 23 20 0,jg 24 20 1,jg 25 20 2,jy 8 8,ja 7 23,jf 6 8 24,ja 9 25]
abbrev Qqo:IL:=[ja 26 0,ja 27 7,M1 28 1 1 26 2 1 27,ji 29 0 8 6 8,ja 30 9,jj 0 4 4 4 28,jj 0 5 6 5 29,ja 6 30]
abbrev Qqp:IL:=[jn 32 17 3,ja 31 32]
abbrev Qqq:IL:=[jd 34 6 3,jl 35 124 34,ja 33 35,jg 36 33 0,jg 37 33 1,jg 38 33 2,jy 11 11,ja 10 36,jf 6 11 37,ja 12 38]
abbrev Qqr:IL:=[ja 39 12,js 40 39 0]
abbrev Qqs:IL:=[FY 41,ji 42 0 3 6 3,ja 43 12,jj 0 4 4 4 41,jj 0 5 6 5 42,ja 6 43]
abbrev Qqt:IL:=[jd 45 6 11,ja 46 10,ju 47 178 45 46,ja 44 47,jg 48 44 0,jg 49 44 1,jg 50 44 2,ja 13 48,jf 6 11 49,ja 12 50]
abbrev LD:IL:=[ja 51 0,ja 52 13,M1 53 1 1 51 3 1 52,ji 54 0 11 6 11,ja 55 12,jj 0 4 4 4 53,jj 0 5 6 5 54,ja 6 55]
abbrev LE:IL:=[jd 57 6 3,jl 58 122 57,ja 56 58,jg 59 56 0,jg 60 56 1,jg 61 56 2,jy 15 15,ja 14 59,jf 6 15 60,ja 16 61]
abbrev LF:IL:=[ja 62 0,ja 63 14,M1 64 1 1 62 2 1 63,ji 65 0 15 6 15,ja 66 16,jj 0 4 4 4 64,jj 0 5 6 5 65,ja 6 66]
abbrev QI1:RC:=jQ Qqk (.seq (jQ Qql (.block 0 (jQ Qqm (.cond (.t 18) (jQ Qqn (jD Qqo (.ret))) (jQ Qqp (.cond (.t 31) (jQ Qqq (.seq (jQ Qqr (.cond (.t 40) (jD Qqs (.ret)) (.skip))) (jQ Qqt (jD LD (.ret))))) (.skip))))))) (jQ LE (jD LF (.ret))))
abbrev QI2:List RR:=[.cell 4 (some 4),.cell 5 (some 6),.tmp 6]
theorem RI:CT 135 67 QI1 QI2:=ck Tryz.func135 Tryz.ntmps135 (by decide +kernel)
abbrev Qqu:IL:=[jh 1 1 0,jt 2 2]
abbrev Qqv:IL:=[jb 3 5 1,je 4 3,M2 5 0 1 4,jf 7 2 5]
abbrev QI3:RC:=jQ Qqu (jQ Qqv (.ret))
abbrev QI4:List RR:=[.cell 2 (some 7)]
theorem QI5:CT 126 6 QI3 QI4:=ck Tryz.func126 Tryz.ntmps126 (by decide +kernel)
abbrev QCl:IL:=[jh 5 5 0,jh 6 6 1,jh 7 7 2,jh 8 8 3,jh 9 9 4,jt 10 10,jy 11 11,jc 12 0]
abbrev QCm:IL:=[jd 28 6 9,jl 29 124 28,ja 27 29,jg 30 27 0,jg 31 27 1,jg 32 27 2,jy 14 14,ja 13 30,jf 6 14 31,ja 15 32]
abbrev QCn:IL:=[ja 33 15,js 34 33 0]
abbrev QCo:IL:=[ji 35 0 7 7 7,ji 36 0 9 6 9,ja 37 15,jj 0 10 7 10 35,jj 0 11 6 11 36,ja 12 37]
abbrev QCp:IL:=[jd 39 7 7,jb 40 0 8,je 41 40,ju 42 39 39 41,ja 38 42,jg 43 38 0,jg 44 38 1,jt 16 16,jf 7 16 43,ja 17 44]
abbrev QCq:IL:=[jc 18 3]
abbrev QCr:IL:=[ja 45 17]
abbrev QCs:IL:=[jc 18 2]
abbrev QCt:IL:=[jd 47 6 14,ja 48 13,ju 49 125 47 48,ja 50 18,ju 51 21 49 50,ja 46 51,jg 52 46 0,jg 53 46 1,jy 19 19,jf 6 19 52,ja 15 53]
abbrev QCu:IL:=[ja 54 15,js 55 54 0]
abbrev Qqw:IL:=[ji 56 0 7 7 7,ji 57 0 9 6 9,ja 58 15,jj 0 10 7 10 56,jj 0 11 6 11 57,ja 12 58]
abbrev Qqx:IL:=[jb 59 4 8,yg 60 0 8 59,M2 61 0 1 60,ji 62 0 8 8 8,jl 63 126 62,⟨some 64,.val (.build [.int .i64 0,.int .u64 0,.str [],.nils,.nils,.nils,.nils,.int .i64 0,.int .u64 0,.str [],.nils,.nils,.nils,.nils] [(0,7,(.t 61)),(7,7,(.t 63))]),none⟩,MY 20 20,jj 0 20 14 20 64]
abbrev Qqy:IL:=[⟨some 65,.bslv 65 1 3 [.bool false] [(0,1,(.c (.bool false))),(1,1,(.c (.bool false))),(2,1,(.c (.bool false)))],none⟩,ja 21 65]
abbrev Qqz:IL:=[jd 66 6 19,jl 67 42 66,zi 68 67 0]
abbrev QqA:IL:=[jd 70 6 19,jl 71 74 70,ja 69 71,jg 72 69 0,jg 73 69 1,jg 74 69 2,jg 75 69 3,jy 24 24,ja 22 72,ja 23 73,jf 6 24 74,ja 25 75]
abbrev QqB:IL:=[ja 77 25,js 78 77 0,ja 76 78]
abbrev QqC:IL:=[ji 79 0 7 7 7,ji 80 0 9 6 9,ja 81 25,jj 0 10 7 10 79,jj 0 11 6 11 80,ja 12 81]
abbrev QqD:IL:=[ja 83 22,js 84 83 1,ja 85 84,jk 86 22 85,M3 87 86 2 85,jm 88 85 87,ja 82 88]
abbrev QqE:IL:=[ji 89 0 7 7 7,ji 90 0 9 6 9,jj 0 10 7 10 89,jj 0 11 6 11 90,jc 12 18]
abbrev QqF:IL:=[ja 92 21,ja 93 22,jr 94 1 92 93,je 95 94,ja 91 95]
abbrev QqG:IL:=[ji 96 0 7 7 7,ji 97 0 9 6 9,jj 0 10 7 10 96,jj 0 11 6 11 97,jc 12 9]
abbrev QqH:IL:=[ja 98 21,ja 99 22,jr 100 1 98 99,⟨none,.store 1 (.t 100) (.c (.bool true)),none⟩]
abbrev QqI:IL:=[jd 102 2 5,jd 103 8 8,jd 104 14 20,ja 105 22,ja 106 23,jd 107 6 24,⟨some 108,.callR (.f 127) [(.t 102),(.t 103),(.t 104),(.t 105),(.t 106),(.t 107)],none⟩,ja 101 108,jg 109 101 0,jg 110 101 1,jg 111 101 2,jf 14 20 109,jf 6 19 110,ja 25 111]
abbrev QqJ:IL:=[ja 112 25,js 113 112 0]
abbrev QqK:IL:=[ji 114 0 7 7 7,ji 115 0 9 6 9,ja 116 25,jj 0 10 7 10 114,jj 0 11 6 11 115,ja 12 116]
abbrev Tx:RC:=.gho (.drop 24) (.seq (jQ Qqz (jX 68 0)) (.block 1 (jQ QqA (.seq (.block 2 (jQ QqB (.cond (.t 76) (jD QqC (.ret)) (jQ QqD (.cond (.t 82) (jD QqE (.ret)) (jQ QqF (.cond (.t 91) (jD QqG (.ret)) (.skip)))))))) (jQ QqH (jQ QqI (jQ QqJ (.cond (.t 113) (jD QqK (.ret)) (.skip)))))))))
abbrev QqL:IL:=[zx 117 117 14,⟨some 118,.val (.faddv 4 (.t 16)),none⟩,yg 119 0 16 118,yj 120 14 256 113 117 119,ji 121 0 20 14 20,M0 122 14 1 0 14 121,yj 123 14 256 113 120 122,ja 26 123]
abbrev QqM:IL:=[ji 124 0 6 3 6,ji 125 0 7 7 7,ji 126 0 8 8 8,ja 127 26,jl 128 85 127,⟨some 129,.val (.build [.int .i64 0,.int .u64 0,.str [],.nils,.nils,.nils,.nils] [(0,1,(.c (.int .i64 12))),(4,1,(.t 128))]),none⟩,zb 130 128 124 125 126 129,ji 131 0 14 6 14,ji 132 0 19 6 19,ju 133 129 131 132,jj 0 10 7 10 130,jj 0 11 6 11 133,jc 12 0]
abbrev r78:RC:=jQ QCl (jQ QCm (.seq (jQ QCn (.cond (.t 34) (jD QCo (.ret)) (.skip))) (jQ QCp (jQ QCq (.seq (jQ QCr (.cond (.t 45) (.reg QCs) (.skip))) (jQ QCt (.seq (jQ QCu (.cond (.t 55) (jD Qqw (.ret)) (.skip))) (jD Qqx (jQ Qqy (.seq (.block 0 (.loop Tx)) (jD QqL (.gho (.pub 26 117) (jD QqM (.ret))))))))))))))
abbrev o78:List RR:=[.cell 10 (some 7),.cell 11 (some 6),.tmp 12]
theorem k78:CT 78 134 r78 o78:=ck Tryz.func78 Tryz.ntmps78 (by decide +kernel)
abbrev QqN:IL:=[jh 6 6 0,jh 7 7 1,jh 8 8 2,jh 11 11 5,MY 12 12,jy 13 13,jc 14 0]
abbrev QqO:IL:=[jd 23 8 7,jl 24 132 23,zd 15 15,jf 8 15 24]
abbrev QqP:IL:=[ja 25 3,jn 26 25 1]
abbrev QqQ:IL:=[jb 27 4 7,je 28 27,⟨some 29,.val (.build [.int .i64 0,.str [],.str [],.int .i64 0,.int .i64 0,.int .i64 0,.int .i64 0,.int .i64 0] [(3,1,(.c (.int .i64 2))),(5,1,(.t 28)),(6,1,(.c (.int .i64 (-1)))),(7,1,(.c (.int .i64 (-1))))]),none⟩,jf 8 15 29]
abbrev QqR:IL:=[ja 30 4,jd 31 8 15,jl 32 81 31,yx 33 30 32]
abbrev QqS:IL:=[ji 34 0 8 14 8,ji 35 0 11 6 11,jj 0 12 14 12 34,jj 0 13 6 13 35,jc 14 13]
abbrev QqT:IL:=[ja 36 3,jn 37 36 2,ja 38 37,jo 39 5 7 38,jx 40 39 38,yo 41 40 10 38,jm 42 38 41]
abbrev QqU:IL:=[ji 44 0 6 2 6,ji 45 0 7 8 7,ji 46 0 7 8 7,jl 47 126 46,ji 48 0 11 6 11,⟨some 49,.call (.f 133) [(.t 44),(.t 45),(.t 47),(.c (.int .i64 0)),(.t 48)],none⟩,ja 43 49,jg 50 43 0,jg 51 43 1,jg 52 43 2,jt 16 16,jy 17 17,jj 0 16 7 16 50,jj 0 17 6 17 51,ja 18 52]
abbrev QqV:IL:=[jd 53 7 16,jb 54 7 8,jf 7 54 53]
abbrev QqW:IL:=[ji 55 0 8 14 8,ji 56 0 17 6 17,ja 57 18,jj 0 12 14 12 55,jj 0 13 6 13 56,ja 14 57]
abbrev LG:IL:=[ja 59 4,jd 60 6 11,ju 61 135 59 60,ja 58 61,jg 62 58 0,jg 63 58 1,jg 64 58 2,ze 19 19,jy 20 20,jf 4 19 62,jf 6 20 63,ja 21 64]
abbrev LH:IL:=[ja 65 21,js 66 65 0]
abbrev LI:IL:=[ji 67 0 8 14 8,ji 68 0 11 6 11,ja 69 21,jj 0 12 14 12 67,jj 0 13 6 13 68,ja 14 69]
abbrev LJ:IL:=[jd 71 2 6,jd 72 8 15,jd 73 4 19,yp 74 136 71 72 73,ja 70 74,jg 75 70 0,jg 76 70 1,jt 22 22,jf 7 22 75,ja 21 76]
abbrev LK:IL:=[ja 77 3,jn 78 77 1]
abbrev LL:IL:=[jd 79 7 22,jb 80 0 8,jf 7 80 79]
abbrev LM:IL:=[jd 81 7 22,jb 82 7 8,jf 7 82 81]
abbrev LN:IL:=[ji 83 0 8 14 8,ji 84 0 20 6 20,ja 85 21,jj 0 12 14 12 83,jj 0 13 6 13 84,ja 14 85]
abbrev QI6:RC:=jQ QqN (jQ QqO (.seq (jQ QqP (.cond (.t 26) (.reg QqQ) (.skip))) (.seq (jQ QqR (.cond (.t 33) (jD QqS (.ret)) (.skip))) (.seq (jQ QqT (.cond (.t 42) (jD QqU (jQ QqV (jD QqW (.ret)))) (.skip))) (jQ LG (.seq (jQ LH (.cond (.t 66) (jD LI (.ret)) (.skip))) (jQ LJ (.seq (jQ LK (.cond (.t 78) (.reg LL) (.reg LM))) (jD LN (.ret))))))))))
abbrev QI7:List RR:=[.cell 12 (some 14),.cell 13 (some 6),.tmp 14]
theorem HA:CT 127 86 QI6 QI7:=ck Tryz.func127 Tryz.ntmps127 (by decide +kernel)
abbrev QCv:IL:=[jh 4 4 0,jh 5 5 1,jh 6 6 2,jh 7 7 3,jt 8 8,jy 9 9,jc 10 0]
abbrev QCw:IL:=[jd 21 6 7,jl 22 74 21,ja 20 22,jg 23 20 0,jg 24 20 1,jg 25 20 2,jg 26 20 3,jy 13 13,ja 11 23,ja 12 24,jf 6 13 25,ja 14 26]
abbrev QCx:IL:=[ja 27 14,js 28 27 0]
abbrev QCy:IL:=[ji 29 0 6 7 6,ji 30 0 7 6 7,ja 31 14,jj 0 8 7 8 29,jj 0 9 6 9 30,ja 10 31]
abbrev QCz:IL:=[jd 33 3 5,ja 34 11,ju 35 75 33 34,ja 32 35,jg 36 32 0,jg 37 32 1,zd 15 15,jf 8 15 36,ja 16 37]
abbrev QCA:IL:=[ja 39 16,yd 40 39,ja 38 40]
abbrev QCB:IL:=[jd 42 6 7,jl 43 76 42,ja 41 43,jg 44 41 0,jg 45 41 1,jg 46 41 2,ze 17 17,jy 18 18,jf 4 17 44,jf 6 18 45,ja 19 46]
abbrev QCC:IL:=[ja 47 19,js 48 47 0]
abbrev QCD:IL:=[ji 49 0 6 7 6,ji 50 0 7 6 7,ja 51 19,jj 0 8 7 8 49,jj 0 9 6 9 50,ja 10 51]
abbrev QCE:IL:=[ji 52 0 6 7 6,ji 53 0 17 4 17,ju 54 77 52 53,ji 55 0 18 6 18,jj 0 8 7 8 54,jj 0 9 6 9 55,jc 10 0]
abbrev QqX:IL:=[jb 57 3 15,je 58 57,jn 59 58 5,ja 60 59,jk 61 12 60,yo 62 61 6 60,jm 63 60 62,ja 56 63]
abbrev QqY:IL:=[jd 64 2 4,jd 65 3 5,jd 66 7 6,jd 67 8 15,jd 68 6 13,zl 69 78 64 65 66 67 68,jg 70 69 0,jg 71 69 1,jg 72 69 2,jf 7 8 70,jf 6 9 71,ja 10 72]
abbrev QqZ:IL:=[jd 74 8 15,jl 75 79 74,ja 76 75,jk 77 12 76,yo 78 77 5 76,jm 79 76 78,ja 73 79]
abbrev Qq0:IL:=[jd 80 2 4,jd 81 3 5,jd 82 7 6,jd 83 8 15,jd 84 6 13,zl 85 80 80 81 82 83 84,jg 86 85 0,jg 87 85 1,jg 88 85 2,jf 7 8 86,jf 6 9 87,ja 10 88]
abbrev Qq1:IL:=[jb 90 3 15,je 91 90,jn 92 91 5,ja 93 92,yc 94 12 93,NK 95 8 15 93,zs 96 81 95 93,NR 97 94 96 93,ya 98 93 97,ja 89 98]
abbrev Qq2:IL:=[ji 99 0 6 7 6,ji 100 0 7 6 7,jj 0 8 7 8 99,jj 0 9 6 9 100,jc 10 13]
abbrev Qq3:IL:=[jb 102 5 15,je 103 102,jn 104 103 10,ja 101 104]
abbrev Qq4:IL:=[jd 105 2 4,jd 106 3 5,jd 107 7 6,jd 108 8 15,jd 109 6 13,zl 110 82 105 106 107 108 109,jg 111 110 0,jg 112 110 1,jg 113 110 2,jf 7 8 111,jf 6 9 112,ja 10 113]
abbrev Qq5:IL:=[jd 114 2 4,jd 115 3 5,jd 116 7 6,jd 117 8 15,jd 118 6 13,zl 119 83 114 115 116 117 118,jg 120 119 0,jg 121 119 1,jg 122 119 2,jf 7 8 120,jf 6 9 121,ja 10 122]
abbrev r43:RC:=jQ QCv (jQ QCw (.seq (jQ QCx (.cond (.t 28) (jD QCy (.ret)) (.skip))) (jQ QCz (.seq (.block 0 (jQ QCA (.cond (.t 38) (jQ QCB (.seq (jQ QCC (.cond (.t 48) (jD QCD (.ret)) (.skip))) (jD QCE (.ret)))) (jQ QqX (.cond (.t 56) (jQ QqY (.ret)) (jQ QqZ (.cond (.t 73) (jQ Qq0 (.ret)) (jQ Qq1 (.cond (.t 89) (jD Qq2 (.ret)) (jQ Qq3 (.cond (.t 101) (jQ Qq4 (.ret)) (.skip)))))))))))) (jQ Qq5 (.ret))))))
abbrev o43:List RR:=[.cell 8 (some 7),.cell 9 (some 6),.tmp 10]
theorem k43:CT 43 123 r43 o43:=ck Tryz.func43 Tryz.ntmps43 (by decide +kernel)
abbrev Qq7:IL:=[jh 5 5 0,jh 6 6 1,jh 7 7 2,jh 9 9 4,jt 10 10,jy 11 11,jc 12 0]
abbrev Qq8:IL:=[jd 19 6 9,jl 20 124 19,ja 18 20,jg 21 18 0,jg 22 18 1,jg 23 18 2,jy 14 14,ja 13 21,jf 6 14 22,ja 15 23]
abbrev Qq9:IL:=[ja 24 15,js 25 24 0]
abbrev Qra:IL:=[ji 26 0 7 7 7,ji 27 0 9 6 9,ja 28 15,jj 0 10 7 10 26,jj 0 11 6 11 27,ja 12 28]
abbrev Qrb:IL:=[jd 30 6 14,ja 31 13,ju 32 176 30 31,ja 29 32,jg 33 29 0,jg 34 29 1,jy 16 16,jf 6 16 33,ja 15 34]
abbrev Qrc:IL:=[ja 35 15,js 36 35 0]
abbrev Qrd:IL:=[ji 37 0 7 7 7,ji 38 0 9 6 9,ja 39 15,jj 0 10 7 10 37,jj 0 11 6 11 38,ja 12 39]
abbrev Qre:IL:=[jd 41 6 16,ja 42 3,ju 43 21 41 42,ja 40 43,jg 44 40 0,jg 45 40 1,jf 6 16 44,ja 15 45]
abbrev Qrf:IL:=[ja 46 15,js 47 46 0]
abbrev Qrg:IL:=[ji 48 0 7 7 7,ji 49 0 9 6 9,ja 50 15,jj 0 10 7 10 48,jj 0 11 6 11 49,ja 12 50]
abbrev LO:IL:=[jd 52 2 5,jb 53 6 6,je 54 53,jd 55 7 7,jd 56 6 16,⟨some 57,.callR (.f 22) [(.t 52),(.t 54),(.t 55),(.t 56)],none⟩,ja 51 57,jg 58 51 0,jg 59 51 1,jg 60 51 2,jt 17 17,jf 7 17 58,jf 6 16 59,ja 15 60]
abbrev LP:IL:=[ja 61 15,js 62 61 0]
abbrev LQ:IL:=[ji 63 0 7 7 7,ji 64 0 9 6 9,ja 65 15,jj 0 10 7 10 63,jj 0 11 6 11 64,ja 12 65]
abbrev LR:IL:=[ji 66 0 17 7 17,ji 67 0 14 6 14,ji 68 0 16 6 16,ju 69 177 67 68,jj 0 10 7 10 66,jj 0 11 6 11 69,jc 12 0]
abbrev QI8:RC:=jQ Qq7 (jQ Qq8 (.seq (jQ Qq9 (.cond (.t 25) (jD Qra (.ret)) (.skip))) (jQ Qrb (.seq (jQ Qrc (.cond (.t 36) (jD Qrd (.ret)) (.skip))) (jQ Qre (.seq (jQ Qrf (.cond (.t 47) (jD Qrg (.ret)) (.skip))) (jQ LO (.seq (jQ LP (.cond (.t 62) (jD LQ (.ret)) (.skip))) (jD LR (.ret))))))))))
abbrev QI9:List RR:=[.cell 10 (some 7),.cell 11 (some 6),.tmp 12]
theorem Qrh:CT 133 70 QI8 QI9:=ck Tryz.func133 Tryz.ntmps133 (by decide +kernel)
abbrev Qri:IL:=[jh 1 1 0,jc 2 0,jy 3 3,jc 4 0]
abbrev Qrj:IL:=[jd 9 6 1,jl 10 122 9,ja 8 10,jg 11 8 0,jg 12 8 1,jg 13 8 2,jy 6 6,ja 5 11,jf 6 6 12,ja 7 13]
abbrev Qrk:IL:=[ja 14 7,js 15 14 0]
abbrev Qrl:IL:=[ji 16 0 1 6 1,ja 17 7,jc 2 0,jj 0 3 6 3 16,ja 4 17]
abbrev Qrm:IL:=[ja 18 5,jd 19 6 6,jl 20 42 19,zp 21 20,yr 22 18 21]
abbrev Qrn:IL:=[ji 23 0 1 6 1,jc 2 0,jj 0 3 6 3 23,jc 4 4]
abbrev Qro:IL:=[ja 24 5,yv 25 24,ji 26 0 6 6 6,ja 2 25,jj 0 3 6 3 26,jc 4 0]
abbrev QJa:RC:=jQ Qri (jQ Qrj (.seq (jQ Qrk (.cond (.t 15) (jD Qrl (.ret)) (.skip))) (.seq (jQ Qrm (.cond (.t 22) (jD Qrn (.ret)) (.skip))) (jD Qro (.ret)))))
abbrev QJb:List RR:=[.tmp 2,.cell 3 (some 6),.tmp 4]
theorem QJc:CT 124 27 QJa QJb:=ck Tryz.func124 Tryz.ntmps124 (by decide +kernel)
abbrev QCF:IL:=[jh 4 4 0,jh 6 6 2,jh 7 7 3,jt 8 8,jy 9 9,jc 10 0]
abbrev QCG:IL:=[jd 14 6 7,jl 15 42 14,zi 16 15 0]
abbrev QCH:IL:=[ji 18 0 4 2 4,jb 19 0 4,yg 20 0 4 19,ja 21 1,jr 22 3 20 21,yn 23 3 22,ji 24 0 6 7 6,ji 25 0 7 6 7,zb 26 43 18 23 24 25,ja 17 26,jg 27 17 0,jg 28 17 1,jg 29 17 2,jt 11 11,jy 12 12,jj 0 11 7 11 27,jj 0 12 6 12 28,ja 13 29]
abbrev QCI:IL:=[ja 30 13,js 31 30 0]
abbrev QCJ:IL:=[ji 32 0 6 7 6,ji 33 0 7 6 7,ja 34 13,jj 0 8 7 8 32,jj 0 9 6 9 33,ja 10 34]
abbrev QCK:IL:=[ji 35 0 11 7 11,ji 36 0 12 6 12,jj 0 6 7 6 35,jj 0 7 6 7 36]
abbrev TA:RC:=.gho (.drop 12) (.gho (.drop 11) (.seq (jQ QCG (jX 16 0)) (.block 1 (jD QCH (.seq (jQ QCI (.cond (.t 31) (jD QCJ (.ret)) (.skip))) (.draw QCK))))))
abbrev QCL:IL:=[ji 37 0 6 7 6,ji 38 0 7 6 7,jj 0 8 7 8 37,jj 0 9 6 9 38,jc 10 0]
abbrev r22:RC:=jQ QCF (.seq (.block 0 (.loop TA)) (jD QCL (.ret)))
abbrev o22:List RR:=[.cell 8 (some 7),.cell 9 (some 6),.tmp 10]
theorem k22:CT 22 39 r22 o22:=ck Tryz.func22 Tryz.ntmps22 (by decide +kernel)
abbrev QCM:IL:=[jh 5 5 0,jh 6 6 1,jh 7 7 2,jh 8 8 3,jh 9 9 4,jt 10 10,jy 11 11,jc 12 0]
abbrev QCN:IL:=[jd 20 7 7,jb 21 0 8,je 22 21,ju 23 39 20 22,ja 19 23,jg 24 19 0,jg 25 19 1,jt 13 13,jf 7 13 24,ja 14 25]
abbrev QCO:IL:=[NJ 26,jt 15 15,jf 7 15 26,jc 16 1]
abbrev QCP:IL:=[jb 27 3 8,je 28 27,jn 29 28 4,ja 30 29,jk 31 14 30,zt 32 31 30,jm 33 30 32]
abbrev QCQ:IL:=[jc 16 2]
abbrev QCR:IL:=[jb 34 3 8,je 35 34,js 36 35 4,ja 37 36,jk 38 14 37,jm 39 37 38]
abbrev QCS:IL:=[jd 40 7 13,jf 7 15 40]
abbrev QCT:IL:=[jd 42 2 5,jd 43 8 8,jd 44 7 15,ja 45 16,jd 46 6 9,zl 47 133 42 43 44 45 46,ja 41 47,jg 48 41 0,jg 49 41 1,jg 50 41 2,jt 17 17,jf 7 17 48,jf 6 9 49,ja 18 50]
abbrev QCU:IL:=[ja 51 18,js 52 51 0]
abbrev QCV:IL:=[ji 53 0 7 7 7,ji 54 0 9 6 9,ja 55 18,jj 0 10 7 10 53,jj 0 11 6 11 54,ja 12 55]
abbrev Qrp:IL:=[jb 56 3 8,je 57 56,jn 58 57 4]
abbrev Qrq:IL:=[ji 59 0 6 3 6,ji 60 0 7 7 7,ji 61 0 8 8 8,ji 62 0 17 7 17,zb 63 134 59 60 61 62,ji 64 0 9 6 9,jj 0 10 7 10 63,jj 0 11 6 11 64,jc 12 0]
abbrev Qrr:IL:=[ji 65 0 6 3 6,ji 66 0 7 7 7,ji 67 0 8 8 8,ji 68 0 17 7 17,zb 69 128 65 66 67 68,ji 70 0 9 6 9,jj 0 10 7 10 69,jj 0 11 6 11 70,jc 12 0]
abbrev r82:RC:=jQ QCM (jQ QCN (jQ QCO (.seq (jQ QCP (.cond (.t 33) (.reg QCQ) (.skip))) (.seq (jQ QCR (.cond (.t 39) (.reg QCS) (.skip))) (jQ QCT (.seq (jQ QCU (.cond (.t 52) (jD QCV (.ret)) (.skip))) (.seq (jQ Qrp (.cond (.t 58) (jD Qrq (.ret)) (.skip))) (jD Qrr (.ret)))))))))
abbrev o82:List RR:=[.cell 10 (some 7),.cell 11 (some 6),.tmp 12]
theorem k82:CT 82 71 r82 o82:=ck Tryz.func82 Tryz.ntmps82 (by decide +kernel)
abbrev QCW:IL:=[jh 5 5 0,jh 6 6 1,jh 7 7 2,jh 8 8 3,jh 9 9 4,jt 10 10,jy 11 11,jc 12 0]
abbrev QCX:IL:=[jd 21 6 9,jl 22 124 21,ja 20 22,jg 23 20 0,jg 24 20 1,jg 25 20 2,jy 14 14,ja 13 23,jf 6 14 24,ja 15 25]
abbrev QCY:IL:=[ja 26 15,js 27 26 0]
abbrev QCZ:IL:=[ji 28 0 7 7 7,ji 29 0 9 6 9,ja 30 15,jj 0 10 7 10 28,jj 0 11 6 11 29,ja 12 30]
abbrev QC0:IL:=[jd 32 6 14,ja 33 13,ju 34 125 32 33,jl 35 130 34,ja 31 35,jg 36 31 0,jg 37 31 1,jg 38 31 2,jy 17 17,ja 16 36,jf 6 17 37,ja 15 38]
abbrev QC1:IL:=[ja 39 15,js 40 39 0]
abbrev QC2:IL:=[ji 41 0 7 7 7,ji 42 0 9 6 9,ja 43 15,jj 0 10 7 10 41,jj 0 11 6 11 42,ja 12 43]
abbrev QC3:IL:=[ja 44 16,yv 45 44,jd 46 8 8,jl 47 81 46,yx 48 45 47]
abbrev QC4:IL:=[ji 49 0 7 7 7,ji 50 0 9 6 9,jj 0 10 7 10 49,jj 0 11 6 11 50,jc 12 13]
abbrev QC5:IL:=[jd 52 7 7,jb 53 0 8,je 54 53,ju 55 39 52 54,ja 51 55,jg 56 51 0,jg 57 51 1,jt 18 18,jf 7 18 56,ja 19 57]
abbrev Qrs:IL:=[ja 58 19,yd 59 58]
abbrev Qrt:IL:=[jd 61 6 17,zj 62 21 61 1,ja 60 62,jg 63 60 0,jg 64 60 1,jf 6 17 63,ja 15 64]
abbrev Qru:IL:=[ja 65 15,js 66 65 0]
abbrev Qrv:IL:=[ji 67 0 7 7 7,ji 68 0 9 6 9,ja 69 15,jj 0 10 7 10 67,jj 0 11 6 11 68,ja 12 69]
abbrev Qrw:IL:=[jd 70 3 6,jd 71 7 7,jd 72 8 8,⟨some 73,.val (.build [.int .i64 0,.int .u64 0,.str [],.nils,.nils,.nils,.nils] [(0,1,(.c (.int .i64 11)))]),none⟩,zb 74 128 70 71 72 73,jf 7 7 74]
abbrev Qrx:IL:=[jd 75 6 17,jl 76 42 75,zi 77 76 0]
abbrev Qry:IL:=[jd 79 2 5,jd 80 3 6,jd 81 7 7,jd 82 8 8,jd 83 6 17,zl 84 83 79 80 81 82 83,ja 78 84,jg 85 78 0,jg 86 78 1,jg 87 78 2,jf 7 7 85,jf 6 17 86,ja 15 87]
abbrev Qrz:IL:=[ja 88 15,js 89 88 0]
abbrev QrA:IL:=[ji 90 0 7 7 7,ji 91 0 9 6 9,ja 92 15,jj 0 10 7 10 90,jj 0 11 6 11 91,ja 12 92]
abbrev TB:RC:=.seq (jQ Qrx (jX 77 0)) (.block 1 (jQ Qry (jQ Qrz (.cond (.t 89) (jD QrA (.ret)) (.skip)))))
abbrev QrB:IL:=[ji 93 0 7 7 7,ji 94 0 14 6 14,ji 95 0 17 6 17,ju 96 129 94 95,jj 0 10 7 10 93,jj 0 11 6 11 96,jc 12 0]
abbrev r80:RC:=jQ QCW (jQ QCX (.seq (jQ QCY (.cond (.t 27) (jD QCZ (.ret)) (.skip))) (jQ QC0 (.seq (jQ QC1 (.cond (.t 40) (jD QC2 (.ret)) (.skip))) (.seq (jQ QC3 (.cond (.t 48) (jD QC4 (.ret)) (.skip))) (.seq (jQ QC5 (jQ Qrs (.cond (.t 59) (jQ Qrt (.seq (jQ Qru (.cond (.t 66) (jD Qrv (.ret)) (.skip))) (.reg Qrw))) (.skip)))) (.seq (.block 0 (.loop TB)) (jD QrB (.ret)))))))))
abbrev o80:List RR:=[.cell 10 (some 7),.cell 11 (some 6),.tmp 12]
theorem k80:CT 80 97 r80 o80:=ck Tryz.func80 Tryz.ntmps80 (by decide +kernel)
abbrev QrC:IL:=[jh 2 2 0,jy 4 4]
abbrev QrD:IL:=[jb 5 1 2,je 6 5,ja 7 1,yk 8 6 7,jb 9 2 2,jf 1 9 8]
abbrev QrE:IL:=[jd 10 6 2,jf 6 4 10]
abbrev QJd:RC:=jQ QrC (jQ QrD (jQ QrE (.ret)))
abbrev QJe:List RR:=[.cell 4 (some 6)]
theorem QJf:CT 125 11 QJd QJe:=ck Tryz.func125 Tryz.ntmps125 (by decide +kernel)
abbrev QrF:IL:=[jh 4 4 0,jh 5 5 1,jh 6 6 2,jh 7 7 3,jt 8 8]
abbrev QrG:IL:=[jb 13 6 5,je 14 13,⟨some 15,.val (.build [.int .i64 0,.int .u64 0,.str [],.nils,.nils,.nils,.nils] [(0,1,(.c (.int .i64 10))),(6,1,(.t 14))]),none⟩,jt 9 9,jf 7 9 15]
abbrev QrH:IL:=[jc 10 0]
abbrev QrI:IL:=[ja 16 10,jb 17 5 5,je 18 17,jp 19 1 18,jv 20 16 19]
abbrev QrJ:IL:=[ji 24 0 4 3 4,jb 25 5 5,yg 26 0 5 25,ja 27 10,jr 28 8 26 27,jb 29 0 28,M5 30 29,ju 31 75 24 30,ja 23 31,jg 32 23 0,jg 33 23 1,zd 11 11,jj 0 11 8 11 32,ja 12 33]
abbrev QrK:IL:=[jb 34 5 5,yg 35 0 5 34,ja 36 10,jr 37 8 35 36,jb 38 0 37,M5 39 38,jb 40 0 6,yg 41 0 6 40,yx 42 39 41,ja 43 42,jo 44 7 6 43,zk 45 0 6 44 43,yo 46 45 (-1) 43,jk 47 46 43,jz 48 7 11 47,zu 49 0 11 48 47,jz 50 7 6 47,zu 51 0 6 50 47,NR 52 49 51 47,zf 53 47 52 43,jm 54 43 53]
abbrev QrL:IL:=[jb 55 5 9,yg 56 0 9 55,jb 57 5 5,yg 58 0 5 57,ja 59 10,jr 60 8 58 59,yn 61 8 60,FT 62 8 1 0 8 61,yj 63 8 136 56 56 62,jb 64 5 9,jj 0 9 1 64 63]
abbrev QrM:IL:=[ja 21 10,jw 22 21 1,ja 10 22]
abbrev QrN:RC:=.gho (.drop 11) (.seq (jQ QrI (jX 20 0)) (.seq (.block 1 (jD QrJ (jD QrK (.cond (.t 54) (.draw QrL) (.skip))))) (.reg QrM)))
abbrev QrO:IL:=[jb 65 5 9,je 66 65,jb 67 0 6,je 68 67,jd 69 7 7,⟨some 70,.val (.build [.int .i64 0,.int .i64 0,.int .u64 0,.str [],.nils,.nils,.nils,.nils] [(0,1,(.t 68)),(1,7,(.t 69))]),none⟩,FT 71 8 1 0 8 70,yj 72 8 136 56 66 71,jb 73 5 9,jf 1 73 72]
abbrev QrP:IL:=[jd 74 7 9,jf 7 8 74]
abbrev QJg:RC:=jQ QrF (jQ QrG (.gho (.vecc 9 5 1100 8) (.seq (jQ QrH (.block 0 (.loop QrN))) (jQ QrO (jQ QrP (.ret))))))
abbrev QJh:List RR:=[.cell 8 (some 7)]
theorem QJi:CT 128 75 QJg QJh:=ck Tryz.func128 Tryz.ntmps128 (by decide +kernel)
abbrev QC6:IL:=[jh 5 5 0,jh 6 6 1,jh 7 7 2,jh 8 8 3,jh 9 9 4,jt 10 10,jy 11 11,jc 12 0]
abbrev QC7:IL:=[jd 19 6 9,zj 20 21 19 1,ja 18 20,jg 21 18 0,jg 22 18 1,jf 6 9 21,ja 13 22]
abbrev QC8:IL:=[ja 23 13,js 24 23 0]
abbrev QC9:IL:=[ji 25 0 7 7 7,ji 26 0 9 6 9,ja 27 13,jj 0 10 7 10 25,jj 0 11 6 11 26,ja 12 27]
abbrev QDa:IL:=[ji 29 0 8 8 8,jl 30 81 29,ji 31 0 9 6 9,ju 32 135 30 31,ja 28 32,jg 33 28 0,jg 34 28 1,jg 35 28 2,ze 14 14,jj 0 14 4 14 33,jj 0 9 6 9 34,ja 13 35]
abbrev QDb:IL:=[ja 36 13,js 37 36 0]
abbrev QDc:IL:=[ji 38 0 7 7 7,ji 39 0 9 6 9,ja 40 13,jj 0 10 7 10 38,jj 0 11 6 11 39,ja 12 40]
abbrev QDd:IL:=[jd 42 2 5,jd 43 8 8,jd 44 4 14,yp 45 136 42 43 44,ja 41 45,jg 46 41 0,jg 47 41 1,jt 15 15,jf 7 15 46,ja 13 47]
abbrev QDe:IL:=[ja 48 13,jn 49 48 16]
abbrev QDf:IL:=[ji 50 0 7 7 7,jb 51 0 8,yg 52 0 8 51,jb 53 2 14,yg 54 0 14 53,⟨some 55,.val (.build [.int .i64 0,.int .i64 0,.int .u64 0,.str []] [(0,1,(.t 52)),(1,1,(.c (.int .i64 0))),(2,1,(.t 54))]),none⟩,ju 56 77 50 55,ji 57 0 9 6 9,jj 0 10 7 10 56,jj 0 11 6 11 57,jc 12 0]
abbrev QrQ:IL:=[ja 58 13,js 59 58 0]
abbrev QrR:IL:=[ji 60 0 7 7 7,ji 61 0 9 6 9,ja 62 13,jj 0 10 7 10 60,jj 0 11 6 11 61,ja 12 62]
abbrev QrS:IL:=[jb 63 3 8,je 64 63,js 65 64 4]
abbrev QrT:IL:=[ji 66 0 6 3 6,ji 67 0 7 7 7,ji 68 0 8 8 8,ji 69 0 15 7 15,zb 70 128 66 67 68 69,ji 71 0 9 6 9,jj 0 10 7 10 70,jj 0 11 6 11 71,jc 12 0]
abbrev QrU:IL:=[jd 73 7 7,jb 74 0 8,je 75 74,ju 76 39 73 75,ja 72 76,jg 77 72 0,jg 78 72 1,jt 16 16,jf 7 16 77,ja 17 78]
abbrev QrV:IL:=[ja 79 17,yd 80 79]
abbrev QrW:IL:=[jd 82 6 9,zj 83 21 82 1,ja 81 83,jg 84 81 0,jg 85 81 1,jf 6 9 84,ja 13 85]
abbrev QrX:IL:=[ja 86 13,js 87 86 0]
abbrev QrY:IL:=[ji 88 0 7 7 7,ji 89 0 9 6 9,ja 90 13,jj 0 10 7 10 88,jj 0 11 6 11 89,ja 12 90]
abbrev QrZ:IL:=[ji 91 0 6 3 6,ji 92 0 7 7 7,ji 93 0 8 8 8,ji 94 0 15 7 15,zb 95 134 91 92 93 94,ji 96 0 9 6 9,jj 0 10 7 10 95,jj 0 11 6 11 96,jc 12 0]
abbrev r83:RC:=jQ QC6 (jQ QC7 (.seq (jQ QC8 (.cond (.t 24) (jD QC9 (.ret)) (.skip))) (jD QDa (.seq (jQ QDb (.cond (.t 37) (jD QDc (.ret)) (.skip))) (jQ QDd (.seq (jQ QDe (.cond (.t 49) (jD QDf (.ret)) (.skip))) (.seq (jQ QrQ (.cond (.t 59) (jD QrR (.ret)) (.skip))) (.seq (jQ QrS (.cond (.t 65) (jD QrT (.ret)) (.skip))) (.seq (jQ QrU (jQ QrV (.cond (.t 80) (jQ QrW (jQ QrX (.cond (.t 87) (jD QrY (.ret)) (.skip)))) (.skip)))) (jD QrZ (.ret)))))))))))
abbrev o83:List RR:=[.cell 10 (some 7),.cell 11 (some 6),.tmp 12]
theorem k83:CT 83 97 r83 o83:=ck Tryz.func83 Tryz.ntmps83 (by decide +kernel)
abbrev Qr1:IL:=[jh 1 1 0,zd 2 2]
abbrev Qr2:IL:=[jb 3 3 1,⟨none,.store 1 (.t 3) (.c (.int .i64 2)),none⟩]
abbrev Qr3:IL:=[jd 4 8 1,jf 8 2 4]
abbrev QJj:RC:=jQ Qr1 (jQ Qr2 (jQ Qr3 (.ret)))
abbrev QJk:List RR:=[.cell 2 (some 8)]
theorem QJl:CT 132 5 QJj QJk:=ck Tryz.func132 Tryz.ntmps132 (by decide +kernel)
abbrev Qr4:IL:=[jh 4 4 0,jh 5 5 1,jh 6 6 2,jh 7 7 3,jt 8 8]
abbrev Qr5:IL:=[jd 12 7 5,jb 13 0 6,je 14 13,ju 15 39 12 14,ja 11 15,jg 16 11 0,jg 17 11 1,jt 9 9,jf 7 9 16,ja 10 17]
abbrev Qr6:IL:=[ji 18 0 4 3 4,ji 19 0 5 7 5,ji 20 0 6 8 6,zx 21 21 7,⟨some 22,.val (.faddv 3 (.t 9)),none⟩,yg 23 0 9 22,yj 24 7 128 35 21 23,ji 25 0 7 7 7,SJ 26 7 1 0 7 25,⟨some 27,.appl 7 128 35 (.t 24) (.t 26),none⟩,⟨some 28,.val (.build [.int .i64 0,.int .u64 0,.str [],.nils,.nils,.nils,.nils] [(0,1,(.c (.int .i64 11))),(3,1,(.t 27))]),none⟩,zb 29 128 18 19 20 28,jj 0 8 7 8 29]
abbrev QJm:RC:=jQ Qr4 (jQ Qr5 (jD Qr6 (.ret)))
abbrev QJn:List RR:=[.cell 8 (some 7)]
theorem QJo:CT 134 30 QJm QJn:=ck Tryz.func134 Tryz.ntmps134 (by decide +kernel)
end Go.Proofs.YtfgchfdkiomfpaaGreat.Rc

namespace Go.Proofs.YtfgchfdkiomfpaaGreat.Bt
open Go

theorem XY (n:Int):IntKind.u64.wrap n=n % 18446744073709551616:=by simp[IntKind.wrap,IntKind.bits,IntKind.signed]
theorem QA (n:Int):IntKind.i64.wrap n=(n+9223372036854775808) % 18446744073709551616-9223372036854775808:=IntKind.wrap_i64 n

theorem Yc {n:Nat}(h:n<18446744073709551616):(BitVec.ofInt 64 (n:Int)).toNat=n:=by
 simp;omega

theorem Dj (a b:Nat)(ha:a<18446744073709551616)(hb:b<18446744073709551616):bits .and .u64 (a:Int) (b:Int)=((a &&& b:Nat):Int):=by
 have hx:a &&& b<2 ^ 64:=Nat.and_lt_two_pow _ (by omega);show IntKind.u64.wrap ((BitVec.ofInt 64 (a:Int) &&& BitVec.ofInt 64 (b:Int)).toNat:Int)=_;rw[BitVec.toNat_and,Yc ha,Yc hb,XY];omega
theorem Pl (a b:Nat)(ha:a<18446744073709551616)(hb:b<18446744073709551616):bits .or .u64 (a:Int) (b:Int)=((a ||| b:Nat):Int):=by
 have hx:a ||| b<2 ^ 64:=Nat.or_lt_two_pow (by omega) (by omega)
 show IntKind.u64.wrap ((BitVec.ofInt 64 (a:Int) ||| BitVec.ofInt 64 (b:Int)).toNat:Int)=_;rw[BitVec.toNat_or,Yc ha,Yc hb,XY];omega

theorem F7 (a:Nat)(ha:a<18446744073709551616):a ^^^ 18446744073709551615=18446744073709551615-a:=by
 have h1:(BitVec.ofNat 64 a ^^^ BitVec.allOnes 64).toNat=a ^^^ 18446744073709551615:=by
  rw[BitVec.toNat_xor,BitVec.toNat_ofNat,BitVec.toNat_allOnes,QP5 (by omega)]
 rw[←h1,BitVec.xor_allOnes,BitVec.toNat_not,BitVec.toNat_ofNat,QP5 (by omega)]

theorem Np (a:Int)(h0:0≤a)(h1:a<18446744073709551616):bits .and .u64 a 1=a % 2:=by
 obtain⟨n,rfl⟩:=QQm h0;have:=Dj n 1 (by omega) (by omega);rw[Nat.and_one_is_mod]at this;rw[show((1:Nat):Int)=1 from rfl]at this;rw[this];omega
theorem F8 (a:Int)(h0 : -9223372036854775808≤a)(h1:a<9223372036854775808):bits .xor .i64 a 0=a:=by
 show IntKind.i64.wrap ((BitVec.ofInt 64 a ^^^ BitVec.ofInt 64 0).toNat:Int)=_;rw[BitVec.toNat_xor,show(BitVec.ofInt 64 0).toNat=0 from rfl,Nat.xor_zero,BitVec.toNat_ofInt,QA];omega
theorem F9 (a:Int)(h0 : -9223372036854775808≤a)(h1:a<9223372036854775808):bits .xor .i64 a (-1) = -1-a:=by
 show IntKind.i64.wrap ((BitVec.ofInt 64 a ^^^ BitVec.ofInt 64 (-1)).toNat:Int)=_;rw[BitVec.toNat_xor,show(BitVec.ofInt 64 (-1)).toNat=18446744073709551615 from rfl,BitVec.toNat_ofInt,F7 _ (by omega),QA];omega

end Go.Proofs.YtfgchfdkiomfpaaGreat.Bt

set_option linter.unusedSimpArgs false
namespace Go.Proofs.YtfgchfdkiomfpaaGreat.Va
open Go Am Rc Bt

def RB (v:AV):Prop:=∃b,v=.bool b
theorem rb (b:Bool):RB (.bool b)=True:=eq_true ⟨b,rfl⟩
theorem RB.rf {v:AV}{l:List AV}(h:RB v):v.rf=true∧(AV.rfL l=true∨v.nl=true):=by
 obtain⟨b,rfl⟩:=h;exact⟨rfl,.inr rfl⟩

def isk (k:Int):Bool:=decide (k≥1)&&decide (k≤9)
def XV (k:Int):Bool:=k==7||k==8
def wk (k:Int):Int:=if k=1∨k=4∨k=5∨k=9 then 0 else if k=2∨k=3 then 1 else if k=6 then 2 else if k=7∨k=8 then 3 else if k=10 then 4 else -1

theorem Dk (k:Int):Qj Tryz.prog 118 [.int .i64 k] (.bool (isk k)):=by
 refine QG0.fn (by simp) ?_;simp only[isk,Qb,seval];cases h:decide (k≥1)<;>simp only[QQk,QQa,Qb,seval]

theorem Ba (k:Int):Qj Tryz.prog 163 [.int .i64 k] (.bool (isk k)):=by
 refine Qfn.fn (by simp) ?_;simp only[isk,Qb,seval];cases h:decide (k≥1)<;>simp only[QQk,QQa,Qb,seval]

theorem Wm (k:Int):Qj Tryz.prog 119 [.int .i64 k] (.bool (XV k)):=by
 refine QG6.fn (by simp) ?_;simp only[XV,Qb,seval];cases h:(k==7)<;>simp only[QQn,QQo,Qb,seval]

theorem Qr7 (k:Int):Qj Tryz.prog 202 [.int .i64 k] (.bool (XV k)):=by
 refine Qgb.fn (by simp) ?_;simp only[XV,Qb,seval];cases h:(k==7)<;>simp only[QQn,QQo,Qb,seval]

def oc (n:Int)(s a:List UInt8)(c k kd t u:Int):AV:=.agg [.int .i64 n,.str s,.str a,.int .i64 c,.int .i64 k,.int .i64 kd,.int .i64 t,.int .i64 u]

def pk (c kd:Int):Bool:=c==4&&((decide (kd≥1)&&decide (kd≤6))||kd==9)
def Hi (c kd:Int):Int:=if c=5 then 6 else if pk c kd=true then 5 else wk kd

section
variable (n:Int)(s a:List UInt8)(c k kd t u:Int)

theorem y91:Qj Tryz.prog 91 [oc n s a c k kd t u] (.bool (pk c kd)):=by
 refine k91.fn (by simp) ?_;simp only[oc,pk,eE,seval];cases h0:(c==4)<;>cases h1:decide (kd≥1)<;>cases h2:decide (kd≤6)<;>simp only[h1,h2,QQk,QQa,QQn,QQo,eE,seval]

theorem y79:Qj Tryz.prog 79 [oc n s a c k kd t u] (.bool (pk c kd)):=by
 refine k79.fn (by simp) ?_;simp only[oc,pk,eE,seval];cases h0:(c==4)<;>cases h1:decide (kd≥1)<;>cases h2:decide (kd≤6)<;>simp only[h1,h2,QQk,QQa,QQn,QQo,eE,seval]

theorem QJp:Qj Tryz.prog 148 [oc n s a c k kd t u] (.int .i64 (Hi c kd)):=by
 have hP:=y91 n s a c k kd t u;simp only[oc]at hP;refine Qd8.fn (by simp) ?_;simp only[oc,eE,seval];by_cases hc:c=5
 ·have b0:(c==5)=true:=by simp[hc]
  simp only[b0,Hi,QO9 hc,Qb,seval]
 ·have b0:(c==5)=false:=by simp[hc]
  simp only[b0,Hi,QOS hc,eE,seval];refine Qa hP rfl rfl rfl (.inl rfl) ?_;cases pk c kd
  ·simp only[QOX,eE,seval]
   repeat' (first|(refine QI (fun h=>?_) (fun h=>?_)<;>simp only[h,Qb,seval])|(refine Xk (fun h=>?_) (fun h=>?_)<;>simp only[h,Qk,eE,seval])|(refine Xl (fun h=>?_) (fun h=>?_)<;>simp only[h,Qk,eE,seval]))
   all_goals((try simp only[QO5,QQp,ne_eq]at *)<;>unfold wk<;>(repeat' split)<;>first|rfl|(exfalso;omega))
  ·simp only[Qb,seval]

theorem QJq:Qj Tryz.prog 131 [oc n s a c k kd t u] (.int .i64 (Hi c kd)):=by
 have hP:=y79 n s a c k kd t u;simp only[oc]at hP;refine QIG.fn (by simp) ?_;simp only[oc,eE,seval];by_cases hc:c=5
 ·have b0:(c==5)=true:=by simp[hc]
  simp only[b0,Hi,QO9 hc,Qb,seval]
 ·have b0:(c==5)=false:=by simp[hc]
  simp only[b0,Hi,QOS hc,eE,seval];refine Qa hP rfl rfl rfl (.inl rfl) ?_;cases pk c kd
  ·simp only[QOX,eE,seval]
   repeat' (first|(refine QI (fun h=>?_) (fun h=>?_)<;>simp only[h,Qb,seval])|(refine Xk (fun h=>?_) (fun h=>?_)<;>simp only[h,Qk,eE,seval])|(refine Xl (fun h=>?_) (fun h=>?_)<;>simp only[h,Qk,eE,seval]))
   all_goals((try simp only[QO5,QQp,ne_eq]at *)<;>unfold wk<;>(repeat' split)<;>first|rfl|(exfalso;omega))
  ·simp only[Qb,seval]

end

theorem Qx (i:Nat)(n:Nat)(h:i<n)(hn:n≤maxLen):IntKind.i64.wrap ((i:Int)+1)=((i+1:Nat):Int):=by
 simp only[maxLen]at hn;rw[QA];omega

theorem Qt {i n:Nat}(h:i<n):decide ((i:Int)<(n:Int))=true:=by simp;omega
theorem QS {i n:Nat}(h:¬i<n):decide ((i:Int)<(n:Int))=false:=by simp;omega
theorem Qm (i:Nat):(0≤(i:Int))=True:=by simp

end Go.Proofs.YtfgchfdkiomfpaaGreat.Va

namespace Go.Proofs.YtfgchfdkiomfpaaGreat.Br
open Go Am Go.RowKit Go.WideShapes Go.ChangeShapes Go.ChangeAt Go.Joins Go.Deep Go.WideElems Go.Maps

section
variable {H:Type}{enc:TypeId×Value→H}{P:Program}{W:World}{base:Nat}{sp:Nat→Bool}{held:Bool}

theorem RJ {r:Reach}{b0:Nat}{t ti:TypeId}{f0 f1 f2 f3:Field}{v:Value}{d:DataW H}{p:List MemPlace}(hs:P.underlying t=some (.struct #[f0,f1,f2,f3]))(hone:oneCellFields P #[f0,f1,f2,f3]=true)(hC:P.cellsOf t=4)
  (hti:P.underlying ti=some (.int .i64)) (hf:f0.type=ti∧f1.type=ti∧f2.type=ti∧f3.type=ti)
  (hv:Value.okWide P W r b0 t v) (h:DataW.Trod enc P W base sp held t v d p) :
  ∃(a b c e:Int),v=.agg #[.int .i64 a,.int .i64 b,.int .i64 c,.int .i64 e]∧d=.agg [.lit (.int .i64 a),.lit (.int .i64 b),.lit (.int .i64 c),.lit (.int .i64 e)]∧p=[]∧
   (Lit.int .i64 a).wf=true∧(Lit.int .i64 b).wf=true∧(Lit.int .i64 c).wf=true∧(Lit.int .i64 e).wf=true:=by
 obtain⟨v0,v1,v2,v3,y0,y1,y2,y3,n,rfl,rfl,rfl,h0,h1,h2,h3⟩:=open_agg4 hs hone hC hv h;obtain⟨t0,t1,t2,t3⟩:=hf;rw[t0]at h0;rw[t1]at h1;rw[t2]at h2;rw[t3]at h3;obtain⟨a,e0,rfl,w0⟩:=DataW.trod_int hti h0;obtain⟨b,e1,rfl,w1⟩:=DataW.trod_int hti h1;obtain⟨c,e2,rfl,w2⟩:=DataW.trod_int hti h2;obtain⟨e,e3,rfl,w3⟩:=DataW.trod_int hti h3;simp at e0 e1 e2 e3;subst e0 e1 e2 e3;exact⟨a,b,c,e,rfl,rfl,rfl,w0,w1,w2,w3⟩

theorem RK {t ti:TypeId}{f0 f1 f2 f3:Field}(hs:P.underlying t=some (.struct #[f0,f1,f2,f3]))(hone:oneCellFields P #[f0,f1,f2,f3]=true)(hC:P.cellsOf t=4)
  (hti:P.underlying ti=some (.int .i64)) (hf:f0.type=ti∧f1.type=ti∧f2.type=ti∧f3.type=ti) {a b c e:Int} (w1:(Lit.int .i64 a).wf=true) (w2:(Lit.int .i64 b).wf=true) (w3:(Lit.int .i64 c).wf=true) (w4:(Lit.int .i64 e).wf=true) :
  DataW.Trod enc P W base sp held t (.agg #[.int .i64 a,.int .i64 b,.int .i64 c,.int .i64 e]) (.agg [.lit (.int .i64 a),.lit (.int .i64 b),.lit (.int .i64 c),.lit (.int .i64 e)]) []:=by
 have hint:∀n:Int,(Lit.int .i64 n).wf=true→∃m,DataW.trod enc P W base sp held m ti [.int .i64 n]=some (.lit (.int .i64 n),[]):=fun n hn=>⟨1,by simp[DataW.trod,hti,hn]⟩
 obtain⟨t0,t1,t2,t3⟩:=hf;have:=shut_agg4 (enc:=enc) (w:=W) (base:=base) (spare:=sp) (held:=held) (y0:=(.lit (.int .i64 a),[])) (y1:=(.lit (.int .i64 b),[])) (y2:=(.lit (.int .i64 c),[])) (y3:=(.lit (.int .i64 e),[])) hs hone hC
  (by rw[t0];exact hint _ w1) (by rw[t1];exact hint _ w2) (by rw[t2];exact hint _ w3) (by rw[t3];exact hint _ w4)
 simpa using this

theorem LS {G:Gh}(a b c e:Int):Rep G (.agg [.int .i64 a,.int .i64 b,.int .i64 c,.int .i64 e]) (.agg #[.int .i64 a,.int .i64 b,.int .i64 c,.int .i64 e]) :=
 .agg (.cons (.int _ _) (.cons (.int _ _) (.cons (.int _ _) (.cons (.int _ _) .nil))))

end

theorem Hj {X α:Type}{f:X→List α}{sz:Nat}(hsz:0<sz)(hf:∀x,(f x).length=sz):∀(xs:List X) (j:Nat),(xs.flatMap f)[j]? = (xs[j / sz]?).bind fun x=>(f x)[j % sz]?
 | [],j=>by simp
 |x :: xs,j=>by
  rw[QP9];by_cases hj:j<sz
  ·rw[QP4 (by rw[hf];exact hj),Nat.div_eq_of_lt hj,QP5 hj];rfl
  ·obtain⟨i,rfl⟩:∃i,j=sz+i:=⟨j-sz,by omega⟩;rw[QP6 (by rw[hf];omega),hf,Hj hsz hf xs,show sz+i-sz=i by omega,show(sz+i) / sz=i / sz+1 by rw[Nat.add_div_left _ hsz],Nat.add_mod_left];rfl

section
variable {H:Type}{enc:TypeId×Value→H}{P:Program}{W:World}

structure El (enc:TypeId×Value→H)(P:Program)(e:TypeId)(sz:Nat)(X:Type) where
 av:X→AV
 vals:X→List Value
 We:X→DataW H
 ok:X→Prop
 pos:0<sz
 len:∀x,(vals x).length=sz
 cells:∀x,(av x).cells.length=sz
 rfl':∀x,AV.rfL (av x).cells=true
 leaf:∀x,(av x).cells.all AV.leaf=true
 rep:∀(G:Gh) x,RepL G (av x).cells (vals x)
 opened:∀ {W:World} {n:Nat} {cs:List Value} {d:DataW H} {pl:List MemPlace},cs.length=sz→DataW.trod enc P W 0 (fun _=>true) true n e cs=some (d,pl)→∃x,ok x∧cs=vals x∧d=We x∧pl=[]
 shut:∀(W:World) (sp:Nat→Bool) x,ok x→∃n,DataW.trod enc P W 0 sp true n e (vals x)=some (We x,[])

end

def ZK:List AV→AV
 | [x]=>x
 |l=>.agg l

def Gq (P:Program):Nat→List Field→Nat→Bool
 |o,[],n=>Nat.beq o n
 |o,f :: fs,n=>Nat.beq f.offset o&&Gq P (o+P.cellsOf f.type) fs n

def Pm (P:Program)(ts:List TypeId)(t:TypeId):Bool :=
 match P.underlying t with
 |some (.int _)|some .bool|some .string=>P.cellsOf t==1
 |some (.struct fs)=>Gq P 0 fs.toList (P.cellsOf t)&&fs.toList.all fun f=>ts.contains f.type
 |some (.slice e)=>P.cellsOf t==1&&(decide (0<P.cellsOf e)&&decide (0<P.bytesOf e))&&ts.contains e
 |_=>false
def Pn (P:Program)(ts:List TypeId):Bool:=ts.all (Pm P ts)

def Xz (P:Program)(M:Nat):Nat→TypeId→List AV→Prop
 |0,_,_=>False
 |k+1,t,cs=>match P.underlying t with
  |some (.int ik)=>∃n,cs=[.int ik n]∧(Lit.int ik n).wf=true
  |some .bool=>∃b,cs=[.bool b]
  |some .string=>∃s,cs=[.str s]∧s.length≤M
  |some (.struct fs)=>HasL (Xz P M k) fs.toList cs
  |some (.slice e)=>∃l:List (List AV),cs=[.list (l.map ZK)]∧(l.length≤maxLen∧(M=reachBytes→l.length*P.bytesOf e≤M))∧(∀c∈l,Xz P M k e c)∧l.length≤M
  |_=>False
where
 HasL (h:TypeId→List AV→Prop):List Field→List AV→Prop
  | [],cs=>cs=[]
  |f :: fs,cs=>∃a b,cs=a++b∧h f.type a∧HasL h fs b

theorem Hk {l:List AV}(h:l.all AV.leaf=true):(ZK l).cells=l:=by
 match l,h with
 | [],_=>rfl
 | [x],h=>cases x<;>first|rfl|simp[AV.leaf]at h
 |_ :: _ :: _,_=>rfl

mutual
def wt:AV→Nat
 |.list l=>1+J3 l
 |.agg l=>J3 l
 |_=>1
def J3:List AV→Nat
 | []=>0
 |x :: l=>wt x+J3 l
end
theorem N4 (a b:List AV):J3 (a++b)=J3 a+J3 b:=by
 induction a with
 |nil=>simp[J3]
 |cons x a ih=>simp only[QO0,J3,ih];omega
theorem RL:∀l:List AV,wt (ZK l)=J3 l
 | []=>by simp[ZK,wt]
 | [x]=>by simp[ZK,J3]
 |_ :: _ :: _=>by simp[ZK,wt]

theorem Uu {G:Gh}:∀ {ls:List (List AV)} {cs:List (List Value)},ls.length=cs.length→(∀i (h1:i<ls.length) (h2:i<cs.length),RepL G ls[i] cs[i])→RepL G ls.flatten cs.flatten
 | [],[],_,_=>.nil
 |l :: ls,c :: cs,hn,h=>by
  rw[List.flatten_cons,List.flatten_cons];exact RepL.append (h 0 (by simp) (by simp)) (Uu (by simpa using hn) fun i h1 h2=>h (i+1) (by simpa using h1) (by simpa using h2))
 | [],_ :: _,hn,_=>by simp at hn
 |_ :: _,[],hn,_=>by simp at hn

section
variable {H:Type}{enc:TypeId×Value→H}{P:Program}{W:World}{M:Nat}

theorem HB {d:DataW H}:∀ {l:List (DataW H)},d∈l→Rows.uptoBulk d≤Rows.uptoBulkAll l
 | [],h=>by cases h
 |x :: l,h=>by
  rw[Rows.uptoBulkAll];rcases QP0.1 h with rfl|h
  ·omega
  ·have:=HB h;omega

theorem RM (d:DataW H):1≤Rows.uptoBulk d:=by unfold Rows.uptoBulk;split<;>omega
theorem Gr {x:AV}(h:wt x=1)(d:DataW H):J3 [x]≤Rows.uptoBulk d:=by
 have:=RM d;rw[J3,J3,h];exact this
theorem RN (a b:List (DataW H)):Rows.uptoBulkAll (a++b)=Rows.uptoBulkAll a+Rows.uptoBulkAll b:=by
 induction a with
 |nil=>simp[Rows.uptoBulkAll]
 |cons x a ih=>simp only[QO0,Rows.uptoBulkAll,ih];omega
theorem Bb (F:Nat→List AV)(xs:List (DataW H))(h:∀i d,xs[i]? = some d→J3 (F i)≤Rows.uptoBulk d):∀n,n≤xs.length→J3 (((List.range n).map F).map ZK)≤Rows.uptoBulkAll (xs.take n)
 |0,_=>QOM _
 |n+1,hn=>by
  have hx:xs[n]? = some xs[n]:=QOH (by omega);have:=Bb F xs h n (by omega);have h1:=h n _ hx;rw[List.range_succ,QQq,QQq,N4,QQr,hx,RN];simp only[QPc,QPG,J3,RL,Option.toList_some,Rows.uptoBulkAll];omega

def TC (P:Program)(M:Nat)(t:TypeId)(d:DataW H):Prop:=M=maxLen∨(M≠reachBytes∧Rows.uptoBulk d≤M)∨(d.weights P t).all (·≤M)=true

theorem Gs {t:TypeId}{d:DataW H}:∀ {ts:List TypeId} {ds:List (DataW H)} (i:Nat),(DataW.weightsEach P ts ds).all (·≤M)=true→ts[i]? = some t→ds[i]? = some d→(d.weights P t).all (·≤M)=true
 | [],_,_,_,h,_=>by simp at h
 |_ :: _,[],_,_,_,h=>by simp at h
 |t' :: ts,d' :: ds,0,h,h1,h2=>by
  rw[DataW.weightsEach,QPW,QO2]at h;cases h1;cases h2;exact h.1
 |t' :: ts,d' :: ds,i+1,h,h1,h2=>by
  rw[DataW.weightsEach,QPW,QO2]at h;exact Gs i h.2 (by simpa using h1) (by simpa using h2)

theorem Yw {e:TypeId}{d:DataW H}:∀ {ds:List (DataW H)},(DataW.weightsAll P e ds).all (·≤M)=true→d∈ds→(d.weights P e).all (·≤M)=true
 | [],_,h=>by cases h
 |d' :: ds,h,hd=>by
  rw[DataW.weightsAll,QPW,QO2]at h;rcases QP0.1 hd with rfl|hd
  ·exact h.1
  ·exact Yw h.2 hd

def Opn (W:World)(h:List AV→Prop)(B n:Nat)(cs:List Value):Prop :=
 ∃XO,h XO∧RepL (Gh.bare fun b o=>sv W b o) XO cs∧XO.length=n∧AV.rfL XO=true∧XO.all AV.leaf=true∧J3 XO≤B

theorem Hl {h:TypeId→List AV→Prop}{cs:List Value}:∀(fs:List Field) (ds:List (DataW H)) (o:Nat),Gq P o fs cs.length=true→fs.length=ds.length→(∀(i:Nat) (f:Field) (d:DataW H),fs[i]? = some f→ds[i]? = some d→Opn W (h f.type) (Rows.uptoBulk d) (P.cellsOf f.type) ((cs.drop f.offset).take (P.cellsOf f.type)))→
  Opn W (Xz.HasL h fs) (Rows.uptoBulkAll ds) (cs.length-o) (cs.drop o)
 | [],_,o,hc,_,_=>by
  have e:o=cs.length:=QOC hc;refine⟨[],rfl,?_,by simp[e],rfl,rfl,QOM _⟩;rw[e,List.drop_length];exact .nil
 |_ :: _,[],_,_,hl,_=>by simp at hl
 |f :: fs,d :: ds,o,hc,hl,hf=>by
  simp only[Gq,QO2]at hc;have eo:f.offset=o:=QOC hc.1;obtain⟨a,a1,a2,a3,a4,a5,a6⟩:=hf 0 f d rfl rfl;obtain⟨b,b1,b2,b3,b4,b5,b6⟩:=Hl fs ds _ hc.2 (by simpa using hl) fun i g d hg hd=>hf (i+1) g d (by simpa using hg) (by simpa using hd)
  rw[eo]at a2;refine⟨a++b,⟨a,b,rfl,a1,b1⟩,?_,?_,by rw[Kv,a4,b4]<;>rfl,by rw[QPW,a5,b5]<;>rfl,by rw[N4,Rows.uptoBulkAll];omega⟩
  ·have:=RepL.append a2 b2
   rwa [←QO8,QPV]at this
  ·have hlen:a.length=((cs.drop o).take (P.cellsOf f.type)).length:=(RepL.length a2).symm;rw[QPi,a3,b3];rw[a3,QPB,QPl]at hlen;omega

theorem Uv {ts:List TypeId}(hP:Pn P ts=true):∀(k:Nat) (t:TypeId) (cs:List Value) (d:DataW H) (pl:List MemPlace),ts.contains t=true→DataW.trod enc P W 0 (fun _=>true) true k t cs=some (d,pl)→TC P M t d→
  Opn W (Xz P M k t) (Rows.uptoBulk d) (P.cellsOf t) cs
 |0,_,_,_,_,_,h,_=>by simp[DataW.trod]at h
 |k+1,t,cs,d,pl,ht,h,hb=>by
  have hp:=QOQ.1 hP t (by simpa using ht);unfold Pm at hp;split at hp
  ·rename_i ik hu;obtain⟨v,rfl,_,hw⟩:=DataW.trod_int hu h;refine⟨[.int ik v],?_,.cons (.int ik v) .nil,by rw[QO5]at hp;simp[hp],rfl,rfl,Gr rfl _⟩;simp only[Xz,hu];exact⟨v,rfl,hw⟩
  ·rename_i hu;obtain⟨b,rfl,_⟩:=DataW.trod_bool hu h;refine⟨[.bool b],?_,.cons (.bool b) .nil,by rw[QO5]at hp;simp[hp],rfl,rfl,Gr rfl _⟩;simp only[Xz,hu];exact⟨b,rfl⟩
  ·rename_i hu;obtain⟨⟨⟨s⟩⟩,rfl,e,hw⟩:=DataW.trod_string hu h;have hw:s.length≤M:=by
    cases e;rcases hb with rfl|hb|hb
    ·exact hw
    ·replace hb:=hb.2;rw[Rows.uptoBulk]at hb;exact QOF (Nat.le_succ _) hb
    ·rw[DataW.weights]at hb
     simpa using hb
   refine⟨[.str s],?_,.cons (.str s) .nil,by rw[QO5]at hp;simp[hp],rfl,rfl,Gr rfl _⟩;simp only[Xz,hu];exact⟨s,rfl,hw⟩
  ·rename_i fs hu;simp only[QO2,QOQ]at hp;obtain⟨xs,n',hk,e,hlen,hxl,hx⟩:=DataW.trod_struct hu h;obtain rfl:k=n':=by omega
   have hbx:∀(i:Nat) x (f:Field),xs[i]? = some x→fs[i]? = some f→TC P M f.type x.1:=fun i x f hx hf=>by
    cases e;refine hb.imp id fun hb=>hb.imp (fun hb=>⟨hb.1,?_⟩) fun hb=>?_
    ·replace hb:=hb.2;rw[Rows.uptoBulk]at hb;have:=HB (l:=xs.map (·.1)) (QPY.2 ⟨x,QOR hx,rfl⟩);omega
    ·rw[DataW.weights,hu]at hb;exact Gs i hb (by simp[hf]) (by simp[hx])
   have:=Hl (W:=W) (h:=Xz P M k) (cs:=cs) fs.toList (xs.map (·.1)) 0 (by rw[hlen];exact hp.1) (by simp[hxl]) (fun i f d hi hd=>by
    have hi':fs[i]? = some f:=by simpa using hi
    have hf:f∈fs.toList:=QOR hi;obtain⟨x,hxi,rfl⟩:∃x,xs[i]? = some x∧x.1=d:=by
     rw[QP2]at hd;obtain⟨x,h1,h2⟩:=QOJ.1 hd;exact⟨x,h1,h2⟩
    have h2:=hx i f hi';rw[hxi]at h2;exact Uv hP k f.type _ _ _ (hp.2 f hf) h2 (hbx i _ f hxi hi'))
   rw[QPn,QPD,hlen]at this;obtain⟨XO,h1,h2,h3,h4,h5,h6⟩:=this;refine⟨XO,?_,h2,h3,h4,h5,by cases e;rw[Rows.uptoBulk];omega⟩;simp only[Xz,hu];exact h1
  ·rename_i e hu;simp only[QO2,QP1,QO5]at hp;obtain⟨⟨h1,h0,hby⟩,hpe⟩:=hp;rcases DataW.trod_slice hu h with⟨rfl,_⟩|⟨a,len,cap,elems,rest,n',hk,rfl,e0,_,hl,hm,hln0,hel,_⟩
   ·refine⟨[.list []],?_,.cons (.list (cs:=[]) (sz:=0) .nil (by simp) rfl rfl (by simp) rfl (QOM _) (QOM _)) .nil,by simp[h1],rfl,rfl,Gr rfl _⟩;simp only[Xz,hu];exact⟨[],rfl,⟨QOM _,fun _=>by simp⟩,by simp,QOM _⟩
   ·obtain rfl:k=n':=by omega
    have hbx:∀x∈elems,TC P M e x.1:=fun x hx=>by
     cases e0;refine hb.imp id fun hb=>hb.imp (fun hb=>⟨hb.1,?_⟩) fun hb=>?_
     ·replace hb:=hb.2;rw[Rows.uptoBulk]at hb;have:=HB (l:=elems.map (·.1)) (QPY.2 ⟨x,hx,rfl⟩);omega
     ·rw[DataW.weights,hu,QPQ,QPW,QO2,QO2]at hb;exact Yw hb.2.1 (QPY.2 ⟨x,hx,rfl⟩)
    have hlenM:len≤M:=by
     cases e0;rcases hb with rfl|hb|hb
     ·omega
     ·have key:∀l:List (DataW H),l.length≤Rows.uptoBulkAll l:=by
       intro l
       induction l with
       |nil=>simp
       |cons x l ih=>
        have:1≤Rows.uptoBulk x:=by unfold Rows.uptoBulk;split<;>omega
        rw[Rows.uptoBulkAll,QOT];omega
      replace hb:=hb.2;rw[Rows.uptoBulk]at hb;have:=key (elems.map (·.1));rw[QPz]at this;omega
     ·rw[DataW.weights,hu,QPQ,QO2]at hb;have h5:=hb.1;simp only[QP1,QPz]at h5;have h6:elems.length*1≤(elems.length+rest.length)*P.bytesOf e:=Nat.mul_le_mul (Nat.le_add_right _ _) hby;omega
    have hlenB:M=reachBytes→len*P.bytesOf e≤M:=fun hM=>by
     cases e0;rcases hb with rfl|hb|hb
     ·exact absurd hM (by unfold maxLen reachBytes;omega)
     ·exact absurd hM hb.1
     ·rw[DataW.weights,hu,QPQ,QO2]at hb;have h5:=hb.1;simp only[QP1,QPz]at h5;have h6:elems.length*P.bytesOf e≤(elems.length+rest.length)*P.bytesOf e:=Nat.mul_le_mul (Nat.le_add_right _ _) (QOE _);have h7:len*P.bytesOf e=elems.length*P.bytesOf e:=by rw[show len=elems.length by omega]
      omega
    haveI:Inhabited ({c:List Value // c.length=P.cellsOf e}×List AV):=⟨(⟨List.replicate (P.cellsOf e) (.bool false),by simp⟩,[])⟩
    obtain⟨F,hF⟩:=choose_lt (α:={c:List Value // c.length=P.cellsOf e}×List AV) (n:=len) (p:=fun i x=>W.cells? 0 (a.add (i*P.cellsOf e)) (P.cellsOf e)=some x.1.1∧Xz P M k e x.2∧RepL (Gh.bare fun b o=>sv W b o) x.2 x.1.1∧x.2.length=P.cellsOf e∧AV.rfL x.2=true∧x.2.all AV.leaf=true∧∀d,elems[i]? = some d→J3 x.2≤Rows.uptoBulk d.1) (fun i hi=>by
     have hb:=hel i hi;rw[QOH (by omega)]at hb;obtain⟨cs',c1,c2⟩:=QOO.1 hb;obtain⟨_,hln,_⟩:=World.cells?_some c1;obtain⟨XO,o1,o2,o3,o4,o5,o6⟩:=Uv hP k e cs' _ _ hpe c2 (hbx _ (QPx _));exact⟨(⟨cs',hln⟩,XO),c1,o1,o2,o3,o4,o5,fun d hd=>by
      rw[QOH (by omega)]at hd;cases hd;exact o6⟩)
    have cellAt:∀i j,i<len→j<P.cellsOf e→W.cell? (a.add (i*P.cellsOf e+j))=(F i).1.1[j]?:=by
     intro i j hi hj;obtain⟨_,_,h3⟩:=World.cells?_some (hF i hi).1;rw[←h3 j hj,add_add]
    have hspot:0<len→a.spot=none:=by
     intro hc;have:=cellAt 0 0 hc h0;rw[Nat.zero_mul,show a.add (0+0)=a from rfl,QOH (by rw[(F 0).1.2];exact h0)]at this;unfold World.cell? at this;split at this
     ·split at this
      ·cases this
      ·rename_i h;simpa using h
     ·cases this
    have hel':∀c∈(List.range len).map (fun i=>(F i).2),∃i,i<len∧c=(F i).2:=by
     intro c hc;obtain⟨i,hi,rfl⟩:=QPY.1 hc;exact⟨i,QQd.1 hi,rfl⟩
    have hflat:∀L:List (List AV),(∀c∈L,c.all AV.leaf=true)→QP (L.map ZK)=L.flatten:=by
     intro L
     induction L with
     |nil=>intro _;rfl
     |cons c L ih=>
      intro hh;show(ZK c).cells++QP (L.map ZK)=c++L.flatten;rw[Hk (hh c (by simp)),ih fun x hx=>hh x (by simp[hx])]
    have hrf:∀L:List (List AV),(∀c∈L,AV.rfL c=true)→AV.rfL L.flatten=true:=by
     intro L
     induction L with
     |nil=>intro _;rfl
     |cons c L ih=>
      intro hh;rw[List.flatten_cons,Kv,hh c (by simp),ih fun x hx=>hh x (by simp[hx])]<;>rfl
    have hlf:∀L:List (List AV),(∀c∈L,c.all AV.leaf=true)→L.flatten.all AV.leaf=true:=by
     intro L
     induction L with
     |nil=>intro _;rfl
     |cons c L ih=>
      intro hh;rw[List.flatten_cons,QPW,hh c (by simp),ih fun x hx=>hh x (by simp[hx])]<;>rfl
    have hl1:∀c∈(List.range len).map (fun i=>(F i).2),c.all AV.leaf=true:=fun c hc=>by
     obtain⟨i,hi,rfl⟩:=hel' c hc;exact(hF i hi).2.2.2.2.2.1
    have hl2:∀c∈(List.range len).map (fun i=>(F i).2),AV.rfL c=true:=fun c hc=>by
     obtain⟨i,hi,rfl⟩:=hel' c hc;exact(hF i hi).2.2.2.2.1
    have hwt:J3 [.list (((List.range len).map fun i=>(F i).2).map ZK)]≤Rows.uptoBulk d:=by
     cases e0;have hw:=fun n hn=>Bb (fun i=>if i<len then(F i).2 else []) (elems.map (·.1)) (fun i d hd=>by
      rw[QP2]at hd;obtain⟨x,h1,rfl⟩:=QOJ.1 hd;by_cases hi:i<len
      ·rw[QO9 hi];exact(hF i hi).2.2.2.2.2.2 x h1
      ·rw[QOS hi];exact QOM _) n hn
     have h1:=hw len (by rw[QPz];omega);rw[QPe (by rw[QPz];omega)]at h1;have h2:(List.range len).map (fun i=>if i<len then(F i).2 else [])=(List.range len).map fun i=>(F i).2:=by
      refine List.map_congr_left fun i hi=>?_
      rw[QO9 (QQd.1 hi)]
     rw[h2]at h1;rw[J3,J3,wt,Rows.uptoBulk];omega
    refine⟨[.list (((List.range len).map fun i=>(F i).2).map ZK)],?_,.cons (.list (cs:=((List.range len).map fun i=>(F i).1.1).flatten) (sz:=P.cellsOf e) ?_ ?_ ?_ ?_ ?_ (by simp) hl (by omega)) .nil,by simp[h1],rfl,rfl,hwt⟩
    ·simp only[Xz,hu];refine⟨_,rfl,⟨by simp;omega,fun hM=>by simpa using hlenB hM⟩,?_,by simpa using hlenM⟩;intro c hc;obtain⟨i,hi,rfl⟩:=hel' c hc;exact(hF i hi).2.1
    ·rw[hflat _ hl1];refine Uu (by simp) fun i g1 g2=>?_
     simp only[QPz,List.length_range]at g1;simp only[List.getElem_map,List.getElem_range];exact(hF i (by omega)).2.2.1
    ·intro x hx;obtain⟨c,hc,rfl⟩:=QPY.1 hx;rw[Hk (hl1 c hc)];obtain⟨i,hi,rfl⟩:=hel' c hc;exact(hF i hi).2.2.2.1
    ·rw[hflat _ hl1];exact hrf _ hl2
    ·rw[hflat _ hl1];exact hlf _ hl1
    ·intro j u hj;rw[←List.flatMap_def,Hj h0 (fun i=>(F i).1.2)]at hj;by_cases hi:j / P.cellsOf e<len
     ·rw[List.getElem?_range hi]at hj;have hj:(F (j / P.cellsOf e)).1.1[j % P.cellsOf e]? = some u:=hj;have hk:=cellAt (j / P.cellsOf e) (j % P.cellsOf e) (by omega) (Nat.mod_lt _ h0);rw[hj,Nat.div_add_mod']at hk;have hs:=hspot (Nat.lt_of_le_of_lt (QOM _) hi);obtain⟨b,o,s⟩:=a;subst hs;refine⟨b,o,rfl,?_⟩;refine UX ?_;show W.cell? ⟨b,o+j,none⟩=some u;rw[←hk];unfold Addr.add;split
      ·rename_i h;rw[h];rfl
      ·rfl
     ·rw[QP3 (by simp;omega)]at hj;cases hj
  ·cases hp

theorem Ch {t:TypeId}{v:Value}{d:DataW H}{p:List MemPlace}(hl:laidOutB P=true)(hr:P.readableRec t=true)(hrow:t<P.types.size)(h:DataW.Trod enc P W 0 (fun _=>true) true t v d p) :
  ∀(W':World) (sp:Nat→Bool),Below W.heap.size W W'→(∀q∈p,sp q.block=true)→DataW.Trod enc P W' 0 sp true t v d p:=by
 intro W' sp hb hs;obtain⟨n,hn⟩:=h;exact Trod_stays hl hr hrow ⟨n,hn⟩ (fun x hx=>hb.same (DataW.trod_lt n _ _ _ hn x hx)) hs

theorem Nq {t:TypeId}{fs:Array Field}{ts:List TypeId}{r:Reach}{b0:Nat}{v:Value}{d:DataW H}{p:List MemPlace}(hP:Pn P ts=true)(ht:ts.contains t=true)(hs:P.underlying t=some (.struct fs))(hv:Value.okWide P W r b0 t v)
  (h:DataW.Trod enc P W 0 (fun _=>true) true t v d p) (hb:TC P M t d):∃k XO,Xz P M k t XO∧Rep (Gh.bare fun b o=>sv W b o) (.agg XO) v:=by
 obtain⟨⟨cs⟩,rfl,_⟩:=okWide_struct hs hv;obtain⟨n,hn⟩:=h;obtain⟨XO,h1,h2,_⟩:=Uv hP n t _ _ _ ht hn hb;exact⟨n,XO,h1,.agg h2⟩
theorem Kn {X:Type}{f:X→List AV}{ok:X→Prop}:∀ {l:List (List AV)},(∀c∈l,∃x,ok x∧c=f x)→∃xs:List X,l=xs.map f∧∀x∈xs,ok x
 | [],_=>⟨[],rfl,by simp⟩
 |c :: l,h=>by
  obtain⟨x,hx,rfl⟩:=h c (by simp);obtain⟨xs,rfl,hxs⟩:=Kn (l:=l) fun c hc=>h c (by simp[hc])
  exact⟨x :: xs,rfl,by simpa using ⟨hx,hxs⟩⟩

end

end Go.Proofs.YtfgchfdkiomfpaaGreat.Br

namespace Go.Proofs.YtfgchfdkiomfpaaGreat.Br
open Go Am

section
variable {P:Program}{M k:Nat}{t:TypeId}{cs:List AV}

theorem ZH {ik:IntKind}(hu:P.underlying t=some (.int ik))(h:Xz P M k t cs):∃n,cs=[.int ik n]∧(Lit.int ik n).wf=true:=by
 cases k with
 |zero=>cases h
 |succ k=>simpa only [Xz,hu]using h

theorem RP (hu:P.underlying t=some .bool)(h:Xz P M k t cs):∃b,cs=[.bool b]:=by
 cases k with
 |zero=>cases h
 |succ k=>simpa only [Xz,hu]using h

theorem KW (hu:P.underlying t=some .string)(h:Xz P M k t cs):∃s,cs=[.str s]∧s.length≤M:=by
 cases k with
 |zero=>cases h
 |succ k=>simpa only [Xz,hu]using h

theorem JA {e:TypeId}(hu:P.underlying t=some (.slice e))(h:Xz P M k t cs):∃(k':Nat) (l:List (List AV)),cs=[.list (l.map ZK)]∧l.length≤maxLen∧∀c∈l,Xz P M k' e c:=by
 cases k with
 |zero=>cases h
 |succ k=>
  simp only[Xz,hu]at h;obtain⟨l,h1,h2,h3,_⟩:=h;exact⟨k,l,h1,h2.1,h3⟩

theorem Wz {e:TypeId}(hu:P.underlying t=some (.slice e))(h:Xz P M k t cs):∃(k':Nat) (l:List (List AV)),cs=[.list (l.map ZK)]∧l.length≤M∧∀c∈l,Xz P M k' e c:=by
 cases k with
 |zero=>cases h
 |succ k=>
  simp only[Xz,hu]at h;obtain⟨l,h1,_,h3,h4⟩:=h;exact⟨k,l,h1,h4,h3⟩

theorem ZL {fs:Array Field}(hu:P.underlying t=some (.struct fs))(h:Xz P M k t cs):∃k',Xz.HasL (Xz P M k') fs.toList cs:=by
 cases k with
 |zero=>cases h
 |succ k=>
  simp only[Xz,hu]at h;exact⟨k,h⟩

end

structure PO where
 num:Int
 name:List UInt8
 alias:List UInt8
 card:Int
 key:Int
 kind:Int
 target:Int
 union:Int

def PO.cells (o:PO):List AV:=[.int .i64 o.num,.str o.name,.str o.alias,.int .i64 o.card,.int .i64 o.key,.int .i64 o.kind,.int .i64 o.target,.int .i64 o.union]

structure PO.ok (M:Nat)(o:PO):Prop where
 num:(Lit.int .i64 o.num).wf=true
 name:o.name.length≤M
 alias:o.alias.length≤M
 card:(Lit.int .i64 o.card).wf=true
 key:(Lit.int .i64 o.key).wf=true
 kind:(Lit.int .i64 o.kind).wf=true
 target:(Lit.int .i64 o.target).wf=true
 union:(Lit.int .i64 o.union).wf=true

theorem Qr9 {M k:Nat}{cs:List AV}(h:Xz Tryz.prog M k 51 cs):∃o:PO,o.ok M∧cs=o.cells:=by
 obtain⟨k,h⟩:=ZL Tryz.underlying51 h;simp only[Xz.HasL]at h;obtain⟨_,_,rfl,h0,_,_,rfl,h1,_,_,rfl,h2,_,_,rfl,h3,_,_,rfl,h4,_,_,rfl,h5,_,_,rfl,h6,_,_,rfl,h7,rfl⟩:=h;obtain⟨a0,rfl,w0⟩:=ZH Tryz.underlying3 h0;obtain⟨a1,rfl,w1⟩:=KW Tryz.underlying9 h1;obtain⟨a2,rfl,w2⟩:=KW Tryz.underlying9 h2;obtain⟨a3,rfl,w3⟩:=ZH Tryz.underlying3 h3;obtain⟨a4,rfl,w4⟩:=ZH Tryz.underlying3 h4;obtain⟨a5,rfl,w5⟩:=ZH Tryz.underlying3 h5;obtain⟨a6,rfl,w6⟩:=ZH Tryz.underlying3 h6;obtain⟨a7,rfl,w7⟩:=ZH Tryz.underlying3 h7;exact⟨⟨a0,a1,a2,a3,a4,a5,a6,a7⟩,⟨w0,w1,w2,w3,w4,w5,w6,w7⟩,rfl⟩

structure PG where
 name:List UInt8
 ops:List PO
 unions:Int

def PG.cells (g:PG):List AV:=[.str g.name,.list (g.ops.map fun o=>.agg o.cells),.int .i64 g.unions]

structure PG.ok (M:Nat)(g:PG):Prop where
 name:g.name.length≤M
 len:g.ops.length≤maxLen
 ops:∀o∈g.ops,o.ok M
 unions:(Lit.int .i64 g.unions).wf=true

theorem RQ {M k:Nat}{cs:List AV}(h:Xz Tryz.prog M k 54 cs):∃g:PG,g.ok M∧cs=g.cells:=by
 obtain⟨k,h⟩:=ZL Tryz.underlying54 h;simp only[Xz.HasL]at h;obtain⟨_,_,rfl,h0,_,_,rfl,h1,_,_,rfl,h2,rfl⟩:=h;obtain⟨a0,rfl,w0⟩:=KW Tryz.underlying9 h0;obtain⟨k',l,rfl,w1,hl⟩:=JA Tryz.underlying52 h1;obtain⟨a2,rfl,w2⟩:=ZH Tryz.underlying3 h2;obtain⟨ops,rfl,hok⟩:=Kn (f:=PO.cells) (ok:=PO.ok M) fun c hc=>Qr9 (hl c hc)
 refine⟨⟨a0,ops,a2⟩,⟨w0,by simpa using w1,hok,w2⟩,?_⟩;simp only[PG.cells,List.map_map,QO0,QO1];rfl

structure PS where
 lo:Int
 hi:Int

def PS.cells (x:PS):List AV:=[.int .i64 x.lo,.int .i64 x.hi]
def PS.ok (x:PS):Prop:=(Lit.int .i64 x.lo).wf=true∧(Lit.int .i64 x.hi).wf=true

theorem RS {M k:Nat}{cs:List AV}(h:Xz Tryz.prog M k 106 cs):∃x:PS,x.ok∧cs=x.cells:=by
 obtain⟨k,h⟩:=ZL Tryz.underlying106 h;simp only[Xz.HasL]at h;obtain⟨_,_,rfl,h0,_,_,rfl,h1,rfl⟩:=h;obtain⟨a0,rfl,w0⟩:=ZH Tryz.underlying3 h0;obtain⟨a1,rfl,w1⟩:=ZH Tryz.underlying3 h1;exact⟨⟨a0,a1⟩,⟨w0,w1⟩,rfl⟩

structure PN where
 name:List UInt8
 val:List AV

def PN.cells (x:PN):List AV:=.str x.name :: x.val
def PN.ok (P:Program)(M:Nat)(t:TypeId)(x:PN):Prop:=x.name.length≤M∧∃k,Xz P M k t x.val

theorem Bc {M k:Nat}{cs:List AV}(h:Xz Tryz.prog M k 108 cs):∃x:PN,x.ok Tryz.prog M 35∧cs=x.cells:=by
 obtain⟨k,h⟩:=ZL Tryz.underlying108 h;simp only[Xz.HasL]at h;obtain⟨_,_,rfl,h0,a1,_,rfl,h1,rfl⟩:=h;obtain⟨a0,rfl,w0⟩:=KW Tryz.underlying9 h0;exact⟨⟨a0,a1⟩,⟨w0,k,h1⟩,by simp[PN.cells]⟩

structure PI where
 name:List UInt8
 num:Int
 notes:List PN

def PI.cells (x:PI):List AV:=[.str x.name,.int .i64 x.num,.list (x.notes.map fun n=>ZK n.cells)]

structure PI.ok (M:Nat)(x:PI):Prop where
 name:x.name.length≤M
 num:(Lit.int .i64 x.num).wf=true
 len:x.notes.length≤maxLen
 notes:∀n∈x.notes,n.ok Tryz.prog M 35

theorem RT {M k:Nat}{cs:List AV}(h:Xz Tryz.prog M k 103 cs):∃x:PI,x.ok M∧cs=x.cells:=by
 obtain⟨k,h⟩:=ZL Tryz.underlying103 h;simp only[Xz.HasL]at h;obtain⟨_,_,rfl,h0,_,_,rfl,h1,_,_,rfl,h2,rfl⟩:=h;obtain⟨a0,rfl,w0⟩:=KW Tryz.underlying9 h0;obtain⟨a1,rfl,w1⟩:=ZH Tryz.underlying3 h1;obtain⟨k',l,rfl,w2,hl⟩:=JA Tryz.underlying98 h2;obtain⟨ns,rfl,hok⟩:=Kn (f:=PN.cells) (ok:=PN.ok Tryz.prog M 35) fun c hc=>Bc (hl c hc)
 refine⟨⟨a0,a1,ns⟩,⟨w0,w1,by simpa using w2,hok⟩,?_⟩;simp only[PI.cells,List.map_map,QO0,QO1];rfl

structure PE where
 name:List UInt8
 opn:Bool
 items:List PI
 free:List PS
 notes:List PN

def PE.cells (x:PE):List AV:=[.str x.name,.bool x.opn,.list (x.items.map fun n=>.agg n.cells),.list (x.free.map fun n=>.agg n.cells),.list (x.notes.map fun n=>ZK n.cells)]

structure PE.ok (M:Nat)(x:PE):Prop where
 name:x.name.length≤M
 len1:x.items.length≤maxLen
 items:∀n∈x.items,n.ok M
 len2:x.free.length≤maxLen
 free:∀n∈x.free,n.ok
 len3:x.notes.length≤maxLen
 notes:∀n∈x.notes,n.ok Tryz.prog M 35

theorem RU {M k:Nat}{cs:List AV}(h:Xz Tryz.prog M k 100 cs):∃x:PE,x.ok M∧cs=x.cells:=by
 obtain⟨k,h⟩:=ZL Tryz.underlying100 h;simp only[Xz.HasL]at h;obtain⟨_,_,rfl,h0,_,_,rfl,h1,_,_,rfl,h2,_,_,rfl,h3,_,_,rfl,h4,rfl⟩:=h;obtain⟨a0,rfl,w0⟩:=KW Tryz.underlying9 h0;obtain⟨a1,rfl⟩:=RP Tryz.underlying4 h1;obtain⟨k2,l2,rfl,w2,hl2⟩:=JA Tryz.underlying96 h2;obtain⟨k3,l3,rfl,w3,hl3⟩:=JA Tryz.underlying97 h3;obtain⟨k4,l4,rfl,w4,hl4⟩:=JA Tryz.underlying98 h4;obtain⟨x2,rfl,o2⟩:=Kn (f:=PI.cells) (ok:=PI.ok M) fun c hc=>RT (hl2 c hc)
 obtain⟨x3,rfl,o3⟩:=Kn (f:=PS.cells) (ok:=PS.ok) fun c hc=>RS (hl3 c hc)
 obtain⟨x4,rfl,o4⟩:=Kn (f:=PN.cells) (ok:=PN.ok Tryz.prog M 35) fun c hc=>Bc (hl4 c hc)
 refine⟨⟨a0,a1,x2,x3,x4⟩,⟨w0,by simpa using w2,o2,by simpa using w3,o3,by simpa using w4,o4⟩,?_⟩;simp only[PE.cells,List.map_map,QO0,QO1];rfl

structure PL where
 progs:List PG
 enums:List PE

def PL.av (p:PL):AV:=.agg [.list (p.progs.map fun n=>.agg n.cells),.list (p.enums.map fun n=>.agg n.cells)]

structure PL.ok (M:Nat)(x:PL):Prop where
 len1:x.progs.length≤maxLen
 progs:∀n∈x.progs,n.ok M
 len2:x.enums.length≤maxLen
 enums:∀n∈x.enums,n.ok M

theorem RV {M k:Nat}{cs:List AV}(h:Xz Tryz.prog M k 25 cs):∃x:PL,x.ok M∧.agg cs=x.av:=by
 obtain⟨k,h⟩:=ZL Tryz.underlying25 h;simp only[Xz.HasL]at h;obtain⟨_,_,rfl,h0,_,_,rfl,h1,rfl⟩:=h;obtain⟨k2,l2,rfl,w2,hl2⟩:=JA Tryz.underlying22 h0;obtain⟨k3,l3,rfl,w3,hl3⟩:=JA Tryz.underlying23 h1;obtain⟨x2,rfl,o2⟩:=Kn (f:=PG.cells) (ok:=PG.ok M) fun c hc=>RQ (hl2 c hc)
 obtain⟨x3,rfl,o3⟩:=Kn (f:=PE.cells) (ok:=PE.ok M) fun c hc=>RU (hl3 c hc)
 refine⟨⟨x2,x3⟩,⟨by simpa using w2,o2,by simpa using w3,o3⟩,?_⟩;simp only[PL.av,List.map_map,QO0,QO1];rfl

end Go.Proofs.YtfgchfdkiomfpaaGreat.Br

namespace Go.Proofs.YtfgchfdkiomfpaaGreat.Va
open Go Am Rc Bt Br

def Zx {α:Type}(p:α→Bool):List α→Nat→Int
 | [],_=>-1
 |x :: l,i=>if p x=true then(i:Int)else Zx p l (i+1)

theorem YT {α:Type}(p:α→Bool):∀(l:List α) (i:Nat),(Zx p l i = -1∧l.find? p=none)∨∃k o,Zx p l i=((i+k:Nat):Int)∧l[k]? = some o∧l.find? p=some o
 | [],_=>.inl ⟨rfl,rfl⟩
 |x :: l,i=>by
  unfold Zx;rw[QQs];cases h:p x with
  |true=>exact .inr ⟨0,x,by simp,rfl,rfl⟩
  |false=>
   simp only[QOX,if_false];rcases YT p l (i+1)with h'|⟨k,o,h1,h2,h3⟩
   ·exact .inl h'
   ·exact .inr ⟨k+1,o,by rw[h1];congr 1;omega,by simpa using h2,h3⟩

theorem YU {α:Type}(p:α→Bool){l:List α}{i:Nat}{x:α}(hx:l[i]? = some x):Zx p (l.drop i) i=if p x=true then(i:Int)else Zx p (l.drop (i+1)) (i+1):=by
 have hlt:i<l.length:=(QOG.1 hx).1;rw[QPo hlt,show l[i]=x from(QOG.1 hx).2];rfl

def Qy (o:PO):AV:=.agg o.cells
def Qp (g:PG):AV:=.agg g.cells
def Uw (x:PI):AV:=.agg x.cells
def QV (x:PE):AV:=.agg x.cells

section ops
variable (L:List PO)(hl:L.length≤maxLen)(p:PO→Bool)(c:Nat)(cap:AV)(m:Qh)

def IxO (k:Nat)(st:St):Prop :=
 ∃f i,st=⟨f,QD :: m,[]⟩∧k=L.length-i∧Zx p L 0=Zx p (L.drop i) i∧f 0=.list (L.map Qy)∧f 1=.fn (.func c) [] [cap.sh]∧f 7=.int .i64 (L.length:Nat)∧f 8=.int .i64 (i:Nat)

include hl in
theorem QJr (hc:∀o∈L,Qu Tryz.prog c [Qy o,cap.sh] (QD :: m) fun y m1=>y=.bool (p o)∧m1=QD :: m) :
  Qu Tryz.prog 156 [.list (L.map Qy),.fn (.func c) [] [cap]] m fun y m1=>y=.int .i64 (Zx p L 0)∧m1=m:=by
 refine Qe5.go (by simp) ?_;simp only[QPz,Qb,seval];refine Qg (IxO L p c cap m) _ ⟨_,0,rfl,rfl,rfl,(by rfl),(by rfl),(by rfl),(by rfl)⟩ ?_;rintro _ st ⟨f,i,rfl,rfl,hx,h0,h1,h7,h8⟩;simp only[h7,h8,Qb,seval];by_cases hlt:i<L.length
 ·obtain⟨x,hi⟩:∃x,L[i]? = some x:=⟨L[i],QOH hlt⟩;have hcl:=hc x (QOR hi);have hg:(L.map Qy)[i]? = some (Qy x):=by simp[hi]
  have e1:=Qx i _ hlt hl;simp only[Qy,PO.cells]at hcl;simp only[Qt hlt,Qm,QP7,Qf,hg,Qy,PO.cells,h0,h1,h8,eE,seval];refine YS (fa:=[]) (fb:=[cap.sh]) (by rfl) hcl (by simp only[QPc,QPG,QO1,QO0,Qb,seval]) ?_;rw[YU p hi]at hx;cases hp:p x
  ·rw[hp]at hx;simp only[QOX,if_false]at hx;simp only[h8,e1,Qb,seval];exact⟨L.length-(i+1),by omega,_,i+1,rfl,rfl,hx,(by exact h0),(by exact h1),(by exact h7),(by rfl)⟩
  ·rw[hp]at hx;simp only[if_true]at hx;simp only[hx,Qb,seval]
 ·have hx':Zx p L 0 = -1:=by rw[hx,QPh (by omega)];rfl
  simp only[QS hlt,hx',Qb,seval]

end ops

def N5:PO:=⟨0,[],[],0,0,0,0,0⟩
def Gt (p:PO→Bool)(L:List PO):AV:=.tup [Qy ((L.find? p).getD N5),.bool (L.find? p).isSome]

theorem QJs (g:PG)(hl:g.ops.length≤maxLen)(p:PO→Bool)(c:Nat)(cap:AV)(m:Qh)(hc:∀fr,∀o∈g.ops,Qu Tryz.prog c [Qy o,cap.sh.sh] (QD :: fr :: m) fun y m1=>y=.bool (p o)∧m1=QD :: fr :: m) :
  Qu Tryz.prog 101 [.agg [.fn (.func c) [] [cap]],Qp g] m fun y m1=>y=Gt p g.ops∧m1=m:=by
 refine Qct.go (by simp) ?_;simp only[Qp,PG.cells,eE,seval];refine QU (QJr g.ops hl p c cap.sh _ fun o ho=>hc _ o ho) (by simp only[QPc,QPG,Qb,seval];rfl) ?_;rcases YT p g.ops 0 with⟨h1,h2⟩|⟨j,o,h1,h2,h3⟩
 ·simp only[h1,Gt,h2,QQh,QPv,N5,Qy,PO.cells,splice,QPN,QO1,QPg,QPn,QPT,QPI,QOT,QPA,QPQ,QPR,AV.leaf,eE,seval]
 ·have hj:(g.ops.map fun o=>AV.agg o.cells)[j]? = some (.agg o.cells):=by simp[h2]
  have d:decide ((j:Int)<0)=false:=QQt (by omega);rw[QPm]at h1;simp only[PO.cells]at hj;simp only[h1,d,Qm,QP7,Qf,QPm,hj,Gt,h3,QPP,QQu,Qy,PO.cells,splice,QPN,QO1,QPg,QPn,QPT,QPI,QOT,QPA,QPQ,QPR,AV.leaf,eE,seval]

section
variable (o:PO)(fr frO:Nat→Ob)

theorem QJt (n:Int)(hf:frO 3=.cells [.int .i64 n]):Qu Tryz.prog 100 [Qy o,.ptr 2 3 0] [QD,fr,frO] fun y m1=>y=.bool (o.num==n)∧m1=[QD,fr,frO]:=by
 refine Qcl.go (by simp) ?_;simp only[hf,Qy,PO.cells,eE,seval]

end

theorem y55 (g:PG)(hl:g.ops.length≤maxLen)(n:Int):Qj Tryz.prog 55 [Qp g,.int .i64 n] (Gt (fun o=>o.num==n) g.ops):=by
 refine k55.fn (by simp) ?_;simp only[Qp,PG.cells,eE,seval];refine QU (QJs g hl (fun o=>o.num==n) 100 (.ptr 0 3 0) _ fun fr o _=>QJt o fr _ n (by rfl)) (by simp only[QPc,QPG,Qp,PG.cells,Qb,seval]) ?_;simp only[Gt,Qy,PO.cells,splice,QPN,QO1,QPg,QPn,QPT,QPI,QOT,QPA,QPQ,QPR,AV.leaf,eE,seval]

def QM (p:Nat→Bool):Nat→Bool
 |0=>true
 |n+1=>QM p n&&p n

theorem ZQ {p:Nat→Bool}{n:Nat}:QM p n=true↔∀i,i<n→p i=true:=by
 induction n with
 |zero=>simp[QM]
 |succ n ih=>
  simp only[QM,QO2,ih]
  constructor
  ·rintro⟨h1,h2⟩ i hi;rcases Nat.lt_succ_iff_lt_or_eq.1 hi with h|rfl
   ·exact h1 i h
   ·exact h2
  ·intro h;exact⟨fun i hi=>h i (by omega),h n (by omega)⟩

theorem HC {p q:Nat→Bool}{n:Nat}:QM (fun i=>p i&&q i) n=(QM p n&&QM q n):=by
 induction n with
 |zero=>rfl
 |succ n ih=>
  simp only[QM,ih];cases QM p n<;>cases QM q n<;>cases p n<;>cases q n<;>rfl

def Hm {α:Type}(l:List α)(q:α→Bool)(i:Nat):Bool:=match l[i]? with
 |some x=>q x
 |none=>true

theorem Ux {α:Type}{l:List α}{q:α→Bool}{i:Nat}{x:α}(h:l[i]? = some x):Hm l q i=q x:=by
 unfold Hm;rw[h]

theorem HD {α:Type}(l:List α)(q:α→Bool):QM (Hm l q) l.length=l.all q:=by
 rw[QQv,ZQ,QOQ]
 constructor
 ·intro h x hx;obtain⟨i,hi⟩:=QOP.1 hx;have:=h i (QOG.1 hi).1
  rwa [Ux hi]at this
 ·intro h i hi;rw[Ux (QOH hi)];exact h _ (QPx _)

def Za {α:Type}(l:List α)(lt:α→α→Bool)(i:Nat):Bool:=match i with
 |0=>true
 |k+1=>match l[k]?,l[k+1]? with
  |some x,some y=>lt x y
  |_,_=>true

theorem Yx {α:Type}{l:List α}{lt:α→α→Bool}{k:Nat}{x y:α}(h:l[k]? = some x)(h':l[k+1]? = some y):Za l lt (k+1)=lt x y:=by
 unfold Za;simp only[h,h']
theorem HE {α:Type}{l:List α}{lt:α→α→Bool}:Za l lt 0=true:=rfl

def JU {α:Type}(l:List α)(lt:α→α→Bool):Bool:=QM (Za l lt) l.length

def uniq {α:Type}(l:List α)(nm:α→List UInt8)(i:Nat):Bool:=match l[i]? with
 |some x=>(l.take i).all fun y=>!(nm y==nm x)
 |none=>true
theorem N6 {α:Type}{l:List α}{nm:α→List UInt8}{i:Nat}{x:α}(h:l[i]? = some x):uniq l nm i=(l.take i).all fun y=>!(nm y==nm x):=by
 unfold uniq;rw[h]
def Dl {α:Type}(l:List α)(nm:α→List UInt8):Bool:=QM (uniq l nm) l.length

theorem Xj {α:Type}{l:List α}{q:α→Bool}{i:Nat}{x:α}(h:l[i]? = some x):(l.take (i+1)).all q=((l.take i).all q&&q x):=by
 rw[QQr,h];simp
theorem RX {α:Type}{l:List α}{q:α→Bool}{i:Nat}{x:α}(h:l[i]? = some x):(l.take (i+1)).any q=((l.take i).any q||q x):=by
 rw[QQr,h];simp
def Yy (c:UInt8):Bool:=(decide (97≤c.toNat)&&decide (c.toNat≤122))||(decide (65≤c.toNat)&&decide (c.toNat≤90))
def WA (c:UInt8):Bool:=Yy c||c.toNat==95||(decide (48≤c.toNat)&&decide (c.toNat≤57))
def XJ:List UInt8→Bool
 | []=>false
 |c :: t=>decide ((c :: t).length≤40)&&Yy c&&t.all WA
def Ci:List (List UInt8):=[[109,101,115,115,97,103,101],[101,110,117,109],[115,101,114,118,105,99,101],[117,110,105,111,110],[109,97,112],[108,105,115,116],[114,101,113,117,105,114,101,100],[111,112,116,105,111,110,97,108],[112,108,97,105,110],[100,101,102,97,117,108,116],[114,101,115,101,114,118,101,100],
 [105,109,112,111,114,116],[115,112,97,99,101],[114,112,99],[115,116,114,101,97,109],[114,101,116,117,114,110,115],[111,112,101,110],[116,114,117,101],[102,97,108,115,101],[110,97,110],[105,110,102]]
def J4 (s:List UInt8):Bool:=Ci.any fun w=>s==w
def Zt (s:List UInt8):Bool:=XJ s && !J4 s
def QK:List UInt8→List (List UInt8)
 | []=>[[]]
 |c :: t=>if c=46 then [] :: QK t else match QK t with
  | []=>[[c]]
  |p :: ps=>(c :: p) :: ps
def Yn (s:List UInt8):Bool:=decide (s.length≤120)&&(QK s).all XJ && !(QK s).any J4

theorem HF:∀s:List UInt8,QK s≠[]
 | []=>by simp[QK]
 |c :: t=>by
  unfold QK;split
  ·simp
  ·split<;>simp

theorem DQ (a:List UInt8):∀s:List UInt8,(∀c∈a,c≠46)→QK (a++s)=match QK s with
  | []=>[a]
  |p :: ps=>(a++p) :: ps:=by
 induction a with
 |nil=>intro s _;cases h:QK s with
  |nil=>exact absurd h (HF s)
  |cons p ps=>simp[h]
 |cons c a ih=>
  intro s h;have hc:c≠46:=h c (by simp);rw[QO0,QK,QOS hc,ih s fun x hx=>h x (by simp[hx])];cases hs:QK s with
  |nil=>exact absurd hs (HF s)
  |cons p ps=>rfl

theorem Uy {s:List UInt8}(h:∀c∈s,c≠46):QK s=[s]:=by
 have:=DQ s [] h
 simpa [QK]using this

theorem Cj {a t:List UInt8}(h:∀c∈a,c≠46):QK (a++46 :: t)=a :: QK t:=by
 rw[DQ a _ h,QK,QO9 rfl];simp

theorem Gu {a t:List UInt8}(h:∀c∈t,c≠46):QK (a++46 :: t)=QK a++[t]:=by
 induction a with
 |nil=>
  show QK (46 :: t)=[[]]++[t];rw[show QK (46 :: t)=[] :: QK t from by rw[QK,QO9 rfl],Uy h];rfl
 |cons c a ih=>
  rw[QO0,QK,QK,ih];split
  ·rfl
  ·cases hs:QK a with
   |nil=>exact absurd hs (HF a)
   |cons p ps=>rfl

def KX (g:PG):Bool:=decide (g.ops.length≤64)
def KY (e:PE):Bool:=decide (1≤e.items.length)&&decide (e.items.length≤64)&&decide (e.free.length≤16)
def Bd (P:PL):Bool:=decide (P.progs.length≤64)&&decide (P.enums.length≤64)&&P.progs.all KX&&P.enums.all KY
def YV (g:PG):Bool:=Yn g.name&&g.ops.all fun o=>Zt o.name
def YW (e:PE):Bool:=Yn e.name&&e.items.all fun o=>Zt o.name
def TD (P:PL):Bool:=P.progs.all YV&&P.enums.all YW
def Jr {α:Type}(f:α→Int)(x y:α):Bool:=decide (f x<f y)
def ZF {α:Type}(f:α→List UInt8)(x y:α):Bool:=Op.bytesLess (f x) (f y)
def KZ (g:PG):Bool:=JU g.ops (Jr PO.num)
def Wn (e:PE):Bool:=JU e.items (Jr PI.num)
def Be (P:PL):Bool:=JU P.progs (ZF PG.name)&&JU P.enums (ZF PE.name)&&P.progs.all KZ&&P.enums.all Wn
def Uz (P:PL)(g:PG):Bool:=(P.enums.all fun e=>!(e.name==g.name))&&Dl g.ops PO.name
def UA (e:PE):Bool:=Dl e.items PI.name
def TE (P:PL):Bool:=P.progs.all (Uz P)&&P.enums.all UA
def JY (o:PO):Bool:=decide (o.num≥1)&&decide (o.num≤65535)
def N7 (x:PS):Bool:=decide (x.lo≥0)&&decide (x.hi≤2147483647)&&decide (x.lo≤x.hi)
def Gv (x y:PS):Bool:=decide (y.lo > x.hi)
def kept (l:List PS)(n:Int):Bool:=l.any fun x=>decide (x.lo≤n)&&decide (n≤x.hi)
def Dm (e:PE)(x:PI):Bool:=decide (x.num≤2147483647) && !kept e.free x.num
def HG (e:PE):Bool:=match e.items with
 | []=>true
 |x :: _=>x.num==0
def WS (e:PE):Bool:=e.free.all N7&&JU e.free Gv&&HG e&&e.items.all (Dm e)
def TF (P:PL):Bool:=P.progs.all (fun g=>g.ops.all JY)&&P.enums.all WS

def HH (x:PS):AV:=.agg x.cells
theorem Dn (k n:Nat)(h:k+1<n)(hn:n≤maxLen):IntKind.i64.wrap (((k+1:Nat):Int)-1)=(k:Int):=by
 rw[QA];simp only[maxLen]at hn;omega

section
variable (L:List PG)(hl:L.length≤maxLen)(p:PG→Bool)(c:Nat)(cs:List AV)(m:Qh)

end

section
variable (L:List PO)(hl:L.length≤maxLen)(p:PO→Bool)(c:Nat)(cs:List AV)(m:Qh)

end

section
variable (L:List PE)(hl:L.length≤maxLen)(p:PE→Bool)(c:Nat)(cs:List AV)(m:Qh)

end

section
variable (L:List PI)(hl:L.length≤maxLen)(p:PI→Bool)(c:Nat)(cs:List AV)(m:Qh)

end

section
variable (L:List PS)(hl:L.length≤maxLen)(p:PS→Bool)(c:Nat)(cs:List AV)(m:Qh)

end

section
variable (L:List (List UInt8))(hl:L.length≤maxLen)(p:(List UInt8)→Bool)(c:Nat)(cs:List AV)(m:Qh)

end

section
variable (L:List PG)(hl:L.length≤maxLen)(lt:PG→PG→Bool)(c:Nat)(cs:List AV)(m:Qh)

end

section
variable (L:List PO)(hl:L.length≤maxLen)(lt:PO→PO→Bool)(c:Nat)(cs:List AV)(m:Qh)

end

section
variable (L:List PE)(hl:L.length≤maxLen)(lt:PE→PE→Bool)(c:Nat)(cs:List AV)(m:Qh)

end

section
variable (L:List PI)(hl:L.length≤maxLen)(lt:PI→PI→Bool)(c:Nat)(cs:List AV)(m:Qh)

end

def cl (c:Nat):Int:=if 97≤c∧c≤122 then 1 else if 65≤c∧c≤90 then 2 else if 48≤c∧c≤57 then 3 else if c=95 then 4 else 0

def pq (s:List UInt8)(j:Nat):Bool:=match s[j]? with
 |some c=>if j=0 then Yy c else WA c
 |none=>true
theorem U1 {s:List UInt8}{j:Nat}{c:UInt8}(h:s[j]? = some c):pq s j=if j=0 then Yy c else WA c:=by
 unfold pq;rw[h]

theorem UB (s:List UInt8):XJ s=(decide (1≤s.length)&&decide (s.length≤40)&&QM (pq s) s.length):=by
 cases s with
 |nil=>rfl
 |cons c t=>
  have h1:decide (1≤(c :: t).length)=true:=by simp
  rw[h1,QQk];show(decide ((c :: t).length≤40)&&Yy c&&t.all WA)=_;rw[QPq];congr 1
  rw[QQv,QO2,ZQ,QOQ]
  constructor
  ·rintro⟨h2,h3⟩ i hi;cases i with
   |zero=>rw[U1 (c:=c) rfl,QO9 rfl];exact h2
   |succ i=>
    have hlt:i<t.length:=by simpa using hi
    rw[U1 (c:=t[i]) (by simp[QOH hlt]),QOS (by omega)];exact h3 _ (QPx _)
  ·intro h;refine⟨?_,fun x hx=>?_⟩
   ·have:=h 0 (by simp)
    rwa [U1 (c:=c) rfl,QO9 rfl]at this
   ·obtain⟨i,hi⟩:=QOP.1 hx;have hlt:=(QOG.1 hi).1;have:=h (i+1) (by simpa using hlt)
    rwa [U1 (c:=x) (by simpa using hi),QOS (by omega)]at this

def Bf (c:UInt8):Bool:=decide (97≤c.toNat)&&decide (c.toNat≤122)
def Bg (c:UInt8):Bool:=decide (65≤c.toNat)&&decide (c.toNat≤90)

theorem Qsa (c:UInt8):Qj Tryz.prog 167 [.int .u8 (c.toNat:Nat)] (.bool (Bf c)):=by
 refine QHo.fn (by simp) ?_;have e1:decide ((c.toNat:Int)≥97)=decide (97≤c.toNat):=by rw[decide_eq_decide];omega
 have e2:decide ((c.toNat:Int)≤122)=decide (c.toNat≤122):=by rw[decide_eq_decide];omega
 simp only[e1,Bf,Qb,seval];cases h:decide (97≤c.toNat)<;>simp only[e2,QQk,QQa,Qb,seval]

theorem Qsb (c:UInt8):Qj Tryz.prog 168 [.int .u8 (c.toNat:Nat)] (.bool (Bg c)):=by
 refine QHl.fn (by simp) ?_;have e1:decide ((c.toNat:Int)≥65)=decide (65≤c.toNat):=by rw[decide_eq_decide];omega
 have e2:decide ((c.toNat:Int)≤90)=decide (c.toNat≤90):=by rw[decide_eq_decide];omega
 simp only[e1,Bg,Qb,seval];cases h:decide (65≤c.toNat)<;>simp only[e2,QQk,QQa,Qb,seval]

theorem RY (c:UInt8):WA c=(Bf c||Bg c || !((c.toNat:Int) != 95) || !(decide ((c.toNat:Int)<48)||decide ((c.toNat:Int) > 57))):=by
 unfold WA Yy Bf Bg;generalize c.toNat=x;rw[QQv];simp only[QPE,QO2,QP1,QO5,QPC,bne_eq_false_iff_eq,QPy,QQw];omega

def PrI (s:List UInt8)(k:Nat)(st:St):Prop :=
 ∃f i,st=⟨f,[QD],[]⟩∧k=s.length-i∧1≤i∧QM (pq s) i=true∧f 0=.str s∧f 3=.int .i64 (i:Nat)

theorem RZ (s:List UInt8):Qj Tryz.prog 111 [.str s] (.bool (XJ s)):=by
 refine QHc.fn (by simp) ?_;simp only[Qb,seval];by_cases hl:s.length=0
 ·have d0:((s.length:Int)==0)=true:=by rw[hl];rfl
  have e:XJ s=false:=by rw[UB,hl];rfl
  simp only[d0,e,Qb,seval]
 have d0:((s.length:Int)==0)=false:=by rw[QQp];omega
 by_cases hm:s.length≤40
 case neg=>
  have d1:decide ((s.length:Int) > 40)=true:=QQx (by omega);have e:XJ s=false:=by rw[UB,QQt hm,QQy,QQa]
  simp only[d0,d1,e,Qb,seval]
 have d1:decide ((s.length:Int) > 40)=false:=QQt (by omega);have hp:XJ s=QM (pq s) s.length:=by rw[UB,QQx hm,QQx (by omega:1≤s.length)];rfl
 obtain⟨c,hc⟩:∃c,s[0]? = some c:=⟨s[0]'(by omega),QOH (by omega)⟩;have hq0:QM (pq s) 1=(Bf c||Bg c):=by
  show(true&&pq s 0)=_;rw[U1 hc,QO9 rfl];rfl
 have h1:=Qsa c;have h2:=Qsb c;have hn:QM (pq s) 1=false→XJ s=false:=fun h=>by
  rw[hp,Bool.eq_false_iff];intro h';rw[ZQ.2 fun k hk=>ZQ.1 h' k (by omega)]at h;cases h
 have z1:Int.toNat 0=0:=rfl;have go:QM (pq s) 1=true→∀(f:Fr),f 0=.str s→f 3=.int .i64 1→∀Q:Exit→St→Prop,(∀f,QM (pq s) s.length=true→Q (.exit 0) ⟨f,[QD],[]⟩)→(∀f,f 2=.bool false→QM (pq s) s.length=false→Q .ret ⟨f,[QD],[]⟩)→QJ Tryz.prog (.loop Pj) ⟨f,[QD],[]⟩ Q:=by
  intro hq1 f h0 h3 Q hx hr;refine Qg (PrI s) _ ⟨_,1,rfl,rfl,QOE _,hq1,h0,h3⟩ ?_;clear h0 h3 hc hq0 h1 h2 hn;rintro _ st ⟨f,i,rfl,rfl,h1i,hx1,h0,h3⟩;simp only[h0,h3,Qb,seval];by_cases hlt:i<s.length
  ·obtain⟨c,hc⟩:∃c,s[i]? = some c:=⟨s[i],QOH hlt⟩;have e1:=Qx i _ hlt (by simp only[maxLen];omega);have hs1:=Qsa c;have hs2:=Qsb c;have hstep:QM (pq s) (i+1)=WA c:=by
    rw[QM,hx1,QQk,U1 hc,QOS (by omega)]
   have hend:WA c=false→QM (pq s) s.length=false:=fun h=>by
    rw[Bool.eq_false_iff];intro h';rw[ZQ.2 fun k hk=>ZQ.1 h' k (by omega)]at hstep;rw[h]at hstep;cases hstep
   have fin:∀f':Fr,WA c=true→f' 0=.str s→f' 3=.int .i64 ((i+1:Nat):Int)→∃k,k<s.length-i∧PrI s k ⟨f',[QD],[]⟩:=by
    intro f' hp h0 h3;exact⟨s.length-(i+1),by omega,f',i+1,rfl,rfl,by omega,by rw[hstep,hp],h0,h3⟩
   have hpc:=RY c;simp only[Qt hlt,Qm,QP7,hc,h0,h3,Qb,seval];refine Qa hs1 rfl rfl rfl (.inl rfl) ?_;cases a1:Bf c
   ·simp only[Qm,QP7,hc,h0,h3,QPM,Qb,seval];refine Qa hs2 rfl rfl rfl (.inl rfl) ?_;cases a2:Bg c
    ·cases a3:((c.toNat:Int) != 95)
     ·rw[a1,a2,a3]at hpc;simp only[a3,Qm,QP7,hc,h0,h3,e1,QPM,Qb,seval];exact fin _ (by rw[hpc];rfl) (by exact h0) (by rfl)
     ·cases a4:decide ((c.toNat:Int)<48)
      ·cases a5:decide ((c.toNat:Int) > 57)
       ·rw[a1,a2,a3,a4,a5]at hpc;simp only[a3,a4,a5,Qm,QP7,hc,h0,h3,e1,QPM,Qb,seval];exact fin _ (by rw[hpc];rfl) (by exact h0) (by rfl)
       ·rw[a1,a2,a3,a4,a5]at hpc;simp only[a3,a4,a5,Qm,QP7,hc,h0,h3,QPM,Qb,seval];exact hr _ (by rfl) (hend (by rw[hpc];rfl))
      ·rw[a1,a2,a3,a4]at hpc;simp only[a3,a4,Qm,QP7,hc,h0,h3,QPM,Qb,seval];exact hr _ (by rfl) (hend (by rw[hpc];rfl))
    ·rw[a1,a2]at hpc;simp only[h3,e1,QQl,Qb,seval];exact fin _ (by rw[hpc];rfl) (by exact h0) (by rfl)
   ·rw[a1]at hpc;simp only[h3,e1,QQl,Qb,seval];exact fin _ (by rw[hpc];rfl) (by exact h0) (by rfl)
  ·simp only[QS hlt,Qb,seval];exact hx _ (ZQ.2 fun k hk=>ZQ.1 hx1 k (by omega))
 simp only[d0,d1,z1,hc,Qb,seval];refine Qa h1 rfl rfl rfl (.inl rfl) ?_;cases a1:Bf c
 ·simp only[z1,hc,QPM,Qb,seval];refine Qa h2 rfl rfl rfl (.inl rfl) ?_;cases a2:Bg c
  ·rw[a1,a2]at hq0;simp only[hn hq0,QPM,Qb,seval]
  ·rw[a1,a2]at hq0;simp only[QQl,Qb,seval];refine go hq0 _ (by rfl) (by rfl) _ (fun f h=>?_) (fun f h2 h=>?_)
   ·simp only[hp,h,Qb,seval]
   ·simp only[hp,h,h2,Qb,seval]
 ·rw[a1,QQn]at hq0;simp only[QQl,Qb,seval];refine go hq0 _ (by rfl) (by rfl) _ (fun f h=>?_) (fun f h2 h=>?_)
  ·simp only[hp,h,Qb,seval]
  ·simp only[hp,h,h2,Qb,seval]

theorem Qsc (s:List UInt8):Qj Tryz.prog 110 [.str s] (.bool (J4 s)):=by
 refine QHf.fn (by simp) ?_;simp only[Q2,Qb,seval];have e:J4 s=Ci.any fun w=>s==w:=rfl
 simp only[Ci,List.any_cons,List.any_nil,QQz]at e
 repeat' (first|(refine QI (fun h=>?_) (fun h=>?_)<;>simp only[h,Q2,Qb,seval])|(refine Xk (fun h=>?_) (fun h=>?_)<;>simp only[h,Qk,Q2,eE,seval])|(refine Xl (fun h=>?_) (fun h=>?_)<;>simp only[h,Qk,Q2,eE,seval]))
 all_goals(simp only[*,QQn,Bool.or_true,QQz]at e;simp only[e])

theorem z62 (s:List UInt8):Qj Tryz.prog 62 [.str s] (.bool (Zt s)):=by
 refine k62.fn (by simp) ?_;simp only[Zt,Qb,seval];refine Qa (RZ s) rfl rfl rfl (.inl rfl) ?_;cases XJ s
 ·simp only[QQa,Qb,seval]
 ·simp only[QQk,Qb,seval];refine Qa (Qsc s) rfl rfl rfl (.inl rfl) ?_;simp only[Qb,seval]

def FuI (s:List UInt8)(k:Nat)(st:St):Prop :=
 ∃f i p,st=⟨f,[QD],[]⟩∧k=s.length-i∧i≤s.length∧p.length≤i∧(∀c∈p,c≠(46:UInt8))∧(QK s).all XJ=(QK (p++s.drop i)).all XJ∧f 0=.str s∧f 3=.str p∧f 4=.int .i64 (i:Nat)

theorem QJu (s:List UInt8):Qj Tryz.prog 108 [.str s] (.bool (decide (s.length≤120)&&(QK s).all XJ)):=by
 refine QG9.fn (by simp) ?_;simp only[Qb,seval];by_cases hm:s.length≤120
 case neg=>
  have d1:decide ((s.length:Int) > 120)=true:=QQx (by omega);simp only[d1,QQt hm,QQa,Qb,seval]
 have d1:decide ((s.length:Int) > 120)=false:=QQt (by omega);simp only[d1,QQx hm,QQk,Qb,seval];refine Qg (FuI s) _ ⟨_,0,[],rfl,rfl,QOM _,QOE _,by simp,rfl,(by rfl),(by rfl),(by rfl)⟩ ?_;rintro _ st ⟨f,i,p,rfl,rfl,hi,hpl,hpd,hx,h0,h3,h4⟩;simp only[h0,h4,Qb,seval];by_cases hlt:i<s.length
 ·obtain⟨c,hc⟩:∃c,s[i]? = some c:=⟨s[i],QOH hlt⟩;have e1:=Qx i _ hlt (by simp only[maxLen];omega);have hd:s.drop i=c :: s.drop (i+1):=by
   rw[QPo hlt];congr 1
   exact(QOG.1 hc).2
  have hts:(s.drop i).take (i+1-i)=[c]:=by
   rw[hd,show i+1-i=1 by omega];rfl
  simp only[Qt hlt,Qm,QP7,hc,h0,h4,Qb,seval];by_cases hdot:c=46
  ·subst hdot;have b0:((((46:UInt8).toNat:Nat):Int) != 46)=false:=rfl;have hs:(QK s).all XJ=(XJ p&&(QK (s.drop (i+1))).all XJ):=by
    rw[hx,hd,Cj hpd];rfl
   simp only[h3,Qb,seval];refine Qa (RZ p) rfl rfl rfl (.inl rfl) ?_;cases hp:XJ p
   ·rw[hp,QQa]at hs;simp only[hs,QPM,Qb,seval]
   ·rw[hp,QQk]at hs;simp only[h4,e1,QQl,Qb,seval];exact⟨s.length-(i+1),by omega,_,i+1,[],rfl,rfl,by omega,QOM _,by simp,by rw[hs];rfl,(by exact h0),(by rfl),(by rfl)⟩
  ·have b0:(((c.toNat:Nat):Int) != 46)=true:=by
    rw[QO6];intro h
    apply hdot
    rw[←UInt8.toNat_inj];have:c.toNat=46:=by omega
    rw[this];rfl
   have hle:(i≤i+1∧i+1≤s.length)=True:=eq_true ⟨by omega,by omega⟩;have hsum:(p.length≤9223372036854775806)=True:=eq_true (by omega);simp only[b0,h0,h3,h4,e1,Jh,Jq,Xh,Qm,QP7,hle,hts,Q2,hsum,Qb,seval];exact⟨s.length-(i+1),by omega,_,i+1,p++[c],rfl,rfl,by omega,by simp;omega,fun x hx=>by
    rcases QPX.1 hx with h|h
    ·exact hpd x h
    ·simp at h;subst h;exact hdot,by rw[hx,hd];simp,(by exact h0),(by rfl),(by rfl)⟩
 ·have hx':(QK s).all XJ=XJ p:=by
   rw[hx,QPh (by omega),QPI,Uy hpd];simp
  simp only[QS hlt,h3,hx',Qb,seval];refine Qa (RZ p) rfl rfl rfl (.inl rfl) ?_;simp only[Qb,seval]

def Yo (s:List UInt8):Nat→Option Nat
 |0=>none
 |j+1=>if s[j]? = some 46 then some j else Yo s j

theorem UC (s:List UInt8):∀n,match Yo s n with
  |none=>∀k,k<n→s[k]?≠some 46
  |some j=>j<n∧s[j]? = some 46∧∀k,j<k→k<n→s[k]?≠some 46
 |0=>by simp[Yo]
 |n+1=>by
  unfold Yo;split
  ·rename_i h;split at h
   ·cases h
   ·rename_i h';have:=UC s n;rw[h]at this;intro k hk;rcases Nat.lt_succ_iff_lt_or_eq.1 hk with h1|rfl
    ·exact this k h1
    ·exact h'
  ·rename_i j h;split at h
   ·rename_i h';cases h;exact⟨by omega,h',fun k h1 h2=>by omega⟩
   ·rename_i h';have:=UC s n;rw[h]at this;exact⟨by omega,this.2.1,fun k h1 h2=>by
     rcases Nat.lt_succ_iff_lt_or_eq.1 h2 with h3|rfl
     ·exact this.2.2 k h1 h3
     ·exact h'⟩

def Jb (s:List UInt8):List UInt8×List UInt8:=match Yo s s.length with
 |none=>([],s)
 |some j=>(s.take j,s.drop (j+1))

theorem Bh (s:List UInt8):((Jb s).1=[]∧(Jb s).2=s∧∀c∈s,c≠46)∨(s=(Jb s).1++46 :: (Jb s).2∧∀c∈(Jb s).2,c≠46):=by
 have h:=UC s s.length;unfold Jb;cases hl:Yo s s.length with
 |none=>
  rw[hl]at h;refine .inl ⟨rfl,rfl,fun c hc e=>?_⟩;subst e;obtain⟨k,hk⟩:=QOP.1 hc;exact h k (QOG.1 hk).1 hk
 |some j=>
  rw[hl]at h;obtain⟨h1,h2,h3⟩:=h;refine .inr ⟨?_,fun c hc e=>?_⟩
  ·have:s[j]=46:=(QOG.1 h2).2;show s=s.take j++46 :: s.drop (j+1);rw[←this,←QPo h1,QPV]
  ·subst e;obtain⟨k,hk⟩:=QOP.1 hc;rw[QPk]at hk;exact h3 (j+1+k) (by omega) (QOG.1 hk).1 hk

def SdI (s:List UInt8)(k:Nat)(st:St):Prop :=
 ∃f,st=⟨f,[QD],[]⟩∧k≤s.length∧Yo s s.length=Yo s k∧f 0=.str s∧f 4=.int .i64 ((k:Int)-1)

theorem QJv (s:List UInt8)(hs:s.length≤120):Qj Tryz.prog 109 [.str s] (.tup [.str (Jb s).1,.str (Jb s).2]):=by
 refine QHi.fn (by simp) ?_;have w0:IntKind.i64.wrap ((s.length:Int)-1)=(s.length:Int)-1:=by rw[QA];omega
 simp only[w0,Qb,seval];refine Qg (SdI s) _ ⟨_,rfl,QOE _,rfl,(by rfl),(by rfl)⟩ ?_;rintro k st ⟨f,rfl,hk,hx,h0,h4⟩;simp only[h4,Qb,seval];cases k with
 |zero=>
  have d0:decide (((0:Nat):Int)-1≥0)=false:=rfl;have e:Jb s=([],s):=by unfold Jb;rw[hx];rfl
  simp only[e,h0,Qb,seval]
 |succ j=>
  have j1:((j+1:Nat):Int)-1=(j:Int):=by omega
  have d0:decide (((j:Nat):Int)≥0)=true:=QQx (by omega);have w1:IntKind.i64.wrap ((j:Int)-1)=(j:Int)-1:=by rw[QA];omega
  have w2:IntKind.i64.wrap ((j:Int)+1)=((j+1:Nat):Int):=by rw[QA];omega
  obtain⟨c,hc⟩:∃c,s[j]? = some c:=⟨s[j]'(by omega),QOH (by omega)⟩;simp only[j1,Qm,QP7,hc,h0,h4,Qb,seval];by_cases hdot:c=46
  ·subst hdot;have b0:((((46:UInt8).toNat:Nat):Int)==46)=true:=rfl;have e:Jb s=(s.take j,s.drop (j+1)):=by
    unfold Jb;rw[hx];show(match (if s[j]? = some 46 then some j else Yo s j)with|none=>([],s)|some j=>(s.take j,s.drop (j+1)))=_;rw[QO9 hc]
   have hle:(0≤j∧j≤s.length)=True:=eq_true ⟨by omega,by omega⟩;have hle2:(j+1≤s.length∧s.length≤s.length)=True:=eq_true ⟨by omega,QOE _⟩;have ht:((s.drop 0).take j)=s.take j:=by simp
   have ht2:((s.drop (j+1)).take (s.length-(j+1)))=s.drop (j+1):=QPe (by simp);simp only[w2,j1,e,Jh,Jq,Xh,QPD,Qm,QP7,hle,hle2,ht2,h0,h4,Qb,seval]
  ·have b0:(((c.toNat:Nat):Int)==46)=false:=by
    rw[QQp];intro h
    apply hdot
    rw[←UInt8.toNat_inj];have:c.toNat=46:=by omega
    rw[this];rfl
   have hne:¬s[j]? = some 46:=fun h=>by rw[hc]at h;cases h;exact hdot rfl
   simp only[b0,j1,w1,h4,Qb,seval];exact⟨j,by omega,_,rfl,by omega,by rw[hx];show(if s[j]? = some 46 then some j else Yo s j)=_;rw[QOS hne],(by exact h0),(by rfl)⟩

def Po (u:List UInt8):Bool:=if u=[]then false else(QK u).any J4

def DfI (s:List UInt8)(k:Nat)(st:St):Prop :=
 ∃f u,st=⟨f,[QD],[]⟩∧k=u.length∧u.length≤120∧(u≠[]→(QK u).all XJ=true)∧(QK s).any J4=Po u∧f 0=.str u

theorem z61 (s:List UInt8):Qj Tryz.prog 61 [.str s] (.bool (Yn s)):=by
 refine k61.fn (by simp) ?_;simp only[Yn,Qb,seval];refine Qa (QJu s) rfl rfl rfl (.inl rfl) ?_;cases hf:(decide (s.length≤120)&&(QK s).all XJ)
 ·simp only[QQa,QPM,Qb,seval]
 simp only[QQk,QQl,Qb,seval];obtain⟨hl,ha⟩:=QOI.1 hf;have hl:=of_decide_eq_true hl;have hne:s≠[]:=by
  rintro rfl;cases ha
 refine Qg (DfI s) _ ⟨_,s,rfl,rfl,hl,fun _=>ha,by unfold Po;rw[QOS hne],(by rfl)⟩ ?_;rintro _ st ⟨f,u,rfl,rfl,hul,hua,hx,h0⟩;simp only[h0,Q2,Qb,seval];by_cases hu:u=[]
 ·subst hu;have b0:(!(([]:List UInt8)==[]))=false:=rfl;have e:(QK s).any J4=false:=hx;simp only[b0,e,QPM,Qb,seval]
 ·have b0:(!(u==[]))=true:=by simp[hu]
  simp only[b0,h0,Qb,seval];refine Qa (QJv u hul) rfl rfl rfl (.inl rfl) ?_;simp only[Qb,seval];refine Qa (Qsc (Jb u).2) rfl rfl rfl (.inl rfl) ?_;have hw:Po u=(Po (Jb u).1||J4 (Jb u).2):=by
   unfold Po;rw[QOS hu];rcases Bh u with⟨h1,h2,h3⟩|⟨h1,h2⟩
   ·rw[h1,h2,QO9 rfl,Uy h3];simp
   ·have hp:QK u=QK (Jb u).1++[(Jb u).2]:=by
     conv=>lhs;rw[h1]
     exact Gu h2
    have ha':=hua hu;rw[hp,QPW,QO2]at ha';have hn:(Jb u).1≠[]:=by
     intro h;rw[h]at ha';cases ha'.1
    rw[QOS hn,hp];simp
  cases hq:J4 (Jb u).2
  ·rw[hq,QQz]at hw;simp only[Qb,seval];have hlen:(Jb u).1.length<u.length∧((Jb u).1≠[]→(QK (Jb u).1).all XJ=true):=by
    rcases Bh u with⟨h1,h2,h3⟩|⟨h1,h2⟩
    ·rw[h1];exact⟨QPZ.2 hu,fun h=>absurd rfl h⟩
    ·have hp:QK u=QK (Jb u).1++[(Jb u).2]:=by
      conv=>lhs;rw[h1]
      exact Gu h2
     have ha':=hua hu;rw[hp,QPW,QO2]at ha';refine⟨?_,fun _=>ha'.1⟩;have:=congrArg List.length h1;simp at this;omega
   exact⟨(Jb u).1.length,hlen.1,_,(Jb u).1,rfl,rfl,by omega,hlen.2,by rw[hx,hw],(by rfl)⟩
  ·rw[hq,Bool.or_true]at hw;have e:(QK s).any J4=true:=hx.trans hw;simp only[e,QQl,Qb,seval]

section
variable (m:Qh)

end

section
variable {M:Nat}(P:PL)(hP:P.ok M)(hM:M≤17592186044000)
include hP hM

end

section
variable (L:List PO)(hl:L.length≤maxLen)(nm:PO→List UInt8)(c:Nat)(m:Qh)

end

section
variable (L:List PI)(hl:L.length≤maxLen)(nm:PI→List UInt8)(c:Nat)(m:Qh)

end

section
variable {M:Nat}(P:PL)(hP:P.ok M)
include hP

end

def Gw (l:List PS)(i:Nat):Bool:=Hm l N7 i&&Za l Gv i
theorem LT (l:List PS):QM (Gw l) l.length=(l.all N7&&JU l Gv):=by
 unfold Gw JU;rw[HC,HD]

end Go.Proofs.YtfgchfdkiomfpaaGreat.Va

namespace Go.Proofs.YtfgchfdkiomfpaaGreat.Va
open Go Am Rc Bt

def bt (s:List UInt8)(i lo hi:Nat):Bool :=
 match s[i]? with
 |some b=>decide (lo≤b.toNat)&&decide (b.toNat≤hi)
 |none=>false
def tl (s:List UInt8):Nat→Nat→Bool
 |_,0=>true
 |i,n+1=>bt s i 128 191&&tl s (i+1) n
def DR (s:List UInt8)(i b:Nat):Nat :=
 if b<128 then 1
 else if 194≤b∧b≤223∧tl s (i+1) 1=true then 2
 else if b=224∧bt s (i+1) 160 191=true∧tl s (i+2) 1=true then 3
 else if b=237∧bt s (i+1) 128 159=true∧tl s (i+2) 1=true then 3
 else if 225≤b∧b≤239∧b≠237∧tl s (i+1) 2=true then 3
 else if b=240∧bt s (i+1) 144 191=true∧tl s (i+2) 2=true then 4
 else if 241≤b∧b≤243∧tl s (i+1) 3=true then 4
 else if b=244∧bt s (i+1) 128 143=true∧tl s (i+2) 2=true then 4
 else 0
def sz (s:List UInt8)(i:Nat):Nat :=
 match s[i]? with
 |none=>0
 |some c=>DR s i c.toNat
def Yd (s:List UInt8):Nat→Nat→Int
 |0,_=>-1
 |k+1,i=>if i<s.length then(if sz s i=0 then(i:Int)else Yd s k (i+sz s i))else -1
def Yz (s:List UInt8):Bool:=decide (Yd s s.length 0<0)

theorem QJw (c:UInt8)(n:Nat):decide ((c.toNat:Int)≥(n:Int))=decide (n≤c.toNat):=by simp
theorem QJx (c:UInt8)(n:Nat):decide ((c.toNat:Int)≤(n:Int))=decide (c.toNat≤n):=by simp

theorem Bi (s:List UInt8)(i lo hi:Nat):Qj Tryz.prog 218 [.str s,.int .i64 (i:Nat),.int .u8 (lo:Nat),.int .u8 (hi:Nat)] (.bool (bt s i lo hi)):=by
 refine QGS.fn (by simp) ?_;by_cases hlt:i<s.length
 ·obtain⟨c,hc⟩:∃c,s[i]? = some c:=⟨s[i],QOH hlt⟩;have hb:bt s i lo hi=(decide (lo≤c.toNat)&&decide (c.toNat≤hi)):=by simp only[bt,hc]
  simp only[Qt hlt,Qm,QP7,hc,QJw,Qb,seval];by_cases h1:lo≤c.toNat
  ·have d1:decide (lo≤c.toNat)=true:=by simpa using h1
   simp only[d1,Qm,QP7,hc,hb,QJx,QQk,Qb,seval]
  ·have d1:decide (lo≤c.toNat)=false:=by simpa using h1
   simp only[d1,hb,QQa,Qb,seval]
 ·have hb:bt s i lo hi=false:=by simp only[bt,QP3 (Nat.le_of_not_lt hlt)]
  simp only[QS hlt,hb,Qb,seval]

def QDg (s:List UInt8)(i n:Nat)(k:Nat)(st:St):Prop :=
 ∃f j,st=⟨f,[QD],[]⟩∧k=n-j∧j≤n∧tl s i n=tl s (i+j) (n-j)∧f 0=.str s∧f 1=.int .i64 (i:Nat)∧f 2=.int .i64 (n:Nat)∧f 7=.int .i64 (j:Nat)

theorem JZ (a b:Nat)(h:a+b≤maxLen):IntKind.i64.wrap ((a:Int)+(b:Int))=((a+b:Nat):Int):=by
 simp only[maxLen]at h;rw[QA];omega

theorem HI (s:List UInt8)(i n:Nat)(hi:i+n≤maxLen):Qj Tryz.prog 217 [.str s,.int .i64 (i:Nat),.int .i64 (n:Nat)] (.bool (tl s i n)):=by
 refine QGV.fn (by simp) ?_;simp only[Qb,seval];refine Qg (QDg s i n) _ ⟨_,0,rfl,rfl,QOM _,rfl,rfl,rfl,rfl,rfl⟩ ?_;rintro _ st ⟨f,j,rfl,rfl,hj,ht,h0,h1,h2,h7⟩;simp only[h2,h7,Qb,seval];by_cases hlt:j<n
 ·have e0:=JZ i j (by omega);have e1:=Qx j _ hlt (by omega);simp only[Qt hlt,h0,h1,h7,e0,Qb,seval];refine Qa (Bi s (i+j) 128 191) rfl rfl rfl (.inl rfl) ?_;have hs:tl s i n=(bt s (i+j) 128 191&&tl s (i+(j+1)) (n-(j+1))):=by
   rw[ht];obtain⟨m,hm⟩:∃m,n-j=m+1:=⟨n-j-1,by omega⟩;rw[hm,show n-(j+1)=m by omega];rfl
  cases hb:bt s (i+j) 128 191
  ·rw[hb]at hs;simp only[hs,QQa,Qb,seval]
  ·rw[hb,QQk]at hs;simp only[h7,e1,Qb,seval];exact⟨n-(j+1),by omega,_,j+1,rfl,rfl,by omega,hs,(by exact h0),(by exact h1),(by exact h2),(by rfl)⟩
 ·have hs:tl s i n=true:=by
   rw[ht,show n-j=0 by omega];rfl
  simp only[QS hlt,hs,Qb,seval]

def Bj (s:List UInt8)(i:Nat)(c:UInt8)(D:Nat)(cond:Prop)(g:List Am.Item):Prop :=
 ∀Q:St→Prop,(∀f' B,(B=true↔cond)→f' 0=.str s→f' 1=.int .i64 (i:Nat)→f' 5=.int .u8 (c.toNat:Nat)→f' D=.bool B→Q ⟨f',[QD],[]⟩)→
  ∀f,f 0=.str s→f 1=.int .i64 (i:Nat)→f 5=.int .u8 (c.toNat:Nat)→QC Tryz.prog g ⟨f,[QD],[]⟩ Q

section
variable {s:List UInt8}{i:Nat}{c:UInt8}(hi:i<s.length)(hs:s.length+8≤maxLen)
include hi hs

theorem QJy:Bj s i c 12 (194≤c.toNat∧c.toNat≤223∧tl s (i+1) 1=true) F4:=by
 intro Q hQ f h0 h1 h5;have e1:IntKind.i64.wrap ((i:Int)+1)=((i+1:Nat):Int):=JZ i 1 (by omega);have e2:IntKind.i64.wrap ((i:Int)+2)=((i+2:Nat):Int):=JZ i 2 (by omega);simp only[F4,h5,Qb,seval]
 repeat' (first|(refine QI (fun h=>?_) (fun h=>?_)<;>simp only[h,h0,h1,h5,e1,e2,eE,seval])|(refine Xk (fun h=>?_) (fun h=>?_)<;>simp only[h,Qk,h0,h1,h5,e1,Qb,seval])|(refine Xl (fun h=>?_) (fun h=>?_)<;>simp only[h,Qk,h0,h1,h5,e1,e2,eE,seval])|((with_reducible apply Qa (k:=217));(case hy=>rfl);(case h1=>rfl);(case hk=>exact HI s (i+1) 1 (by omega));(case h2=>rfl);(case h3=>first|exact .inl rfl|exact .inr rfl);simp only[Qb,seval]))
 all_goals(refine hQ _ _ ?_ (by exact h0) (by exact h1) (by exact h5) rfl)
 all_goals simp only[QP1,QQw]at *
 all_goals
  constructor
  ·intro hh
   first
    |cases hh
    |(refine⟨by omega,?_⟩;first|exact hh|(refine⟨by omega,?_⟩;first|exact hh|(refine⟨by omega,?_⟩;exact hh))|exact⟨by assumption,hh⟩)
  ·intro hh
   first
    |exact hh.2.2.2
    |exact hh.2.2
    |(exfalso;omega)
    |(exfalso;simp_all;done)

theorem QJz:Bj s i c 25 (c.toNat=224∧bt s (i+1) 160 191=true∧tl s (i+2) 1=true) F5:=by
 intro Q hQ f h0 h1 h5;have e1:IntKind.i64.wrap ((i:Int)+1)=((i+1:Nat):Int):=JZ i 1 (by omega);have e2:IntKind.i64.wrap ((i:Int)+2)=((i+2:Nat):Int):=JZ i 2 (by omega);simp only[F5,h5,Qb,seval]
 repeat' (first|(refine QI (fun h=>?_) (fun h=>?_)<;>simp only[h,h0,h1,h5,e1,e2,eE,seval])|(refine Xk (fun h=>?_) (fun h=>?_)<;>simp only[h,Qk,h0,h1,e1,e2,Qb,seval])|(refine Xl (fun h=>?_) (fun h=>?_)<;>simp only[h,Qk,h0,h1,h5,e1,e2,eE,seval])|((with_reducible apply Qa (k:=218));(case hy=>rfl);(case h1=>rfl);(case hk=>exact Bi s (i+1) 160 191);(case h2=>rfl);(case h3=>first|exact .inl rfl|exact .inr rfl);simp only[Qb,seval])|((with_reducible apply Qa (k:=217));(case hy=>rfl);(case h1=>rfl);(case hk=>exact HI s (i+2) 1 (by omega));(case h2=>rfl);(case h3=>first|exact .inl rfl|exact .inr rfl);simp only[Qb,seval]))
 all_goals(refine hQ _ _ ?_ (by exact h0) (by exact h1) (by exact h5) rfl)
 all_goals simp only[QO5,QQp,ne_eq]at *
 all_goals
  constructor
  ·intro hh
   first
    |cases hh
    |(refine⟨by omega,?_⟩;first|exact hh|(refine⟨by omega,?_⟩;first|exact hh|(refine⟨by omega,?_⟩;exact hh))|exact⟨by assumption,hh⟩)
  ·intro hh
   first
    |exact hh.2.2.2
    |exact hh.2.2
    |(exfalso;omega)
    |(exfalso;simp_all;done)

theorem QJA:Bj s i c 40 (c.toNat=237∧bt s (i+1) 128 159=true∧tl s (i+2) 1=true) F6:=by
 intro Q hQ f h0 h1 h5;have e1:IntKind.i64.wrap ((i:Int)+1)=((i+1:Nat):Int):=JZ i 1 (by omega);have e2:IntKind.i64.wrap ((i:Int)+2)=((i+2:Nat):Int):=JZ i 2 (by omega);simp only[F6,h5,Qb,seval]
 repeat' (first|(refine QI (fun h=>?_) (fun h=>?_)<;>simp only[h,h0,h1,h5,e1,e2,eE,seval])|(refine Xk (fun h=>?_) (fun h=>?_)<;>simp only[h,Qk,h0,h1,e1,e2,Qb,seval])|(refine Xl (fun h=>?_) (fun h=>?_)<;>simp only[h,Qk,h0,h1,h5,e1,e2,eE,seval])|((with_reducible apply Qa (k:=218));(case hy=>rfl);(case h1=>rfl);(case hk=>exact Bi s (i+1) 128 159);(case h2=>rfl);(case h3=>first|exact .inl rfl|exact .inr rfl);simp only[Qb,seval])|((with_reducible apply Qa (k:=217));(case hy=>rfl);(case h1=>rfl);(case hk=>exact HI s (i+2) 1 (by omega));(case h2=>rfl);(case h3=>first|exact .inl rfl|exact .inr rfl);simp only[Qb,seval]))
 all_goals(refine hQ _ _ ?_ (by exact h0) (by exact h1) (by exact h5) rfl)
 all_goals simp only[QO5,QQp,ne_eq]at *
 all_goals
  constructor
  ·intro hh
   first
    |cases hh
    |(refine⟨by omega,?_⟩;first|exact hh|(refine⟨by omega,?_⟩;first|exact hh|(refine⟨by omega,?_⟩;exact hh))|exact⟨by assumption,hh⟩)
  ·intro hh
   first
    |exact hh.2.2.2
    |exact hh.2.2
    |(exfalso;omega)
    |(exfalso;simp_all;done)

theorem QDh:Bj s i c 55 (225≤c.toNat∧c.toNat≤239∧c.toNat≠237∧tl s (i+1) 2=true) Df:=by
 intro Q hQ f h0 h1 h5;have e1:IntKind.i64.wrap ((i:Int)+1)=((i+1:Nat):Int):=JZ i 1 (by omega);have e2:IntKind.i64.wrap ((i:Int)+2)=((i+2:Nat):Int):=JZ i 2 (by omega);simp only[Df,h5,Qb,seval]
 repeat' (first|(refine QI (fun h=>?_) (fun h=>?_)<;>simp only[h,h0,h1,h5,e1,e2,eE,seval])|(refine Xk (fun h=>?_) (fun h=>?_)<;>simp only[h,Qk,h0,h1,h5,e1,Qb,seval])|(refine Xl (fun h=>?_) (fun h=>?_)<;>simp only[h,Qk,h0,h1,h5,e1,e2,eE,seval])|((with_reducible apply Qa (k:=217));(case hy=>rfl);(case h1=>rfl);(case hk=>exact HI s (i+1) 2 (by omega));(case h2=>rfl);(case h3=>first|exact .inl rfl|exact .inr rfl);simp only[Qb,seval]))
 all_goals(refine hQ _ _ ?_ (by exact h0) (by exact h1) (by exact h5) rfl)
 all_goals simp only[QP1,QQw,QO6,bne_eq_false_iff_eq,ne_eq]at *
 all_goals
  constructor
  ·intro hh
   first
    |cases hh
    |(refine⟨by omega,?_⟩;first|exact hh|(refine⟨by omega,?_⟩;first|exact hh|(refine⟨by omega,?_⟩;exact hh))|exact⟨by assumption,hh⟩)
  ·intro hh
   first
    |exact hh.2.2.2
    |exact hh.2.2
    |(exfalso;omega)
    |(exfalso;simp_all;done)

theorem QDi:Bj s i c 72 (c.toNat=240∧bt s (i+1) 144 191=true∧tl s (i+2) 2=true) Dg:=by
 intro Q hQ f h0 h1 h5;have e1:IntKind.i64.wrap ((i:Int)+1)=((i+1:Nat):Int):=JZ i 1 (by omega);have e2:IntKind.i64.wrap ((i:Int)+2)=((i+2:Nat):Int):=JZ i 2 (by omega);simp only[Dg,h5,Qb,seval]
 repeat' (first|(refine QI (fun h=>?_) (fun h=>?_)<;>simp only[h,h0,h1,h5,e1,e2,eE,seval])|(refine Xk (fun h=>?_) (fun h=>?_)<;>simp only[h,Qk,h0,h1,e1,e2,Qb,seval])|(refine Xl (fun h=>?_) (fun h=>?_)<;>simp only[h,Qk,h0,h1,h5,e1,e2,eE,seval])|((with_reducible apply Qa (k:=218));(case hy=>rfl);(case h1=>rfl);(case hk=>exact Bi s (i+1) 144 191);(case h2=>rfl);(case h3=>first|exact .inl rfl|exact .inr rfl);simp only[Qb,seval])|((with_reducible apply Qa (k:=217));(case hy=>rfl);(case h1=>rfl);(case hk=>exact HI s (i+2) 2 (by omega));(case h2=>rfl);(case h3=>first|exact .inl rfl|exact .inr rfl);simp only[Qb,seval]))
 all_goals(refine hQ _ _ ?_ (by exact h0) (by exact h1) (by exact h5) rfl)
 all_goals simp only[QO5,QQp,ne_eq]at *
 all_goals
  constructor
  ·intro hh
   first
    |cases hh
    |(refine⟨by omega,?_⟩;first|exact hh|(refine⟨by omega,?_⟩;first|exact hh|(refine⟨by omega,?_⟩;exact hh))|exact⟨by assumption,hh⟩)
  ·intro hh
   first
    |exact hh.2.2.2
    |exact hh.2.2
    |(exfalso;omega)
    |(exfalso;simp_all;done)

theorem QDj:Bj s i c 87 (241≤c.toNat∧c.toNat≤243∧tl s (i+1) 3=true) Dh:=by
 intro Q hQ f h0 h1 h5;have e1:IntKind.i64.wrap ((i:Int)+1)=((i+1:Nat):Int):=JZ i 1 (by omega);have e2:IntKind.i64.wrap ((i:Int)+2)=((i+2:Nat):Int):=JZ i 2 (by omega);simp only[Dh,h5,Qb,seval]
 repeat' (first|(refine QI (fun h=>?_) (fun h=>?_)<;>simp only[h,h0,h1,h5,e1,e2,eE,seval])|(refine Xk (fun h=>?_) (fun h=>?_)<;>simp only[h,Qk,h0,h1,h5,e1,Qb,seval])|(refine Xl (fun h=>?_) (fun h=>?_)<;>simp only[h,Qk,h0,h1,h5,e1,e2,eE,seval])|((with_reducible apply Qa (k:=217));(case hy=>rfl);(case h1=>rfl);(case hk=>exact HI s (i+1) 3 (by omega));(case h2=>rfl);(case h3=>first|exact .inl rfl|exact .inr rfl);simp only[Qb,seval]))
 all_goals(refine hQ _ _ ?_ (by exact h0) (by exact h1) (by exact h5) rfl)
 all_goals simp only[QP1,QQw]at *
 all_goals
  constructor
  ·intro hh
   first
    |cases hh
    |(refine⟨by omega,?_⟩;first|exact hh|(refine⟨by omega,?_⟩;first|exact hh|(refine⟨by omega,?_⟩;exact hh))|exact⟨by assumption,hh⟩)
  ·intro hh
   first
    |exact hh.2.2.2
    |exact hh.2.2
    |(exfalso;omega)
    |(exfalso;simp_all;done)

theorem QDk:Bj s i c 100 (c.toNat=244∧bt s (i+1) 128 143=true∧tl s (i+2) 2=true) Di:=by
 intro Q hQ f h0 h1 h5;have e1:IntKind.i64.wrap ((i:Int)+1)=((i+1:Nat):Int):=JZ i 1 (by omega);have e2:IntKind.i64.wrap ((i:Int)+2)=((i+2:Nat):Int):=JZ i 2 (by omega);simp only[Di,h5,Qb,seval]
 repeat' (first|(refine QI (fun h=>?_) (fun h=>?_)<;>simp only[h,h0,h1,h5,e1,e2,eE,seval])|(refine Xk (fun h=>?_) (fun h=>?_)<;>simp only[h,Qk,h0,h1,e1,e2,Qb,seval])|(refine Xl (fun h=>?_) (fun h=>?_)<;>simp only[h,Qk,h0,h1,h5,e1,e2,eE,seval])|((with_reducible apply Qa (k:=218));(case hy=>rfl);(case h1=>rfl);(case hk=>exact Bi s (i+1) 128 143);(case h2=>rfl);(case h3=>first|exact .inl rfl|exact .inr rfl);simp only[Qb,seval])|((with_reducible apply Qa (k:=217));(case hy=>rfl);(case h1=>rfl);(case hk=>exact HI s (i+2) 2 (by omega));(case h2=>rfl);(case h3=>first|exact .inl rfl|exact .inr rfl);simp only[Qb,seval]))
 all_goals(refine hQ _ _ ?_ (by exact h0) (by exact h1) (by exact h5) rfl)
 all_goals simp only[QO5,QQp,ne_eq]at *
 all_goals
  constructor
  ·intro hh
   first
    |cases hh
    |(refine⟨by omega,?_⟩;first|exact hh|(refine⟨by omega,?_⟩;first|exact hh|(refine⟨by omega,?_⟩;exact hh))|exact⟨by assumption,hh⟩)
  ·intro hh
   first
    |exact hh.2.2.2
    |exact hh.2.2
    |(exfalso;omega)
    |(exfalso;simp_all;done)

end

theorem QJB (s:List UInt8)(i:Nat)(hi:i<s.length)(hs:s.length+8≤maxLen):Qj Tryz.prog 204 [.str s,.int .i64 (i:Nat)] (.int .i64 (sz s i:Nat)):=by
 refine QGM.fn (by simp) ?_;obtain⟨c,hc⟩:∃c,s[i]? = some c:=⟨s[i],QOH hi⟩;have hz:sz s i=DR s i c.toNat:=by simp only[sz,hc]
 unfold DR at hz;simp only[Pa,Pb,Pd,Pe,Pf,Ph,Pi,NX,NY,NZ,N0,N1,Qkj,Qkk,Qm,QP7,hc,Qb,seval];refine QI (fun h=>?_) (fun h=>?_)
 ·have h:c.toNat<128:=by simp at h;omega
  rw[hz,QO9 h];simp only[Qb,seval]
  try rfl
 have h:¬c.toNat<128:=by simp at h;omega
 rw[hz,QOS h];simp only[Qb,seval];refine QJy hi hs _ (fun f B hB h0 h1 h5 hd=>?_) _ (by rfl) (by rfl) (by rfl);by_cases hB1:B=true
 ·rw[QO9 (hB.1 hB1)];subst hB1;simp only[hd,Qb,seval]
  try rfl
 rw[QOS (fun hh=>hB1 (hB.2 hh))];have hB2:B=false:=by simpa using hB1
 subst hB2;simp only[hd,Qb,seval];refine QJz hi hs _ (fun f B hB h0 h1 h5 hd=>?_) _ (by exact h0) (by exact h1) (by exact h5);by_cases hB1:B=true
 ·rw[QO9 (hB.1 hB1)];subst hB1;simp only[hd,Qb,seval]
  try rfl
 rw[QOS (fun hh=>hB1 (hB.2 hh))];have hB2:B=false:=by simpa using hB1
 subst hB2;simp only[hd,Qb,seval];refine QJA hi hs _ (fun f B hB h0 h1 h5 hd=>?_) _ (by exact h0) (by exact h1) (by exact h5);by_cases hB1:B=true
 ·rw[QO9 (hB.1 hB1)];subst hB1;simp only[hd,Qb,seval]
  try rfl
 rw[QOS (fun hh=>hB1 (hB.2 hh))];have hB2:B=false:=by simpa using hB1
 subst hB2;simp only[hd,Qb,seval];refine QDh hi hs _ (fun f B hB h0 h1 h5 hd=>?_) _ (by exact h0) (by exact h1) (by exact h5);by_cases hB1:B=true
 ·rw[QO9 (hB.1 hB1)];subst hB1;simp only[hd,Qb,seval]
  try rfl
 rw[QOS (fun hh=>hB1 (hB.2 hh))];have hB2:B=false:=by simpa using hB1
 subst hB2;simp only[hd,Qb,seval];refine QDi hi hs _ (fun f B hB h0 h1 h5 hd=>?_) _ (by exact h0) (by exact h1) (by exact h5);by_cases hB1:B=true
 ·rw[QO9 (hB.1 hB1)];subst hB1;simp only[hd,Qb,seval]
  try rfl
 rw[QOS (fun hh=>hB1 (hB.2 hh))];have hB2:B=false:=by simpa using hB1
 subst hB2;simp only[hd,Qb,seval];refine QDj hi hs _ (fun f B hB h0 h1 h5 hd=>?_) _ (by exact h0) (by exact h1) (by exact h5);by_cases hB1:B=true
 ·rw[QO9 (hB.1 hB1)];subst hB1;simp only[hd,Qb,seval]
  try rfl
 rw[QOS (fun hh=>hB1 (hB.2 hh))];have hB2:B=false:=by simpa using hB1
 subst hB2;simp only[hd,Qb,seval];refine QDk hi hs _ (fun f B hB h0 h1 h5 hd=>?_) _ (by exact h0) (by exact h1) (by exact h5);by_cases hB1:B=true
 ·rw[QO9 (hB.1 hB1)];subst hB1;simp only[hd,Qb,seval]
  try rfl
 rw[QOS (fun hh=>hB1 (hB.2 hh))];have hB2:B=false:=by simpa using hB1
 subst hB2;simp only[hd,Qb,seval]
 try rfl

theorem TG (s:List UInt8)(i:Nat)(hi:i<s.length)(_h:sz s i≠0):i+sz s i≤s.length:=by
 have tl1:∀n j,tl s j n=true→n≠0→j+n≤s.length:=by
  intro n
  induction n with
  |zero=>intro j _ h;exact absurd rfl h
  |succ n ih=>
   intro j hj _;simp only[tl,QO2]at hj;have hb:j<s.length:=by
    have h1:=hj.1;unfold bt at h1;split at h1
    ·rename_i b hb;exact(QOG.1 hb).1
    ·cases h1
   by_cases h0:n=0
   ·subst h0;omega
   ·have:=ih (j+1) hj.2 h0;omega
 obtain⟨c,hc⟩:∃c,s[i]? = some c:=⟨s[i],QOH hi⟩;simp only[sz,hc]at _h ⊢;unfold DR at _h ⊢
 (repeat' split)<;>first
  |omega
  |(rename_i hh;have:=tl1 _ _ hh.2.2 (by decide);omega)
  |(rename_i hh;have:=tl1 _ _ hh.2.2.2 (by decide);omega)
  |simp_all

def QJC (s:List UInt8)(k:Nat)(st:St):Prop :=
 ∃f i,st=⟨f,[QD],[]⟩∧i≤s.length∧s.length-i≤k∧Yd s s.length 0=Yd s k i∧f 0=.str s∧f 3=.int .i64 (i:Nat)

theorem QJD (s:List UInt8)(hs:s.length+8≤maxLen):Qj Tryz.prog 170 [.str s] (.int .i64 (Yd s s.length 0)):=by
 refine QGL.fn (by simp) ?_;simp only[Qb,seval];refine Qg (QJC s) s.length ⟨_,0,rfl,QOM _,QOE _,rfl,rfl,rfl⟩ ?_;rintro k st ⟨f,i,rfl,hi,hk,hb,h0,h3⟩;simp only[h0,h3,Qb,seval];by_cases hlt:i<s.length
 ·simp only[Qt hlt,h0,h3,Qb,seval];refine Qa (QJB s i hlt hs) rfl rfl rfl (.inl rfl) ?_;obtain⟨k,rfl⟩:∃n,k=n+1:=⟨k-1,by omega⟩;have hbk:Yd s (k+1) i=if sz s i=0 then(i:Int)else Yd s k (i+sz s i):=by
   show(if i<s.length then _ else _)=_;rw[QO9 hlt]
  by_cases hz:sz s i=0
  ·have b0:((sz s i:Int)==0)=true:=by simp[hz]
   simp only[b0,h3,hb,hbk,QO9 hz,Qb,seval]
  ·have b0:((sz s i:Int)==0)=false:=by simp;omega
   have hle:=TG s i hlt hz;have e0:=JZ i (sz s i) (by omega);simp only[b0,h3,e0,Qb,seval];exact⟨k,by omega,_,i+sz s i,rfl,hle,by omega,by rw[hb,hbk,QOS hz],(by exact h0),(by rfl)⟩
 ·have hbk:Yd s k i = -1:=by
   cases k with
   |zero=>rfl
   |succ k=>
    show(if i<s.length then _ else _)=_;rw[QOS hlt]
  simp only[QS hlt,hb,hbk,Qb,seval]

theorem Ck (s:List UInt8)(hs:s.length+8≤maxLen):Qj Tryz.prog 115 [.str s] (.bool (Yz s)):=by
 refine QGP.fn (by simp) ?_;simp only[Qb,seval];refine Qa (QJD s hs) rfl rfl rfl (.inl rfl) ?_;simp only[Qb,seval]
 try rfl

def Wo (s:List UInt8)(i:Nat):Bool:=(s.drop i).take 3==[239,191,189]

theorem QJE (s t:List UInt8):Qj Tryz.prog 227 [.str s,.str t] (.bool (s.take t.length==t)):=by
 refine QgZ.fn (by simp) ?_;by_cases h:t.length≤s.length
 ·have d0:decide ((s.length:Int)≥(t.length:Int))=true:=by simp;omega
  have s1:(0≤t.length∧t.length≤s.length)=True:=by simp;omega
  simp only[d0,Qm,s1,QP7,Q2,QPD,QPn,Qb,seval]
 ·have d0:decide ((s.length:Int)≥(t.length:Int))=false:=by simp;omega
  have e0:(s.take t.length==t)=false:=by
   rw[QQp];intro hh;have:=congrArg List.length hh;simp at this;omega
  simp only[d0,e0,Qb,seval]

theorem QJF (s t:List UInt8):Qj Tryz.prog 225 [.str s,.str t] (.bool (s.take t.length==t)):=by
 refine QgU.fn (by simp) ?_;simp only[Qb,seval];refine Qa (QJE s t) rfl rfl rfl (.inl rfl) ?_;simp only[Qb,seval]

theorem QJG (s:List UInt8)(i:Nat)(hi:i≤s.length)(c:Nat):Qj Tryz.prog 219 [.str s,.int .i64 (i:Nat),.int .i32 (c:Nat)] (.bool (decide (c=65533) && !Wo s i)):=by
 refine QgD.fn (by simp) ?_;by_cases hc:c=65533
 ·have b0:((c:Int)==65533)=true:=by simp[hc]
  have s1:(i≤s.length∧s.length≤s.length)=True:=by simp;omega
  simp only[b0,Qm,s1,QP7,Qb,seval];refine Qa (QJF (List.take (s.length-i) (List.drop i s)) [239,191,189]) rfl rfl rfl (.inl rfl) ?_;have ht:List.take (s.length-i) (List.drop i s)=List.drop i s:=QPe (by simp);simp only[ht,Wo,hc,Qb,seval]
 ·have b0:((c:Int)==65533)=false:=by simp;omega
  simp only[b0,hc,Qb,seval];simp

end Go.Proofs.YtfgchfdkiomfpaaGreat.Va

namespace Go.Proofs.YtfgchfdkiomfpaaGreat.Vp

def Dp:Nat→Nat→List UInt8
 |0,u=>[UInt8.ofNat u]
 |k+1,u=>if u<128 then [UInt8.ofNat u]else UInt8.ofNat (u % 128+128) :: Dp k (u / 128)

def put (u:Nat):List UInt8:=Dp 9 u

def JV:Nat→Nat→List UInt8→Nat×Nat×Nat
 |_,_,[]=>(0,0,4)
 |i,acc,c :: t=>
  if i=9∧1<c.toNat then(0,0,6)
  else if c.toNat<128 then(acc+c.toNat*128 ^ i,i+1,0)
  else JV (i+1) (acc+(c.toNat-128)*128 ^ i) t

def take (s:List UInt8):Nat×Nat×Nat:=JV 0 0 s

theorem toNat_ofNat (n:Nat)(h:n<256):(UInt8.ofNat n).toNat=n:=by
 simp[UInt8.toNat_ofNat'];omega

theorem R1 (k u:Nat):1≤(Dp k u).length∧(Dp k u).length≤k+1:=by
 induction k generalizing u with
 |zero=>simp[Dp]
 |succ k ih=>
  unfold Dp;split
  ·simp
  ·have:=ih (u / 128);simp;omega

theorem put_len (u:Nat):1≤(put u).length∧(put u).length≤10:=R1 9 u

theorem Cm (i acc:Nat)(s:List UInt8)(hi:i≤9)(ha:acc<128 ^ i)(h:(JV i acc s).2.2=0) :
  i<(JV i acc s).2.1∧(JV i acc s).2.1≤i+s.length∧(JV i acc s).2.1≤10∧(JV i acc s).1<2 ^ 64:=by
 induction s generalizing i acc with
 |nil=>simp[JV]at h
 |cons c t ih=>
  unfold JV at h ⊢;split
  ·rename_i h1;rw[QO9 h1]at h;simp at h
  ·rename_i h1;rw[QOS h1]at h;have hp:128 ^ i=2 ^ (7*i):=by rw[show(128:Nat)=2 ^ 7 from rfl,←Nat.pow_mul]
   split
   ·rename_i h2;refine⟨Nat.lt_succ_self i,by simp,by show i+1≤10;omega,?_⟩;show acc+c.toNat*128 ^ i<2 ^ 64;rcases Nat.lt_or_ge i 9 with h9|h9
    ·have:c.toNat*128 ^ i≤127*128 ^ i:=QPK _ (by omega);have h3:acc+c.toNat*128 ^ i<128 ^ (i+1):=by rw[Nat.pow_succ];omega
     have h4:128 ^ (i+1)≤128 ^ 9:=QQA (by omega) (by omega);omega
    ·obtain rfl:i=9:=by omega
     have:c.toNat≤1:=by omega
     omega
   ·rename_i h2;rw[QOS h2]at h;have h9:i<9:=by
     rcases Nat.lt_or_ge i 9 with h9|h9
     ·exact h9
     ·exact absurd ⟨by omega,by omega⟩ h1
    have hc:=c.toNat_lt;have h3:acc+(c.toNat-128)*128 ^ i<128 ^ (i+1):=by
     have:(c.toNat-128)*128 ^ i≤127*128 ^ i:=QPK _ (by omega);rw[Nat.pow_succ];omega
    obtain⟨a,b,d,e⟩:=ih (i+1) _ (by omega) h3 h;exact⟨by omega,by simp;omega,d,e⟩

theorem Nr (s:List UInt8)(h:(take s).2.2=0):0<(take s).2.1∧(take s).2.1≤s.length∧(take s).2.1≤10∧(take s).1<2 ^ 64:=by
 have:=Cm 0 0 s (by omega) (by omega) h
 simpa [take]using this

theorem Cn (i acc:Nat)(s t:List UInt8)(h:(JV i acc s).2.2≠4):JV i acc (s++t)=JV i acc s:=by
 induction s generalizing i acc with
 |nil=>simp[JV]at h
 |cons c r ih=>
  simp only[QO0];unfold JV at h ⊢;split
  ·rfl
  ·rename_i h1;rw[QOS h1]at h;split
   ·rfl
   ·rename_i h2;rw[QOS h2]at h;exact ih _ _ h

theorem LU (i acc:Nat)(s:List UInt8)(hi:i≤9)(hl:10≤i+s.length):(JV i acc s).2.2≠4:=by
 induction s generalizing i acc with
 |nil=>simp at hl;omega
 |cons c r ih=>
  unfold JV;split
  ·simp
  ·rename_i h1;split
   ·simp
   ·rename_i h2;exact ih _ _ (by omega) (by simp at hl;omega)

theorem take_take (s:List UInt8):take (s.take 10)=take s:=by
 rcases Nat.lt_or_ge s.length 10 with h|h
 ·rw[QPe (by omega)]
 ·have:=Cn 0 0 (s.take 10) (s.drop 10) (LU 0 0 _ (by omega) (by simp;omega));rw[QPV]at this;exact this.symm

end Go.Proofs.YtfgchfdkiomfpaaGreat.Vp

namespace Go.Proofs.YtfgchfdkiomfpaaGreat.Va
open Go Am Rc Bt Vp

theorem J5 (s:List UInt8)(j:Nat)(c:UInt8)(h:s[j]? = some c):(⟨⟨s⟩⟩:ByteArray).get! j=c:=by
 show(⟨s⟩:Array UInt8)[j]! = c;simp[h]

theorem Dq (a:UInt8)(n:Nat)(hn:n<256):(a==UInt8.ofNat n)=decide (a.toNat=n):=by
 rw[QQv,QO5,QP1]
 constructor
 ·rintro rfl;rw[toNat_ofNat _ hn]
 ·intro h;rw[←UInt8.toNat_inj,toNat_ofNat _ hn,h]

set_option maxHeartbeats 4000000 in
theorem QJH (s:List UInt8)(i:Nat)(a b c d:UInt8)(t:List UInt8)(hr:s.drop i=a :: b :: c :: d :: t):(decide ((X9 s i).1=65533) && !Wo s i)=decide (sz s i=0)∧(sz s i≠0→(X9 s i).2=sz s i):=by
 have hsz:∀j,(s[i+j]? = (a :: b :: c :: d :: t)[j]?):=fun j=>by rw[←hr,QPk]
 have hn:ByteArray.size ⟨⟨s⟩⟩=s.length:=rfl;have hl:s.length=i+(a :: b :: c :: d :: t).length:=by
  have h:=congrArg List.length hr;simp at h ⊢;omega
 have h0:=hsz 0;have h1:=hsz 1;have h2:=hsz 2;have h3:=hsz 3;simp only[QPb]at h0;have g0:=J5 s i a h0;have g1:=J5 s (i+1) b h1;have g2:=J5 s (i+2) c h2;have g3:=J5 s (i+3) d h3;have l1:(i+1<s.length)=True:=by simp at hl ⊢;omega
 have l2:(i+2<s.length)=True:=by simp at hl ⊢;omega
 have l3:(i+3<s.length)=True:=by simp at hl ⊢;omega
 have wa:=a.toNat_lt;have wb:=b.toNat_lt;have wc:=c.toNat_lt;have wd:=d.toNat_lt;have hrep:Wo s i=(decide (a.toNat=239)&&(decide (b.toNat=191)&&decide (c.toNat=189))):=by
  rw[←Dq a 239 (by decide),←Dq b 191 (by decide),←Dq c 189 (by decide)];simp[Wo,hr]
 simp only[QPL,QPH]at h0 h1 h2 h3;generalize hD:X9 s i=D;generalize hS:sz s i=S;rw[hrep];simp only[X9,Utf8.decode,Utf8.valid,Utf8.runeError,hn,l1,l2,l3,QPb,g0,g1,g2,g3,sz,h0,DR,tl,bt,QOD,seval,h1,h2,h3,decide_true,QQk,QPS,QO2,QPE,QP1,QO5,ge_iff_le]at hD hS;clear hsz hr hl h0 h1 h2 h3 g0 g1 g2 g3 l1 l2 l3 hrep hn;generalize a.toNat=x at *;generalize b.toNat=y at *;generalize c.toNat=z at *;generalize d.toNat=u at *
 (repeat' split at hD)<;>subst hD<;>(repeat' split at hS)<;>subst hS<;>refine⟨?_,?_⟩<;>(try rw[QQv])<;>(try simp only[QO2,QP1,QPC,Bool.and_eq_false_iff,QQw])<;>first|omega|(intro _;rfl)|(simp;done)|(simp;omega)

theorem R2 (s:List UInt8)(i:Nat)(hi:i<s.length):(decide ((X9 s i).1=65533) && !Wo s i)=decide (sz s i=0)∧(sz s i≠0→(X9 s i).2=sz s i):=by
 have hsz:∀j,(s[i+j]? = (s.drop i)[j]?):=fun j=>by rw[QPk]
 have hn:ByteArray.size ⟨⟨s⟩⟩=s.length:=rfl;have hl:s.length=i+(s.drop i).length:=by simp;omega
 generalize hr:s.drop i=r at hsz hl;have h0:=hsz 0;have h1:=hsz 1;have h2:=hsz 2;have h3:=hsz 3;simp only[QPb]at h0
 match r,hl with
 | [],hl=>simp at hl;omega
 | [a],hl=>
  have g0:=J5 s i a h0;have l1:(i+1<s.length)=False:=by simp at hl ⊢;omega
  have l2:(i+2<s.length)=False:=by simp at hl ⊢;omega
  have l3:(i+3<s.length)=False:=by simp at hl ⊢;omega
  have wa:=a.toNat_lt;have hrep:Wo s i=false:=by simp[Wo,hr]
  simp only[QPL,List.getElem?_nil,QPH]at h0 h1 h2 h3;simp only[X9,Utf8.decode,Utf8.runeError,hn,l1,l2,l3,QPb,g0,sz,h0,DR,tl,bt,QOD,seval,h1,h2,h3,hrep,decide_false,QQa,QQy,QPS,QOX,and_false]
  (repeat' split)<;>refine⟨?_,?_⟩<;>(try rw[QQv])<;>(try simp only[QP1,QPM,QPS])<;>first|omega|(intro _;rfl)|(intro _;omega)|(simp;done)|(simp;omega)
 | [a,b],hl=>
  have g0:=J5 s i a h0;have g1:=J5 s (i+1) b h1;have l1:(i+1<s.length)=True:=by simp at hl ⊢;omega
  have l2:(i+2<s.length)=False:=by simp at hl ⊢;omega
  have l3:(i+3<s.length)=False:=by simp at hl ⊢;omega
  have wa:=a.toNat_lt;have wb:=b.toNat_lt;have hrep:Wo s i=false:=by simp[Wo,hr]
  simp only[QPL,List.getElem?_nil,QPH]at h0 h1 h2 h3;simp only[X9,Utf8.decode,Utf8.runeError,hn,l1,l2,l3,QPb,g0,g1,sz,h0,DR,tl,bt,QOD,seval,h1,h2,h3,hrep,decide_false,decide_true,QQa,QQy,QQk,QPS,QOX,and_false,QO2,QP1,QO5,ge_iff_le]
  (repeat' split)<;>refine⟨?_,?_⟩<;>(try rw[QQv])<;>(try simp only[QP1,QPM,QPS])<;>first|omega|(intro _;rfl)|(intro _;omega)|(simp;done)|(simp;omega)
 | [a,b,c],hl=>
  have g0:=J5 s i a h0;have g1:=J5 s (i+1) b h1;have g2:=J5 s (i+2) c h2;have l1:(i+1<s.length)=True:=by simp at hl ⊢;omega
  have l2:(i+2<s.length)=True:=by simp at hl ⊢;omega
  have l3:(i+3<s.length)=False:=by simp at hl ⊢;omega
  have wa:=a.toNat_lt;have wb:=b.toNat_lt;have wc:=c.toNat_lt;have hrep:Wo s i=(decide (a.toNat=239)&&(decide (b.toNat=191)&&decide (c.toNat=189))):=by
   rw[←Dq a 239 (by decide),←Dq b 191 (by decide),←Dq c 189 (by decide)];simp[Wo,hr]
  simp only[QPL,List.getElem?_nil,QPH]at h0 h1 h2 h3;simp only[X9,Utf8.decode,Utf8.valid,Utf8.runeError,hn,l1,l2,l3,QPb,g0,g1,g2,sz,h0,DR,tl,bt,QOD,seval,h1,h2,h3,hrep,decide_false,decide_true,QQa,QQy,QQk,QPS,QOX,and_false,QO2,QPE,QP1,QO5,ge_iff_le]
  (repeat' split)<;>refine⟨?_,?_⟩<;>(try rw[QQv])<;>(try simp only[QO2,QP1,QPC,QQw,Bool.and_eq_false_iff])<;>first|omega|(intro _;rfl)|(intro _;omega)|(simp;done)|(simp;omega)
 |a :: b :: c :: d :: t,hl=>exact QJH s i a b c d t hr

def QJI (s:List UInt8)(k:Nat)(st:St):Prop :=
 ∃f fr i,st=⟨f,[fr],[]⟩∧i≤s.length∧s.length-i≤k∧Yd s s.length 0=Yd s k i∧f 0=.str s∧f 6=.ptr 0 6 0∧fr 6=.iter (.str s) i

theorem QJJ (s:List UInt8):Qj Tryz.prog 206 [.str s] (.int .i64 (Yd s s.length 0)):=by
 refine QHD.fn (by simp) ?_;simp only[Qb,seval];refine MH rfl rfl ?_;simp only[Qb,seval];refine Qg (QJI s) s.length ⟨_,_,0,rfl,QOM _,QOE _,rfl,(by rfl),(by rfl),(by rfl)⟩ ?_;rintro k st ⟨f,fr,i,rfl,hi,hk,hb,h0,h6,m6⟩;simp only[Qb,seval];refine MI (by exact h6) m6 (fun hlt=>?_) (fun hge=>?_)
 ·obtain⟨hd,hw⟩:=R2 s i hlt;obtain⟨k,rfl⟩:∃n,k=n+1:=⟨k-1,by omega⟩;have hbk:Yd s (k+1) i=if sz s i=0 then(i:Int)else Yd s k (i+sz s i):=by
   show(if i<s.length then _ else _)=_;rw[QO9 hlt]
  have hwr:=QJG s i hi (X9 s i).1;rw[hd]at hwr;generalize X9 s i=cw at hw hwr;obtain⟨c,w⟩:=cw;simp only[h0,Qb,seval];refine Qa hwr rfl rfl rfl (.inl rfl) ?_;by_cases hz:sz s i=0
  ·simp only[hz,decide_true,hb,hbk,Qb,seval]
  ·have hw:=hw hz;simp only at hw;have hle:=TG s i hlt hz;simp only[hz,decide_false,Qb,seval];exact⟨k,by omega,_,_,i+sz s i,rfl,hle,by omega,by rw[hb,hbk,QOS hz],(by exact h0),(by exact h6),by rw[←hw]<;>first|rfl|simp only[eE,seval]⟩
 ·have hbk:Yd s k i = -1:=by
   cases k with
   |zero=>rfl
   |succ k=>
    show(if i<s.length then _ else _)=_;rw[QOS (by omega)]
  simp only[hb,hbk,Qb,seval]

theorem Qsd (s:List UInt8):Qj Tryz.prog 184 [.str s] (.bool (Yz s)):=by
 refine QfB.fn (by simp) ?_;simp only[Qb,seval];refine Qa (QJJ s) rfl rfl rfl (.inl rfl) ?_;simp only[Qb,seval]
 try rfl

end Go.Proofs.YtfgchfdkiomfpaaGreat.Va

namespace Go.Proofs.YtfgchfdkiomfpaaGreat.Va
open Go Am Rc Bt

def ZR (k:Int)(b:Nat):Bool :=
 if k=1 then decide ((b:Int)≤1)else if k=2 then decide (IntKind.i64.wrap (b:Int)≥-2147483648)&&decide (IntKind.i64.wrap (b:Int)≤2147483647)
 else if k=4 then decide ((b:Int)<4294967296)else if k=9 then decide ((b:Int)<2147483648)else true

theorem QJK (k:Int)(b:Nat):Qj Tryz.prog 207 [.int .i64 k,.int .u64 (b:Nat)] (.bool (ZR k b)):=by
 have e1:decide ((b:Int)≤4294967295)=decide ((b:Int)<4294967296):=by rw[decide_eq_decide];omega
 have e2:decide ((b:Int)≤2147483647)=decide ((b:Int)<2147483648):=by rw[decide_eq_decide];omega
 refine Qgo.fn (by simp) ?_;simp only[Qb,seval];unfold ZR;by_cases h1:k=1
 ·subst h1;have b1:((1:Int)==1)=true:=rfl;simp only[b1,Qb,seval]
 ·have b1:(k==1)=false:=by simp[h1]
  by_cases h2:k=2
  ·subst h2;have b2:((2:Int)==2)=true:=rfl;simp only[b1,b2,h1,Qb,seval];cases hd:decide (IntKind.i64.wrap (b:Int)≥-2147483648)<;>simp only[QQk,QQa,Qb,seval]
  ·have b2:(k==2)=false:=by simp[h2]
   by_cases h9:k=9
   ·subst h9;have b9:((9:Int)==9)=true:=rfl;simp only[b1,b2,b9,h1,h2,e2,Qb,seval]
   ·have b9:(k==9)=false:=by simp[h9]
    by_cases h4:k=4
    ·subst h4;have b4:((4:Int)==4)=true:=rfl;simp only[b1,b2,b9,b4,h1,h2,e1,Qb,seval]
    ·have b4:(k==4)=false:=by simp[h4]
     simp only[b1,b2,b9,b4,h1,h2,h4,h9,Qb,seval]

end Go.Proofs.YtfgchfdkiomfpaaGreat.Va

namespace Go.Proofs.YtfgchfdkiomfpaaGreat.Ev
open Go Am Rc

def tab:NG:=fun k=>match k with
 |6=>some (r6,o6,40)
 |9=>some (r9,o9,48)
 |24=>some (r24,o24,43)
 |12=>some (Ut,o12,74)
 |14=>some (r14,o14,15)
 |15=>some (r15,o15,54)
 |19=>some (r19,o19,2)
 |11=>some (Yb,o11,2)
 |53=>some (SK,NV,8)
 |58=>some (r58,o58,9)
 |60=>some (r60,o60,20)
 |25=>some (r25,o25,21)
 |26=>some (r26,o26,93)
 |27=>some (r27,o27,86)
 |35=>some (r35,o35,19)
 |36=>some (r36,o36,8)
 |37=>some (SN,o37,23)
 |106=>some (Qbp,Qbq,63)
 |107=>some (Qbt,Qbu,6)
 |49=>some (r49,o49,42)
 |47=>some (r47,o47,22)
 |48=>some (r48,o48,11)
 |50=>some (r50,o50,64)
 |54=>some (r54,o54,40)
 |55=>some (r55,o55,12)
 |56=>some (r56,o56,67)
 |57=>some (r57,o57,27)
 |165=>some (QbR,QbS,53)
 |89=>some (r89,o89,23)
 |88=>some (r88,o88,21)
 |91=>some (r91,o91,21)
 |92=>some (r92,o92,95)
 |93=>some (r93,o93,6)
 |95=>some (r95,o95,87)
 |97=>some (SQ,NW,8)
 |98=>some (r98,o98,9)
 |99=>some (r99,o99,10)
 |100=>some (Qcj,Qck,8)
 |101=>some (Qcr,Qcs,20)
 |102=>some (Qcy,Qcz,17)
 |104=>some (QcE,QcF,14)
 |105=>some (QcJ,QcK,20)
 |139=>some (QcX,QcY,36)
 |140=>some (Qc4,Qc5,20)
 |141=>some (Qda,Qdb,11)
 |142=>some (Qdl,Qdm,30)
 |143=>some (Qds,Qdt,22)
 |145=>some (Qdy,Qdz,20)
 |146=>some (QdM,QdN,66)
 |147=>some (QdT,QdU,16)
 |148=>some (Qd6,Qd7,27)
 |150=>some (Qec,Qed,18)
 |151=>some (Qep,Qeq,68)
 |152=>some (QeC,QeD,72)
 |155=>some (QeS,QeT,63)
 |156=>some (Qe3,Qe4,19)
 |157=>some (Ce,De,8)
 |162=>some (Qfg,Qfh,29)
 |163=>some (Qfl,Qfm,9)
 |164=>some (Qfu,Qfv,28)
 |184=>some (Qfz,QfA,6)
 |185=>some (QfE,QfF,11)
 |186=>some (QfL,QfM,39)
 |187=>some (QfT,QfU,34)
 |189=>some (Qf5,Qf6,53)
 |202=>some (Qf9,Qga,9)
 |207=>some (Qgm,Qgn,28)
 |208=>some (Qgr,Qgs,9)
 |209=>some (Qgw,Qgx,9)
 |219=>some (QgB,QgC,16)
 |220=>some (QgN,QgO,19)
 |225=>some (QgS,QgT,8)
 |227=>some (QgX,QgY,18)
 |_=>none

theorem Qsf:Fj Tryz.prog tab:=by
 intro k c rs N h;unfold tab at h;split at h
 ·cases h;exact k6
 ·cases h;exact k9
 ·cases h;exact k24
 ·cases h;exact NU
 ·cases h;exact k14
 ·cases h;exact k15
 ·cases h;exact k19
 ·cases h;exact k11
 ·cases h;exact k53
 ·cases h;exact k58
 ·cases h;exact k60
 ·cases h;exact k25
 ·cases h;exact k26
 ·cases h;exact k27
 ·cases h;exact k35
 ·cases h;exact k36
 ·cases h;exact k37
 ·cases h;exact QFO
 ·cases h;exact Qbv
 ·cases h;exact k49
 ·cases h;exact k47
 ·cases h;exact k48
 ·cases h;exact k50
 ·cases h;exact k54
 ·cases h;exact k55
 ·cases h;exact SO
 ·cases h;exact k57
 ·cases h;exact QFP
 ·cases h;exact k89
 ·cases h;exact k88
 ·cases h;exact k91
 ·cases h;exact k92
 ·cases h;exact k93
 ·cases h;exact k95
 ·cases h;exact k97
 ·cases h;exact k98
 ·cases h;exact k99
 ·cases h;exact Qcl
 ·cases h;exact Qct
 ·cases h;exact RG
 ·cases h;exact QcG
 ·cases h;exact QcL
 ·cases h;exact QcZ
 ·cases h;exact Qc6
 ·cases h;exact Qdc
 ·cases h;exact Qdn
 ·cases h;exact Qdu
 ·cases h;exact QdA
 ·cases h;exact QdO
 ·cases h;exact QdV
 ·cases h;exact Qd8
 ·cases h;exact Qee
 ·cases h;exact Qer
 ·cases h;exact QeE
 ·cases h;exact QFQ
 ·cases h;exact Qe5
 ·cases h;exact RH
 ·cases h;exact Qfi
 ·cases h;exact Qfn
 ·cases h;exact Qfw
 ·cases h;exact QfB
 ·cases h;exact QfG
 ·cases h;exact QfN
 ·cases h;exact QfV
 ·cases h;exact QFR
 ·cases h;exact Qgb
 ·cases h;exact Qgo
 ·cases h;exact Qgt
 ·cases h;exact Qgy
 ·cases h;exact QgD
 ·cases h;exact QgP
 ·cases h;exact QgU
 ·cases h;exact QgZ
 ·cases h

def nat:Wq:=fun _ _ _=>none

theorem nat_ok:Wy Tryz.prog nat:=by
 intro k args m v m' h;cases h

end Go.Proofs.YtfgchfdkiomfpaaGreat.Ev

namespace Go.Proofs.YtfgchfdkiomfpaaGreat.Va
open Go Am Rc Bt

def vo (k:Int)(b:Nat)(t:List UInt8)(l p s r:List AV):AV:=.agg [.int .i64 k,.int .u64 (b:Nat),.str t,.list l,.list p,.list s,.list r]

section
variable (k:Int)(b:Nat)(t:List UInt8)(l p s r:List AV)

def Wr:Bool:=(l.length:Int)==0&&(p.length:Int)==0&&(s.length:Int)==0&&(r.length:Int)==0
def Bk:Bool:=isk k&&Wr l p s r&&(b:Int)==0&&t==[]
def emp:Bool:=(k==11&&(l.length:Int)==0)||(k==12&&(p.length:Int)==0)||Bk k b t l p s r

theorem R3:Qj Tryz.prog 138 [vo k b t l p s r] (.bool (Wr l p s r)):=by
 refine QG3.fn (by simp) ?_;simp only[vo,Wr,eE,seval];cases h0:((l.length:Int)==0)<;>cases h1:((p.length:Int)==0)<;>cases h2:((s.length:Int)==0)<;>simp only[h1,h2,QQk,QQa,eE,seval]

theorem Qsg (hl:l.length≤140737488351232)(hp:p.length≤140737488351232)(hs:s.length≤140737488351232)(hr:r.length≤140737488351232) :
  Qj Tryz.prog 164 [vo k b t l p s r] (.bool (Wr l p s r&&(if XV k=true then(b:Int)==0 else t==[]))):=by
 refine Qfw.fn (by simp) ?_;have w:IntKind.i64.wrap (IntKind.i64.wrap (IntKind.i64.wrap ((l.length:Int)+(p.length:Int))+(s.length:Int))+(r.length:Int))=(l.length+p.length+s.length+r.length:Nat):=by
  simp only[QA];omega
 simp only[vo,w,eE,seval];by_cases h:l.length+p.length+s.length+r.length=0
 ·have d:decide (((l.length+p.length+s.length+r.length:Nat):Int) > 0)=false:=QQt (by omega);have e:Wr l p s r=true:=by
   unfold Wr;simp only[QO2,QO5];omega
  simp only[d,e,QQk,eE,seval];refine Qa (Qr7 k) rfl rfl rfl (.inl rfl) ?_;cases XV k
  ·simp only[QOX,Q2,eE,seval]
  ·simp only[eE,seval]
 ·have d:decide (((l.length+p.length+s.length+r.length:Nat):Int) > 0)=true:=QQx (by omega);have e:Wr l p s r=false:=by
   unfold Wr;rw[Bool.eq_false_iff];simp only[ne_eq,QO2,QO5];omega
  simp only[d,e,QQa,Qb,seval]

end

open Br

def key (o:PO):Bool:=if o.card=5 then decide (o.key≥1)&&decide (o.key≤7)&&o.key != 6 else o.key==0
def N8 (P:PL)(o:PO):Bool :=
 if o.kind=10 then decide (o.target≥0)&&decide (o.target<(P.progs.length:Int))&&o.card != 3
 else if o.kind=9 then decide (o.target≥0)&&decide (o.target<(P.enums.length:Int))else isk o.kind&&o.target == -1
def Js (P:PL)(o:PO):Bool:=Yz o.alias&&decide ((o.alias.length:Int)≤4096)&&decide (o.card≥1)&&decide (o.card≤5)&&key o&&N8 P o
def KJ (o:PO):Bool:=o.union == -1||o.card==2
def JS:List PO→Int→Int→Option Int
 | [],n,_=>some n
 |o :: l,n,b=>if o.union=n then JS l (n+1) n else if o.union = -1∨o.union=b then JS l n o.union else none
def Wp (g:PG):Bool:=match JS g.ops 0 (-1)with
 |some n=>g.unions==n
 |none=>false
def Zn (k kd:Int)(b:Nat)(t:List UInt8)(l p s r:List AV):Bool :=
 isk k&&kd==k&&Wr l p s r&&(if XV kd=true then(b:Int)==0 else t==[])&&ZR k b&&decide ((t.length:Int)≤4096)&&(k != 7||Yz t)
def alias:List UInt8:=[97,108,105,97,115]
def nok:List AV→Bool
 | [.int _ kd,.int _ b,.str t,.list l,.list p,.list s,.list r]=>Zn 7 kd b.toNat t l p s r
 |_=>false
def Wc (i:PI):Bool:=match i.notes with
 | []=>true
 | [n]=>n.name==alias&&nok n.val
 |_=>false
def KB (P:PL)(g:PG):Bool:=Wp g&&g.ops.all fun o=>Js P o&&KJ o
def Yp (x:PE):Bool:=x.notes.isEmpty&&x.items.all Wc
def args (P:PL):Bool:=P.progs.all (KB P)&&P.enums.all Yp

theorem QJL (k kd:Int)(b:Nat)(t:List UInt8)(l p s r:List AV)(hl:l.length≤140737488351232)(hp:p.length≤140737488351232)(hs:s.length≤140737488351232)(hr:r.length≤140737488351232) :
  Qj Tryz.prog 186 [.int .i64 k,vo kd b t l p s r] (.bool (Zn k kd b t l p s r)):=by
 have hle:=Qsg kd b t l p s r hl hp hs hr;have hw:=QJK k b;simp only[vo]at hle;have n1:(kd != k)=!(kd==k):=rfl;have n2:(k != 7)=!(k==7):=rfl;have n3:decide ((t.length:Int) > 4096)=!decide ((t.length:Int)≤4096):=(by rw[QQv];simp only[QP1,QPC,QQw];omega);refine QfN.fn (by simp) ?_;simp only[vo,Zn,n2,eE,seval];refine Qa (Ba k) rfl rfl rfl (.inl rfl) ?_;cases isk k
 ·simp only[QQa,QPM,Qb,seval]
 simp only[QQk,QQl,n1,eE,seval];cases a1:(kd==k)
 ·simp only[QQa,QPM,Qb,seval]
 simp only[QQk,QQl,eE,seval];refine Qa hle rfl rfl rfl (.inl rfl) ?_;cases(Wr l p s r&&(if XV kd=true then(b:Int)==0 else t==[]))
 ·simp only[QQa,QPM,Qb,seval]
 simp only[QQk,QQl,eE,seval];refine Qa hw rfl rfl rfl (.inl rfl) ?_;cases ZR k b
 ·simp only[QQa,QPM,Qb,seval]
 simp only[QQk,QQl,n3,eE,seval];cases a2:decide ((t.length:Int)≤4096)
 ·simp only[QQa,QPM,Qb,seval]
 simp only[QQk,QQl,n2,Qb,seval];cases a3:(k==7)
 ·simp only[QPM,QQn,Qb,seval]
 ·simp only[QQl,QQo,eE,seval];refine Qa (Qsd t) rfl rfl rfl (.inl rfl) ?_;simp only[Qb,seval]

section
variable (P:PL)

theorem Co {l:List PO}{i:Nat}{o:PO}(h:l[i]? = some o)(n b:Int):JS (l.drop i) n b=if o.union=n then JS (l.drop (i+1)) (n+1) n else if o.union = -1∨o.union=b then JS (l.drop (i+1)) n o.union else none:=by
 have hlt:i<l.length:=(QOG.1 h).1;rw[QPo hlt,show l[i]=o from(QOG.1 h).2];rfl

end

section
variable (kd:Int)(b:Nat)(t:List UInt8)(l p s r:List AV)(hl:l.length≤140737488351232)(hp:p.length≤140737488351232)(hs:s.length≤140737488351232)(hr:r.length≤140737488351232)

def nv:AV:=.agg [.str alias,.int .i64 kd,.int .u64 (b:Nat),.str t,.list l,.list p,.list s,.list r]

end

theorem QDl {M:Nat}{n:PN}(h:n.ok Tryz.prog M 35)(hM:M≤140737488351232):∃kd b t l p s r,n.val=[.int .i64 kd,.int .u64 ((b:Nat):Int),.str t,.list l,.list p,.list s,.list r]∧t.length≤M∧l.length≤140737488351232∧p.length≤140737488351232∧s.length≤140737488351232∧r.length≤140737488351232:=by
 obtain⟨_,k,hk⟩:=h;obtain⟨k,h⟩:=ZL Tryz.underlying35 hk;simp only[Xz.HasL]at h;obtain⟨_,_,e,h0,_,_,rfl,h1,_,_,rfl,h2,_,_,rfl,h3,_,_,rfl,h4,_,_,rfl,h5,_,_,rfl,h6,rfl⟩:=h;obtain⟨a0,rfl,w0⟩:=ZH Tryz.underlying3 h0;obtain⟨a1,rfl,w1⟩:=ZH Tryz.underlying29 h1;obtain⟨a2,rfl,w2⟩:=KW Tryz.underlying9 h2;obtain⟨_,l3,rfl,w3,_⟩:=Wz Tryz.underlying30 h3;obtain⟨_,l4,rfl,w4,_⟩:=Wz Tryz.underlying31 h4;obtain⟨_,l5,rfl,w5,_⟩:=Wz Tryz.underlying32 h5;obtain⟨_,l6,rfl,w6,_⟩:=Wz Tryz.underlying33 h6;have hb:0≤a1:=Qav w1;obtain⟨b,rfl⟩:=QQm hb;exact⟨a0,b,a2,_,_,_,_,e,w2,by simp;omega,by simp;omega,by simp;omega,by simp;omega⟩

def Jf (B:List Bool)(o:PO):Bool:=o.card==1&&o.kind==10 && !(B[o.target.toNat]?.getD false)
def TH (G:List PG)(B:List Bool)(i:Nat):List Bool:=match G[i]? with
 |some g=>B.set i (!g.ops.any (Jf B))
 |none=>B
def Ws (G:List PG)(B:List Bool):Nat→List Bool
 |0=>B
 |i+1=>TH G (Ws G B i) i
def Qe (G:List PG):Nat→List Bool
 |0=>List.replicate G.length false
 |c+1=>Ws G (Qe G c) G.length
def fin (P:PL):Bool:=(Qe P.progs P.progs.length).all id

def TI (P:PL):Prop:=∀g∈P.progs,∀o∈g.ops,o.kind=10→0≤o.target∧o.target<(P.progs.length:Int)

theorem LV (G:List PG)(B:List Bool)(i:Nat):(TH G B i).length=B.length:=by
 unfold TH;split<;>simp
theorem Dr (G:List PG)(B:List Bool):∀i,(Ws G B i).length=B.length
 |0=>rfl
 |i+1=>by rw[Ws,LV,Dr G B i]
theorem N9 (G:List PG):∀c,(Qe G c).length=G.length
 |0=>by simp[Qe]
 |c+1=>by rw[Qe,Dr,N9 G c]

structure En (P:PL)(c:Nat)(B:List Bool)(f:Fr)(fr:Nat→Ob):Prop where
 h1:f 1=.ptr 0 1 0
 m1:fr 1=.cells [.list (P.progs.map Qp),.list (P.enums.map QV)]
 h3:f 3=.ptr 0 3 0
 m3:fr 3=.cells [.vec 0 9 1 0 P.progs.length false]
 m9:fr 9=.vec 1 1 (B.map AV.bool)
 h12:f 12=.int .i64 (P.progs.length:Nat)
 h13:f 13=.int .i64 (c:Nat)
 r5:∀s∈[5],(fr s).isRow=false

theorem En.drop {P:PL}{c:Nat}{B:List Bool}{f f':Fr}{fr fr':Nat→Ob}(h:En P c B f fr)(hf:∀i,f' i=V3 [5] (f i))(hm:∀i,i∉[5]→fr' i=Gm [5] (fr i))(hn:∀i∈[5],fr' i=.none):En P c B f' fr' where
 h1:=by rw[hf,h.h1]<;>rfl
 m1:=by rw[hm 1 (by decide),h.m1]<;>rfl
 h3:=by rw[hf,h.h3]<;>rfl
 m3:=by rw[hm 3 (by decide),h.m3]<;>rfl
 m9:=by rw[hm 9 (by decide),h.m9]<;>rfl
 h12:=by rw[hf,h.h12]<;>rfl
 h13:=by rw[hf,h.h13]<;>rfl
 r5:=fun s hs=>by rw[hn s hs]<;>rfl

def ck (P:PL):Int :=
 if Bd P=false then 3 else if TD P=false then 8 else if Be P=false then 11 else if TE P=false then 9 else if TF P=false then 6 else if args P=false then 1 else if fin P=false then 19 else 0

theorem DS {P:PL}(h:Bd P=true):P.progs.length≤64∧P.enums.length≤64∧(∀g∈P.progs,g.ops.length≤64)∧∀e∈P.enums,1≤e.items.length∧e.items.length≤64∧e.free.length≤16:=by
 unfold Bd at h;simp only[QO2,QP1,QOQ]at h;obtain⟨⟨⟨h1,h2⟩,h3⟩,h4⟩:=h;refine⟨h1,h2,fun g hg=>?_,fun e he=>?_⟩
 ·have:=h3 g hg;unfold KX at this;exact of_decide_eq_true this
 ·have:=h4 e he;unfold KY at this;simp only[QO2,QP1]at this;exact⟨this.1.1,this.1.2,this.2⟩

theorem R4 {P:PL}(h:args P=true):TI P:=by
 intro g hg o ho hk;unfold args at h;simp only[QO2,QOQ]at h;have h1:=h.1 g hg;unfold KB at h1;simp only[QO2,QOQ]at h1;have h2:=(h1.2 o ho).1;unfold Js at h2;simp only[QO2]at h2;have h3:=h2.2;unfold N8 at h3;rw[QO9 hk]at h3;simp only[QO2,QP1]at h3;exact⟨h3.1.1,h3.1.2⟩

def Pc (P:PL):List AV:=[.list (P.progs.map Qp),.list (P.enums.map QV)]

theorem JB (b:Bool)(q:Nat→Bool)(i:Nat):(b&&QM q (i+1))=((b&&QM q i)&&q i):=by rw[QM,QPq]

section
variable {M:Nat}(P:PL)(hP:P.ok M)(fr:Nat→Ob)(m1:fr 1=.cells (Pc P))(f:Fr)(b:Bool)(h1:f 1=.ptr 0 1 0)(h3:f 3=.bool b)(Q:Exit→St→Prop)
include hP m1 h1 h3

theorem Cq (ha:f 4=.int .i64 0)(hx:∀f,f 1=.ptr 0 1 0→f 3=.bool (b&&P.progs.all KX)→Q (.exit 0) (⟨f,[fr],[]⟩:St)):QJ Tryz.prog (.loop S4) ⟨f,[fr],[]⟩ Q:=by
 let I:Nat→St→Prop:=fun k st=>∃f i,st=⟨f,[fr],[]⟩∧k=P.progs.length-i∧i≤P.progs.length∧f 1=.ptr 0 1 0∧f 3=.bool (b&&(P.progs.take i).all KX)∧f 4=.int .i64 (i:Nat)
 refine Qg I _ ⟨f,0,rfl,rfl,QOM _,h1,by rw[h3];simp,ha⟩ ?_;clear h1 h3 ha;simp only[Pc]at m1;rintro _ st ⟨f,i,rfl,rfl,hi,h1,h3,ha⟩;simp only[QPz,h1,m1,ha,eE,seval];by_cases hlt:i<P.progs.length
 ·obtain⟨x,hg⟩:∃x,P.progs[i]? = some x:=⟨P.progs[i],QOH hlt⟩;have hgm:(P.progs.map Qp)[i]? = some (.agg x.cells):=by simp[hg,Qp]
  have e1:=Qx i _ hlt hP.len1;have ht:=Xj (q:=KX) hg;have e3:decide ((x.ops.length:Int)≤64)=KX x:=by unfold KX ;exact(by rw[QQv];simp only[QP1];omega)
  have fin:∀f':Fr,f' 1=.ptr 0 1 0→f' 3=.bool ((b&&(P.progs.take i).all KX)&&KX x)→f' 4=.int .i64 ((i+1:Nat):Int)→∃k,k<P.progs.length-i∧I k ⟨f',[fr],[]⟩:=by
   intro f' a1 a3 a4;exact⟨P.progs.length-(i+1),by omega,f',i+1,rfl,rfl,by omega,a1,by rw[a3,ht,QPq],a4⟩
  simp only[PG.cells]at hgm;cases hb:(b&&(P.progs.take i).all KX)
  ·rw[hb]at fin h3;simp only[Qt hlt,h3,ha,e1,Qb,seval];exact fin _ (by exact h1) (by rfl) (by rfl)
  ·rw[hb,QQk]at fin;rw[hb]at h3
   skip
   all_goals
    try rw[c1]at e3
    try rw[c2]at e3
    simp only[Qt hlt,Qm,QP7,Qf,hgm,QPz,h1,m1,h3,ha,e1,e3,eE,seval];exact fin _ (by exact h1) (by rw[←e3]<;>first|rfl|simp only[eE,seval]) (by rfl)
 ·have hf:(P.progs.take i).all KX=P.progs.all KX:=by rw[QPe (by omega)]
  rw[hf]at h3;simp only[QS hlt,Qb,seval];exact hx _ (by exact h1) (by exact h3)

theorem Cr (ha:f 5=.int .i64 0)(hx:∀f,f 1=.ptr 0 1 0→f 3=.bool (b&&P.enums.all KY)→Q (.exit 2) (⟨f,[fr],[]⟩:St)):QJ Tryz.prog (.loop S5) ⟨f,[fr],[]⟩ Q:=by
 let I:Nat→St→Prop:=fun k st=>∃f i,st=⟨f,[fr],[]⟩∧k=P.enums.length-i∧i≤P.enums.length∧f 1=.ptr 0 1 0∧f 3=.bool (b&&(P.enums.take i).all KY)∧f 5=.int .i64 (i:Nat)
 refine Qg I _ ⟨f,0,rfl,rfl,QOM _,h1,by rw[h3];simp,ha⟩ ?_;clear h1 h3 ha;simp only[Pc]at m1;rintro _ st ⟨f,i,rfl,rfl,hi,h1,h3,ha⟩;simp only[QPz,h1,m1,ha,eE,seval];by_cases hlt:i<P.enums.length
 ·obtain⟨x,hg⟩:∃x,P.enums[i]? = some x:=⟨P.enums[i],QOH hlt⟩;have hgm:(P.enums.map QV)[i]? = some (.agg x.cells):=by simp[hg,QV]
  have e1:=Qx i _ hlt hP.len2;have ht:=Xj (q:=KY) hg;have e3:(decide ((x.items.length:Int)≥1)&&(decide ((x.items.length:Int)≤64)&&decide ((x.free.length:Int)≤16)))=KY x:=by unfold KY ;exact(by rw[QQv];simp only[QP1,QO2];omega)
  have fin:∀f':Fr,f' 1=.ptr 0 1 0→f' 3=.bool ((b&&(P.enums.take i).all KY)&&KY x)→f' 5=.int .i64 ((i+1:Nat):Int)→∃k,k<P.enums.length-i∧I k ⟨f',[fr],[]⟩:=by
   intro f' a1 a3 a4;exact⟨P.enums.length-(i+1),by omega,f',i+1,rfl,rfl,by omega,a1,by rw[a3,ht,QPq],a4⟩
  simp only[PE.cells]at hgm;cases hb:(b&&(P.enums.take i).all KY)
  ·rw[hb]at fin h3;simp only[Qt hlt,Qm,QP7,Qf,hgm,QPz,h1,m1,h3,ha,e1,eE,seval];exact fin _ (by exact h1) (by rfl) (by rfl)
  ·rw[hb,QQk]at fin;rw[hb]at h3
   (cases c1:decide ((x.items.length:Int)≥1)<;>cases c2:decide ((x.items.length:Int)≤64))
   all_goals
    try rw[c1]at e3
    try rw[c2]at e3
    simp only[Qt hlt,Qm,QP7,Qf,hgm,QPz,h1,m1,h3,ha,e1,c1,c2,eE,seval];exact fin _ (by exact h1) (by rw[←e3]<;>first|rfl|simp only[eE,seval]) (by rfl)
 ·have hf:(P.enums.take i).all KY=P.enums.all KY:=by rw[QPe (by omega)]
  rw[hf]at h3;simp only[QS hlt,Qb,seval];exact hx _ (by exact h1) (by exact h3)

theorem Gx (j:Nat)(x:PG)(hj:P.progs[j]? = some x)(ha:f 4=.int .i64 (j:Nat))(hc:f 5=.int .i64 0)(hx:∀f,f 1=.ptr 0 1 0→f 3=.bool (b&&x.ops.all fun o=>Zt o.name)→f 4=.int .i64 (j:Nat)→Q (.exit 2) (⟨f,[fr],[]⟩:St)):QJ Tryz.prog (.loop S6) ⟨f,[fr],[]⟩ Q:=by
 let I:Nat→St→Prop:=fun k st=>∃f i,st=⟨f,[fr],[]⟩∧k=x.ops.length-i∧i≤x.ops.length∧f 1=.ptr 0 1 0∧f 3=.bool (b&&(x.ops.take i).all fun o=>Zt o.name)∧f 4=.int .i64 (j:Nat)∧f 5=.int .i64 (i:Nat)
 have hjm:(P.progs.map Qp)[j]? = some (.agg x.cells):=by simp[hj,Qp]
 have hsl:x.ops.length≤maxLen:=(hP.progs x (QOR hj)).len;refine Qg I _ ⟨f,0,rfl,rfl,QOM _,h1,by rw[h3];simp,ha,hc⟩ ?_;clear h1 h3 ha hc;simp only[Pc]at m1;simp only[PG.cells]at hjm;rintro _ st ⟨f,i,rfl,rfl,hi,h1,h3,ha,hc⟩;simp only[Qm,QP7,Qf,hjm,QPz,h1,m1,ha,hc,eE,seval];by_cases hlt:i<x.ops.length
 ·obtain⟨o,hg⟩:∃o,x.ops[i]? = some o:=⟨x.ops[i],QOH hlt⟩;have hgm:(x.ops.map fun o=>AV.agg o.cells)[i]? = some (.agg o.cells):=by simp[hg]
  have e1:=Qx i _ hlt hsl;have ht:=Xj (q:=fun o=>Zt o.name) hg;have fin:∀f':Fr,f' 1=.ptr 0 1 0→f' 3=.bool ((b&&(x.ops.take i).all fun o=>Zt o.name)&&Zt o.name)→f' 4=.int .i64 (j:Nat)→f' 5=.int .i64 ((i+1:Nat):Int)→∃k,k<x.ops.length-i∧I k ⟨f',[fr],[]⟩:=by
   intro f' a1 a3 a4 a5;exact⟨x.ops.length-(i+1),by omega,f',i+1,rfl,rfl,by omega,a1,by rw[a3,ht,QPq],a4,a5⟩
  simp only[PO.cells]at hgm;cases hb:(b&&(x.ops.take i).all fun o=>Zt o.name)
  ·rw[hb]at fin h3;simp only[Qt hlt,PO.cells,h3,hc,e1,Qb,seval];exact fin _ (by exact h1) (by rfl) (by exact ha) (by rfl)
  ·rw[hb,QQk]at fin;rw[hb]at h3;simp only[Qt hlt,Qm,QP7,Qf,hjm,hgm,PO.cells,h1,m1,h3,ha,hc,eE,seval];refine Qa (z62 o.name) rfl rfl rfl (.inl rfl) ?_;simp only[hc,e1,Qb,seval];exact fin _ (by exact h1) (by rfl) (by exact ha) (by rfl)
 ·have hf:(x.ops.take i).all (fun o=>Zt o.name)=x.ops.all fun o=>Zt o.name:=by rw[QPe (by omega)]
  rw[hf]at h3;simp only[QS hlt,Qb,seval];exact hx _ (by exact h1) (by exact h3) (by exact ha)

theorem Ct (ha:f 4=.int .i64 0)(hx:∀f,f 1=.ptr 0 1 0→f 3=.bool (b&&P.progs.all YV)→Q (.exit 0) (⟨f,[fr],[]⟩:St)):QJ Tryz.prog (.loop S7) ⟨f,[fr],[]⟩ Q:=by
 let I:Nat→St→Prop:=fun k st=>∃f i,st=⟨f,[fr],[]⟩∧k=P.progs.length-i∧i≤P.progs.length∧f 1=.ptr 0 1 0∧f 3=.bool (b&&(P.progs.take i).all YV)∧f 4=.int .i64 (i:Nat)
 have m1':=m1;refine Qg I _ ⟨f,0,rfl,rfl,QOM _,h1,by rw[h3];simp,ha⟩ ?_;clear h1 h3 ha;simp only[Pc]at m1;rintro _ st ⟨f,i,rfl,rfl,hi,h1,h3,ha⟩;simp only[QPz,h1,m1,ha,eE,seval];by_cases hlt:i<P.progs.length
 ·obtain⟨x,hg⟩:∃x,P.progs[i]? = some x:=⟨P.progs[i],QOH hlt⟩;have hgm:(P.progs.map Qp)[i]? = some (.agg x.cells):=by simp[hg,Qp]
  have e1:=Qx i _ hlt hP.len1;have ht:=Xj (q:=YV) hg;have hq:YV x=(Yn x.name&&x.ops.all fun o=>Zt o.name):=rfl;have fin:∀f':Fr,f' 1=.ptr 0 1 0→f' 3=.bool (((b&&(P.progs.take i).all YV)&&Yn x.name)&&x.ops.all fun o=>Zt o.name)→f' 4=.int .i64 ((i+1:Nat):Int)→∃k,k<P.progs.length-i∧I k ⟨f',[fr],[]⟩:=by
   intro f' a1 a3 a4;exact⟨P.progs.length-(i+1),by omega,f',i+1,rfl,rfl,by omega,a1,by rw[a3,ht,hq,QPq,QPq],a4⟩
  simp only[PG.cells]at hgm;cases hb:(b&&(P.progs.take i).all YV)
  ·rw[hb,QQa]at fin;rw[hb]at h3;simp only[Qt hlt,h3,Qb,seval];refine Gx P hP fr m1' _ false (by exact h1) (by rfl) _ i x hg (by exact ha) (by rfl) (fun f h1 h3 ha=>?_);simp only[ha,e1,Qb,seval];exact fin _ (by exact h1) (by exact h3) (by rfl)
  ·rw[hb,QQk]at fin;rw[hb]at h3;simp only[Qt hlt,Qm,QP7,Qf,hgm,h1,m1,h3,ha,eE,seval];refine Qa (z61 x.name) rfl rfl rfl (.inl rfl) ?_;simp only[Qb,seval];refine Gx P hP fr m1' _ (Yn x.name) (by exact h1) (by rfl) _ i x hg (by exact ha) (by rfl) (fun f h1 h3 ha=>?_);simp only[ha,e1,Qb,seval];exact fin _ (by exact h1) (by exact h3) (by rfl)
 ·have hf:(P.progs.take i).all YV=P.progs.all YV:=by rw[QPe (by omega)]
  rw[hf]at h3;simp only[QS hlt,Qb,seval];exact hx _ (by exact h1) (by exact h3)

theorem Gy (j:Nat)(x:PE)(hj:P.enums[j]? = some x)(ha:f 6=.int .i64 (j:Nat))(hc:f 7=.int .i64 0)(hx:∀f,f 1=.ptr 0 1 0→f 3=.bool (b&&x.items.all fun o=>Zt o.name)→f 6=.int .i64 (j:Nat)→Q (.exit 6) (⟨f,[fr],[]⟩:St)):QJ Tryz.prog (.loop S8) ⟨f,[fr],[]⟩ Q:=by
 let I:Nat→St→Prop:=fun k st=>∃f i,st=⟨f,[fr],[]⟩∧k=x.items.length-i∧i≤x.items.length∧f 1=.ptr 0 1 0∧f 3=.bool (b&&(x.items.take i).all fun o=>Zt o.name)∧f 6=.int .i64 (j:Nat)∧f 7=.int .i64 (i:Nat)
 have hjm:(P.enums.map QV)[j]? = some (.agg x.cells):=by simp[hj,QV]
 have hsl:x.items.length≤maxLen:=(hP.enums x (QOR hj)).len1;refine Qg I _ ⟨f,0,rfl,rfl,QOM _,h1,by rw[h3];simp,ha,hc⟩ ?_;clear h1 h3 ha hc;simp only[Pc]at m1;simp only[PE.cells]at hjm;rintro _ st ⟨f,i,rfl,rfl,hi,h1,h3,ha,hc⟩;simp only[Qm,QP7,Qf,hjm,QPz,h1,m1,ha,hc,eE,seval];by_cases hlt:i<x.items.length
 ·obtain⟨o,hg⟩:∃o,x.items[i]? = some o:=⟨x.items[i],QOH hlt⟩;have hgm:(x.items.map fun o=>AV.agg o.cells)[i]? = some (.agg o.cells):=by simp[hg]
  have e1:=Qx i _ hlt hsl;have ht:=Xj (q:=fun o=>Zt o.name) hg;have fin:∀f':Fr,f' 1=.ptr 0 1 0→f' 3=.bool ((b&&(x.items.take i).all fun o=>Zt o.name)&&Zt o.name)→f' 6=.int .i64 (j:Nat)→f' 7=.int .i64 ((i+1:Nat):Int)→∃k,k<x.items.length-i∧I k ⟨f',[fr],[]⟩:=by
   intro f' a1 a3 a4 a5;exact⟨x.items.length-(i+1),by omega,f',i+1,rfl,rfl,by omega,a1,by rw[a3,ht,QPq],a4,a5⟩
  simp only[PI.cells]at hgm;cases hb:(b&&(x.items.take i).all fun o=>Zt o.name)
  ·rw[hb]at fin h3;simp only[Qt hlt,PI.cells,h3,hc,e1,Qb,seval];exact fin _ (by exact h1) (by rfl) (by exact ha) (by rfl)
  ·rw[hb,QQk]at fin;rw[hb]at h3;simp only[Qt hlt,Qm,QP7,Qf,hjm,hgm,PI.cells,h1,m1,h3,ha,hc,eE,seval];refine Qa (z62 o.name) rfl rfl rfl (.inl rfl) ?_;simp only[hc,e1,Qb,seval];exact fin _ (by exact h1) (by rfl) (by exact ha) (by rfl)
 ·have hf:(x.items.take i).all (fun o=>Zt o.name)=x.items.all fun o=>Zt o.name:=by rw[QPe (by omega)]
  rw[hf]at h3;simp only[QS hlt,Qb,seval];exact hx _ (by exact h1) (by exact h3) (by exact ha)

theorem Cu (ha:f 6=.int .i64 0)(hx:∀f,f 1=.ptr 0 1 0→f 3=.bool (b&&P.enums.all YW)→Q (.exit 4) (⟨f,[fr],[]⟩:St)):QJ Tryz.prog (.loop S9) ⟨f,[fr],[]⟩ Q:=by
 let I:Nat→St→Prop:=fun k st=>∃f i,st=⟨f,[fr],[]⟩∧k=P.enums.length-i∧i≤P.enums.length∧f 1=.ptr 0 1 0∧f 3=.bool (b&&(P.enums.take i).all YW)∧f 6=.int .i64 (i:Nat)
 have m1':=m1;refine Qg I _ ⟨f,0,rfl,rfl,QOM _,h1,by rw[h3];simp,ha⟩ ?_;clear h1 h3 ha;simp only[Pc]at m1;rintro _ st ⟨f,i,rfl,rfl,hi,h1,h3,ha⟩;simp only[QPz,h1,m1,ha,eE,seval];by_cases hlt:i<P.enums.length
 ·obtain⟨x,hg⟩:∃x,P.enums[i]? = some x:=⟨P.enums[i],QOH hlt⟩;have hgm:(P.enums.map QV)[i]? = some (.agg x.cells):=by simp[hg,QV]
  have e1:=Qx i _ hlt hP.len2;have ht:=Xj (q:=YW) hg;have hq:YW x=(Yn x.name&&x.items.all fun o=>Zt o.name):=rfl;have fin:∀f':Fr,f' 1=.ptr 0 1 0→f' 3=.bool (((b&&(P.enums.take i).all YW)&&Yn x.name)&&x.items.all fun o=>Zt o.name)→f' 6=.int .i64 ((i+1:Nat):Int)→∃k,k<P.enums.length-i∧I k ⟨f',[fr],[]⟩:=by
   intro f' a1 a3 a4;exact⟨P.enums.length-(i+1),by omega,f',i+1,rfl,rfl,by omega,a1,by rw[a3,ht,hq,QPq,QPq],a4⟩
  simp only[PE.cells]at hgm;cases hb:(b&&(P.enums.take i).all YW)
  ·rw[hb,QQa]at fin;rw[hb]at h3;simp only[Qt hlt,h3,Qb,seval];refine Gy P hP fr m1' _ false (by exact h1) (by rfl) _ i x hg (by exact ha) (by rfl) (fun f h1 h3 ha=>?_);simp only[ha,e1,Qb,seval];exact fin _ (by exact h1) (by exact h3) (by rfl)
  ·rw[hb,QQk]at fin;rw[hb]at h3;simp only[Qt hlt,Qm,QP7,Qf,hgm,h1,m1,h3,ha,eE,seval];refine Qa (z61 x.name) rfl rfl rfl (.inl rfl) ?_;simp only[Qb,seval];refine Gy P hP fr m1' _ (Yn x.name) (by exact h1) (by rfl) _ i x hg (by exact ha) (by rfl) (fun f h1 h3 ha=>?_);simp only[ha,e1,Qb,seval];exact fin _ (by exact h1) (by exact h3) (by rfl)
 ·have hf:(P.enums.take i).all YW=P.enums.all YW:=by rw[QPe (by omega)]
  rw[hf]at h3;simp only[QS hlt,Qb,seval];exact hx _ (by exact h1) (by exact h3)

theorem YX (j:Nat)(x:PG)(hj:P.progs[j]? = some x)(ha:f 4=.int .i64 (j:Nat))(hc:f 5=.int .i64 1)(hx:∀f,f 1=.ptr 0 1 0→f 3=.bool (b&&KZ x)→f 4=.int .i64 (j:Nat)→Q (.exit 2) (⟨f,[fr],[]⟩:St)):QJ Tryz.prog (.loop Th) ⟨f,[fr],[]⟩ Q:=by
 let I:Nat→St→Prop:=fun k st=>∃f i,st=⟨f,[fr],[]⟩∧k=x.ops.length-i∧f 1=.ptr 0 1 0∧f 3=.bool (b&&QM (Za x.ops (Jr PO.num)) (i+1))∧f 4=.int .i64 (j:Nat)∧f 5=.int .i64 ((i+1:Nat):Int)∧(i+1≤x.ops.length∨i=0)
 have hjm:(P.progs.map Qp)[j]? = some (.agg x.cells):=by simp[hj,Qp]
 have hsl:x.ops.length≤maxLen:=(hP.progs x (QOR hj)).len;refine Qg I _ ⟨f,0,rfl,rfl,h1,by rw[h3];simp[QM,Za],ha,hc,.inr rfl⟩ ?_;clear h1 h3 ha hc;simp only[Pc]at m1;simp only[PG.cells]at hjm;rintro _ st ⟨f,i,rfl,rfl,h1,h3,ha,hc,hi⟩;simp only[Qm,QP7,Qf,hjm,QPz,h1,m1,ha,hc,eE,seval];by_cases hlt:i+1<x.ops.length
 ·obtain⟨o,hg⟩:∃o,x.ops[i]? = some o:=⟨x.ops[i]'(by omega),QOH (by omega)⟩;obtain⟨o2,hg2⟩:∃o,x.ops[i+1]? = some o:=⟨x.ops[i+1],QOH hlt⟩;have hgm:(x.ops.map fun o=>AV.agg o.cells)[i]? = some (.agg o.cells):=by simp[hg]
  have hgm2:(x.ops.map fun o=>AV.agg o.cells)[i+1]? = some (.agg o2.cells):=by simp[hg2]
  have e1:=Qx (i+1) _ hlt hsl;have e2:=Dn i _ hlt hsl;have ht:=JB b (Za x.ops (Jr PO.num)) (i+1);rw[Yx hg hg2]at ht;have hq:(Jr PO.num) o o2=decide (o.num<o2.num):=rfl;rw[hq]at ht;have fin:∀f':Fr,f' 1=.ptr 0 1 0→f' 3=.bool ((b&&QM (Za x.ops (Jr PO.num)) (i+1))&&decide (o.num<o2.num))→f' 4=.int .i64 (j:Nat)→f' 5=.int .i64 ((i+1+1:Nat):Int)→∃k,k<x.ops.length-i∧I k ⟨f',[fr],[]⟩:=by
   intro f' a1 a3 a4 a5;exact⟨x.ops.length-(i+1),by omega,f',i+1,rfl,rfl,a1,by rw[a3,ht],a4,a5,.inl (by omega)⟩
  simp only[PO.cells]at hgm hgm2;cases hb:(b&&QM (Za x.ops (Jr PO.num)) (i+1))
  ·rw[hb]at fin h3;simp only[Qt hlt,PO.cells,h3,hc,e1,Qb,seval];exact fin _ (by exact h1) (by rfl) (by exact ha) (by rfl)
  ·rw[hb,QQk]at fin;rw[hb]at h3;simp only[Qt hlt,Qm,QP7,Qf,hjm,hgm,hgm2,PO.cells,h1,m1,h3,ha,hc,e1,e2,eE,seval];exact fin _ (by exact h1) (by rfl) (by exact ha) (by rfl)
 ·have hf:QM (Za x.ops (Jr PO.num)) (i+1)=KZ x:=by
   show _=QM (Za x.ops (Jr PO.num)) x.ops.length;rcases hi with h|h
   ·rw[show i+1=x.ops.length by omega]
   ·subst h;rcases QPu x.ops.length with h0|h0
    ·rw[h0];rfl
    ·rw[show x.ops.length=1 by omega]
  rw[hf]at h3;simp only[QS hlt,Qb,seval];exact hx _ (by exact h1) (by exact h3) (by exact ha)

theorem Cv (ha:f 4=.int .i64 0)(hx:∀f,f 1=.ptr 0 1 0→f 3=.bool (b&&(JU P.progs (ZF PG.name)&&P.progs.all KZ))→Q (.exit 0) (⟨f,[fr],[]⟩:St)):QJ Tryz.prog (.loop Ti) ⟨f,[fr],[]⟩ Q:=by
 let q:Nat→Bool:=fun i=>Za P.progs (ZF PG.name) i&&Hm P.progs KZ i
 let I:Nat→St→Prop:=fun k st=>∃f i,st=⟨f,[fr],[]⟩∧k=P.progs.length-i∧i≤P.progs.length∧f 1=.ptr 0 1 0∧f 3=.bool (b&&QM q i)∧f 4=.int .i64 (i:Nat)
 have m1':=m1;have hqa:QM q P.progs.length=(JU P.progs (ZF PG.name)&&P.progs.all KZ):=by
  show QM (fun i=>Za P.progs (ZF PG.name) i&&Hm P.progs KZ i) _=_;rw[HC,HD];rfl
 refine Qg I _ ⟨f,0,rfl,rfl,QOM _,h1,by rw[h3];simp[QM],ha⟩ ?_;clear h1 h3 ha;simp only[Pc]at m1;rintro _ st ⟨f,i,rfl,rfl,hi,h1,h3,ha⟩;simp only[QPz,h1,m1,ha,eE,seval];by_cases hlt:i<P.progs.length
 ·obtain⟨x,hg⟩:∃x,P.progs[i]? = some x:=⟨P.progs[i],QOH hlt⟩;have hgm:(P.progs.map Qp)[i]? = some (.agg x.cells):=by simp[hg,Qp]
  have e1:=Qx i _ hlt hP.len1;have ht:=JB b q i;have hq:q i=(Za P.progs (ZF PG.name) i&&KZ x):=by show(_&&Hm P.progs KZ i)=_;rw[Ux hg]
  rw[hq,←QPq]at ht;have fin:∀f':Fr,f' 1=.ptr 0 1 0→f' 3=.bool (((b&&QM q i)&&Za P.progs (ZF PG.name) i)&&KZ x)→f' 4=.int .i64 ((i+1:Nat):Int)→∃k,k<P.progs.length-i∧I k ⟨f',[fr],[]⟩:=by
   intro f' a1 a3 a4;exact⟨P.progs.length-(i+1),by omega,f',i+1,rfl,rfl,by omega,a1,by rw[a3,ht],a4⟩
  simp only[PG.cells]at hgm;cases hb:(b&&QM q i)
  ·rw[hb,QQa]at fin;rw[hb]at h3;simp only[Qt hlt,h3,Qb,seval];refine YX P hP fr m1' _ false (by exact h1) (by rfl) _ i x hg (by exact ha) (by rfl) (fun f h1 h3 ha=>?_);simp only[ha,e1,Qb,seval];exact fin _ (by exact h1) (by exact h3) (by rfl)
  ·rw[hb,QQk]at fin;rw[hb]at h3;cases i with
   |zero=>
    have b0:(((0:Nat):Int)==0)=true:=rfl;rw[HE]at fin;simp only[Qt hlt,b0,h3,ha,Qb,Nat.reduceBEq,↓reduceIte];refine YX P hP fr m1' _ true (by exact h1) (by rfl) _ 0 x hg (by exact ha) (by rfl) (fun f h1 h3 ha=>?_);simp only[ha,e1,Qb,Nat.reduceBEq,↓reduceIte,Nat.reduceAdd];exact fin _ (by exact h1) (by exact h3) (by rfl)
   |succ j=>
    obtain⟨y,hgj⟩:∃y,P.progs[j]? = some y:=⟨P.progs[j]'(by omega),QOH (by omega)⟩;have hgjm:(P.progs.map Qp)[j]? = some (.agg y.cells):=by simp[hgj,Qp]
    have b0:(((j+1:Nat):Int)==0)=false:=by rw[QQp];omega
    have e2:=Dn j _ hlt hP.len1;rw[Yx hgj hg]at fin;have hq2:(ZF PG.name) y x=Op.bytesLess y.name x.name:=rfl;rw[hq2]at fin;simp only[PG.cells]at hgjm;simp only[Qt hlt,Qm,QP7,Qf,hgm,hgjm,b0,e2,Q2,h1,m1,h3,ha,eE,seval];refine YX P hP fr m1' _ (Op.bytesLess y.name x.name) (by exact h1) (by rfl) _ (j+1) x hg (by exact ha) (by rfl) (fun f h1 h3 ha=>?_);simp only[ha,e1,Qb,seval];exact fin _ (by exact h1) (by exact h3) (by rfl)
 ·have hf:QM q i=(JU P.progs (ZF PG.name)&&P.progs.all KZ):=by rw[show i=P.progs.length by omega,hqa]
  rw[hf]at h3;simp only[QS hlt,Qb,seval];exact hx _ (by exact h1) (by exact h3)

theorem YY (j:Nat)(x:PE)(hj:P.enums[j]? = some x)(ha:f 6=.int .i64 (j:Nat))(hc:f 7=.int .i64 1)(hx:∀f,f 1=.ptr 0 1 0→f 3=.bool (b&&Wn x)→f 6=.int .i64 (j:Nat)→Q (.exit 6) (⟨f,[fr],[]⟩:St)):QJ Tryz.prog (.loop Tj) ⟨f,[fr],[]⟩ Q:=by
 let I:Nat→St→Prop:=fun k st=>∃f i,st=⟨f,[fr],[]⟩∧k=x.items.length-i∧f 1=.ptr 0 1 0∧f 3=.bool (b&&QM (Za x.items (Jr PI.num)) (i+1))∧f 6=.int .i64 (j:Nat)∧f 7=.int .i64 ((i+1:Nat):Int)∧(i+1≤x.items.length∨i=0)
 have hjm:(P.enums.map QV)[j]? = some (.agg x.cells):=by simp[hj,QV]
 have hsl:x.items.length≤maxLen:=(hP.enums x (QOR hj)).len1;refine Qg I _ ⟨f,0,rfl,rfl,h1,by rw[h3];simp[QM,Za],ha,hc,.inr rfl⟩ ?_;clear h1 h3 ha hc;simp only[Pc]at m1;simp only[PE.cells]at hjm;rintro _ st ⟨f,i,rfl,rfl,h1,h3,ha,hc,hi⟩;simp only[Qm,QP7,Qf,hjm,QPz,h1,m1,ha,hc,eE,seval];by_cases hlt:i+1<x.items.length
 ·obtain⟨o,hg⟩:∃o,x.items[i]? = some o:=⟨x.items[i]'(by omega),QOH (by omega)⟩;obtain⟨o2,hg2⟩:∃o,x.items[i+1]? = some o:=⟨x.items[i+1],QOH hlt⟩;have hgm:(x.items.map fun o=>AV.agg o.cells)[i]? = some (.agg o.cells):=by simp[hg]
  have hgm2:(x.items.map fun o=>AV.agg o.cells)[i+1]? = some (.agg o2.cells):=by simp[hg2]
  have e1:=Qx (i+1) _ hlt hsl;have e2:=Dn i _ hlt hsl;have ht:=JB b (Za x.items (Jr PI.num)) (i+1);rw[Yx hg hg2]at ht;have hq:(Jr PI.num) o o2=decide (o.num<o2.num):=rfl;rw[hq]at ht;have fin:∀f':Fr,f' 1=.ptr 0 1 0→f' 3=.bool ((b&&QM (Za x.items (Jr PI.num)) (i+1))&&decide (o.num<o2.num))→f' 6=.int .i64 (j:Nat)→f' 7=.int .i64 ((i+1+1:Nat):Int)→∃k,k<x.items.length-i∧I k ⟨f',[fr],[]⟩:=by
   intro f' a1 a3 a4 a5;exact⟨x.items.length-(i+1),by omega,f',i+1,rfl,rfl,a1,by rw[a3,ht],a4,a5,.inl (by omega)⟩
  simp only[PI.cells]at hgm hgm2;cases hb:(b&&QM (Za x.items (Jr PI.num)) (i+1))
  ·rw[hb]at fin h3;simp only[Qt hlt,PI.cells,h3,hc,e1,Qb,seval];exact fin _ (by exact h1) (by rfl) (by exact ha) (by rfl)
  ·rw[hb,QQk]at fin;rw[hb]at h3;simp only[Qt hlt,Qm,QP7,Qf,hjm,hgm,hgm2,PI.cells,h1,m1,h3,ha,hc,e1,e2,eE,seval];exact fin _ (by exact h1) (by rfl) (by exact ha) (by rfl)
 ·have hf:QM (Za x.items (Jr PI.num)) (i+1)=Wn x:=by
   show _=QM (Za x.items (Jr PI.num)) x.items.length;rcases hi with h|h
   ·rw[show i+1=x.items.length by omega]
   ·subst h;rcases QPu x.items.length with h0|h0
    ·rw[h0];rfl
    ·rw[show x.items.length=1 by omega]
  rw[hf]at h3;simp only[QS hlt,Qb,seval];exact hx _ (by exact h1) (by exact h3) (by exact ha)

theorem Cw (ha:f 6=.int .i64 0)(hx:∀f,f 1=.ptr 0 1 0→f 3=.bool (b&&(JU P.enums (ZF PE.name)&&P.enums.all Wn))→Q (.exit 4) (⟨f,[fr],[]⟩:St)):QJ Tryz.prog (.loop Tk) ⟨f,[fr],[]⟩ Q:=by
 let q:Nat→Bool:=fun i=>Za P.enums (ZF PE.name) i&&Hm P.enums Wn i
 let I:Nat→St→Prop:=fun k st=>∃f i,st=⟨f,[fr],[]⟩∧k=P.enums.length-i∧i≤P.enums.length∧f 1=.ptr 0 1 0∧f 3=.bool (b&&QM q i)∧f 6=.int .i64 (i:Nat)
 have m1':=m1;have hqa:QM q P.enums.length=(JU P.enums (ZF PE.name)&&P.enums.all Wn):=by
  show QM (fun i=>Za P.enums (ZF PE.name) i&&Hm P.enums Wn i) _=_;rw[HC,HD];rfl
 refine Qg I _ ⟨f,0,rfl,rfl,QOM _,h1,by rw[h3];simp[QM],ha⟩ ?_;clear h1 h3 ha;simp only[Pc]at m1;rintro _ st ⟨f,i,rfl,rfl,hi,h1,h3,ha⟩;simp only[QPz,h1,m1,ha,eE,seval];by_cases hlt:i<P.enums.length
 ·obtain⟨x,hg⟩:∃x,P.enums[i]? = some x:=⟨P.enums[i],QOH hlt⟩;have hgm:(P.enums.map QV)[i]? = some (.agg x.cells):=by simp[hg,QV]
  have e1:=Qx i _ hlt hP.len2;have ht:=JB b q i;have hq:q i=(Za P.enums (ZF PE.name) i&&Wn x):=by show(_&&Hm P.enums Wn i)=_;rw[Ux hg]
  rw[hq,←QPq]at ht;have fin:∀f':Fr,f' 1=.ptr 0 1 0→f' 3=.bool (((b&&QM q i)&&Za P.enums (ZF PE.name) i)&&Wn x)→f' 6=.int .i64 ((i+1:Nat):Int)→∃k,k<P.enums.length-i∧I k ⟨f',[fr],[]⟩:=by
   intro f' a1 a3 a4;exact⟨P.enums.length-(i+1),by omega,f',i+1,rfl,rfl,by omega,a1,by rw[a3,ht],a4⟩
  simp only[PE.cells]at hgm;cases hb:(b&&QM q i)
  ·rw[hb,QQa]at fin;rw[hb]at h3;simp only[Qt hlt,h3,Qb,seval];refine YY P hP fr m1' _ false (by exact h1) (by rfl) _ i x hg (by exact ha) (by rfl) (fun f h1 h3 ha=>?_);simp only[ha,e1,Qb,seval];exact fin _ (by exact h1) (by exact h3) (by rfl)
  ·rw[hb,QQk]at fin;rw[hb]at h3;cases i with
   |zero=>
    have b0:(((0:Nat):Int)==0)=true:=rfl;rw[HE]at fin;simp only[Qt hlt,b0,h3,ha,Qb,Nat.reduceBEq,↓reduceIte];refine YY P hP fr m1' _ true (by exact h1) (by rfl) _ 0 x hg (by exact ha) (by rfl) (fun f h1 h3 ha=>?_);simp only[ha,e1,Qb,Nat.reduceBEq,↓reduceIte,Nat.reduceAdd];exact fin _ (by exact h1) (by exact h3) (by rfl)
   |succ j=>
    obtain⟨y,hgj⟩:∃y,P.enums[j]? = some y:=⟨P.enums[j]'(by omega),QOH (by omega)⟩;have hgjm:(P.enums.map QV)[j]? = some (.agg y.cells):=by simp[hgj,QV]
    have b0:(((j+1:Nat):Int)==0)=false:=by rw[QQp];omega
    have e2:=Dn j _ hlt hP.len2;rw[Yx hgj hg]at fin;have hq2:(ZF PE.name) y x=Op.bytesLess y.name x.name:=rfl;rw[hq2]at fin;simp only[PE.cells]at hgjm;simp only[Qt hlt,Qm,QP7,Qf,hgm,hgjm,b0,e2,Q2,h1,m1,h3,ha,eE,seval];refine YY P hP fr m1' _ (Op.bytesLess y.name x.name) (by exact h1) (by rfl) _ (j+1) x hg (by exact ha) (by rfl) (fun f h1 h3 ha=>?_);simp only[ha,e1,Qb,seval];exact fin _ (by exact h1) (by exact h3) (by rfl)
 ·have hf:QM q i=(JU P.enums (ZF PE.name)&&P.enums.all Wn):=by rw[show i=P.enums.length by omega,hqa]
  rw[hf]at h3;simp only[QS hlt,Qb,seval];exact hx _ (by exact h1) (by exact h3)

end

section
variable {M:Nat}(P:PL)(hP:P.ok M)
include hP

theorem z28:Qj Tryz.prog 28 [P.av] (.bool (Bd P)):=by
 have e0:P.av=.agg [.list (P.progs.map Qp),.list (P.enums.map QV)]:=rfl;have e1:decide ((P.progs.length:Int)≤64)=decide (P.progs.length≤64):=by rw[decide_eq_decide];omega
 have e2:decide ((P.enums.length:Int)≤64)=decide (P.enums.length≤64):=by rw[decide_eq_decide];omega
 refine k28.fn (by simp) ?_;simp only[e0,QPz,e1,eE,seval];have hl:Bd P=((decide (P.progs.length≤64)&&decide (P.enums.length≤64)&&P.progs.all KX)&&P.enums.all KY):=rfl;cases a1:decide (P.progs.length≤64)<;>simp only[e2,QPz,eE,seval]
 all_goals
  refine Cq P hP _ (by rfl) _ _ (by rfl) (by rfl) _ (by rfl) (fun f h1 h3=>?_);simp only[Qb,seval];refine Cr P hP _ (by rfl) _ _ (by exact h1) (by exact h3) _ (by rfl) (fun f h1 h3=>?_);simp only[h3,hl,a1,QQa,QQk,Qb,seval]

theorem z29:Qj Tryz.prog 29 [P.av] (.bool (TD P)):=by
 have e0:P.av=.agg [.list (P.progs.map Qp),.list (P.enums.map QV)]:=rfl;refine k29.fn (by simp) ?_;simp only[e0,eE,seval];refine Ct P hP _ (by rfl) _ true (by rfl) (by rfl) _ (by rfl) (fun f h1 h3=>?_);simp only[Qb,seval];refine Cu P hP _ (by rfl) _ _ (by exact h1) (by exact h3) _ (by rfl) (fun f h1 h3=>?_);simp only[h3,TD,QQk,Qb,seval]

theorem z30:Qj Tryz.prog 30 [P.av] (.bool (Be P)):=by
 have e0:P.av=.agg [.list (P.progs.map Qp),.list (P.enums.map QV)]:=rfl;have e:Be P=((JU P.progs (ZF PG.name)&&P.progs.all KZ)&&(JU P.enums (ZF PE.name)&&P.enums.all Wn)):=by
  unfold Be;cases JU P.progs (ZF PG.name)<;>cases P.progs.all KZ<;>cases JU P.enums (ZF PE.name)<;>rfl
 refine k30.fn (by simp) ?_;simp only[e0,eE,seval];refine Cv P hP _ (by rfl) _ true (by rfl) (by rfl) _ (by rfl) (fun f h1 h3=>?_);simp only[Qb,seval];refine Cw P hP _ (by rfl) _ _ (by exact h1) (by exact h3) _ (by rfl) (fun f h1 h3=>?_);simp only[h3,e,QQk,Qb,seval]

end

theorem z63 (L:List PS)(hl:L.length≤maxLen)(n:Int):Qj Tryz.prog 63 [.list (L.map HH),.int .i64 n] (.bool (kept L n)):=by
 let I:Nat→St→Prop:=fun k st=>∃f i,st=⟨f,[QD],[]⟩∧k=L.length-i∧kept L n=kept (L.drop i) n∧f 0=.list (L.map HH)∧f 1=.int .i64 n∧f 5=.int .i64 (i:Nat)
 refine k63.fn (by simp) ?_;simp only[Qb,seval];refine Qg I _ ⟨_,0,rfl,rfl,rfl,(by rfl),(by rfl),(by rfl)⟩ ?_;rintro _ st ⟨f,i,rfl,rfl,hx,h0,h1,h5⟩;simp only[QPz,h0,h5,Qb,seval];by_cases hlt:i<L.length
 ·obtain⟨x,hi⟩:∃x,L[i]? = some x:=⟨L[i],QOH hlt⟩;have hg:(L.map HH)[i]? = some (HH x):=by simp[hi]
  have e1:=Qx i _ hlt hl;have hd:kept (L.drop i) n=((decide (x.lo≤n)&&decide (n≤x.hi))||kept (L.drop (i+1)) n):=by
   unfold kept;rw[QPo hlt,show L[i]=x from(QOG.1 hi).2];rfl
  rw[hd]at hx;simp only[Qt hlt,Qm,QP7,Qf,hg,HH,PS.cells,h0,h1,h5,eE,seval];cases a1:decide (x.lo≤n)
  ·rw[a1,QQa,QQo]at hx;simp only[h5,e1,Qb,seval];exact⟨L.length-(i+1),by omega,_,i+1,rfl,rfl,hx,(by exact h0),(by exact h1),(by rfl)⟩
  ·cases a2:decide (n≤x.hi)
   ·rw[a1,a2,QQy,QQo]at hx;simp only[a2,Qm,QP7,Qf,hg,HH,PS.cells,h0,h1,h5,e1,eE,seval];exact⟨L.length-(i+1),by omega,_,i+1,rfl,rfl,hx,(by exact h0),(by exact h1),(by rfl)⟩
   ·rw[a1,a2,QPS,QQn]at hx;simp only[a2,Qm,QP7,Qf,hg,HH,PS.cells,h0,h1,h5,hx,eE,seval]
 ·have hx':kept L n=false:=by rw[hx,QPh (by omega)];rfl
  simp only[QS hlt,hx',Qb,seval]

section
variable {M:Nat}(P:PL)(hP:P.ok M)(fr:Nat→Ob)(m1:fr 1=.cells (Pc P))(f:Fr)(b:Bool)(h1:f 1=.ptr 0 1 0)(h3:f 3=.bool b)(Q:Exit→St→Prop)

include h1 h3 in
theorem R5 (L:List PO)(hl:L.length≤maxLen)(j:Nat)(x:PO)(hj:L[j]? = some x)(n:Nat)(hr:f 4=.int .i64 (n:Nat))(hL:f 6=.list (L.map fun o=>.agg o.cells))(hc:f 7=.int .i64 (j:Nat))(hd:f 8=.int .i64 0)
  (hx:∀f,f 1=.ptr 0 1 0→f 3=.bool (b&&(L.take j).all fun y=>!(y.name==x.name))→f 4=.int .i64 (n:Nat)→f 6=.list (L.map fun o=>.agg o.cells)→f 7=.int .i64 (j:Nat)→Q (.exit 6) (⟨f,[fr],[]⟩:St)) :
  QJ Tryz.prog (.loop Tr) ⟨f,[fr],[]⟩ Q:=by
 let I:Nat→St→Prop:=fun k st=>∃f i,st=⟨f,[fr],[]⟩∧k=j-i∧i≤j∧f 1=.ptr 0 1 0∧f 3=.bool (b&&(L.take i).all fun y=>!(y.name==x.name))∧f 4=.int .i64 (n:Nat)∧f 6=.list (L.map fun o=>.agg o.cells)∧f 7=.int .i64 (j:Nat)∧f 8=.int .i64 (i:Nat)
 have hjl:j<L.length:=(QOG.1 hj).1;have hjm:(L.map fun o=>AV.agg o.cells)[j]? = some (.agg x.cells):=by simp[hj]
 refine Qg I _ ⟨f,0,rfl,rfl,QOM _,h1,by rw[h3];simp,hr,hL,hc,hd⟩ ?_;clear h1 h3 hr hL hc hd;simp only[PO.cells]at hjm;rintro _ st ⟨f,i,rfl,rfl,hi,h1,h3,hr,hL,hc,hd⟩;simp only[hc,hd,Qb,seval];by_cases hlt:i<j
 ·obtain⟨o,hg⟩:∃o,L[i]? = some o:=⟨L[i]'(by omega),QOH (by omega)⟩;have hgm:(L.map fun o=>AV.agg o.cells)[i]? = some (.agg o.cells):=by simp[hg]
  have e1:=Qx i _ (show i<L.length by omega) hl;have ht:=Xj (q:=fun y:PO=>!(y.name==x.name)) hg;have fin:∀f':Fr,f' 1=.ptr 0 1 0→f' 3=.bool ((b&&(L.take i).all fun y=>!(y.name==x.name)) && !(o.name==x.name))→f' 4=.int .i64 (n:Nat)→f' 6=.list (L.map fun o=>.agg o.cells)→f' 7=.int .i64 (j:Nat)→f' 8=.int .i64 ((i+1:Nat):Int)→∃k,k<j-i∧I k ⟨f',[fr],[]⟩:=by
   intro f' a1 a3 a4 a5 a6 a7;exact⟨j-(i+1),by omega,f',i+1,rfl,rfl,by omega,a1,by rw[a3,ht,QPq],a4,a5,a6,a7⟩
  simp only[PO.cells]at hgm;cases hb:(b&&(L.take i).all fun y=>!(y.name==x.name))
  ·rw[hb]at fin h3;simp only[Qt hlt,h3,hd,e1,Qb,seval];exact fin _ (by exact h1) (by rfl) (by exact hr) (by exact hL) (by exact hc) (by rfl)
  ·rw[hb,QQk]at fin;rw[hb]at h3;simp only[Qt hlt,Qm,QP7,Qf,hgm,hjm,PO.cells,Q2,h3,hL,hc,hd,e1,eE,seval];exact fin _ (by exact h1) (by rfl) (by exact hr) (by exact hL) (by exact hc) (by rfl)
 ·rw[show i=j by omega]at h3;simp only[QS hlt,Qb,seval];exact hx _ (by exact h1) (by exact h3) (by exact hr) (by exact hL) (by exact hc)

include h1 h3 in
theorem R6 (L:List PO)(hl:L.length≤maxLen)(n:Nat)(hr:f 4=.int .i64 (n:Nat))(hL:f 6=.list (L.map fun o=>.agg o.cells))(hc:f 7=.int .i64 0)
  (hx:∀f,f 1=.ptr 0 1 0→f 3=.bool (b&&Dl L PO.name)→f 4=.int .i64 (n:Nat)→Q (.exit 4) (⟨f,[fr],[]⟩:St)) :
  QJ Tryz.prog (.loop Ts) ⟨f,[fr],[]⟩ Q:=by
 let I:Nat→St→Prop:=fun k st=>∃f i,st=⟨f,[fr],[]⟩∧k=L.length-i∧i≤L.length∧f 1=.ptr 0 1 0∧f 3=.bool (b&&QM (uniq L PO.name) i)∧f 4=.int .i64 (n:Nat)∧f 6=.list (L.map fun o=>.agg o.cells)∧f 7=.int .i64 (i:Nat)
 refine Qg I _ ⟨f,0,rfl,rfl,QOM _,h1,by rw[h3];simp[QM],hr,hL,hc⟩ ?_;clear h1 h3 hr hL hc;rintro _ st ⟨f,i,rfl,rfl,hi,h1,h3,hr,hL,hc⟩;simp only[QPz,hL,hc,Qb,seval];by_cases hlt:i<L.length
 ·obtain⟨o,hg⟩:∃o,L[i]? = some o:=⟨L[i],QOH hlt⟩;have e1:=Qx i _ hlt hl;have ht:=JB b (uniq L PO.name) i;rw[N6 hg]at ht;simp only[Qt hlt,Qb,seval];refine R5 fr _ (b&&QM (uniq L PO.name) i) (by exact h1) (by exact h3) _ L hl i o hg n (by exact hr) (by exact hL) (by exact hc) (by rfl) (fun f h1 h3 hr hL hc=>?_);simp only[hc,e1,Qb,seval];exact⟨L.length-(i+1),by omega,_,i+1,rfl,rfl,by omega,(by exact h1),by rw[ht]<;>first|exact h3|simp only[h3,eE,seval],(by exact hr),(by exact hL),(by rfl)⟩
 ·rw[show i=L.length by omega]at h3;simp only[QS hlt,Qb,seval];exact hx _ (by exact h1) (by exact h3) (by exact hr)

include h1 h3 in
theorem Cx (L:List PI)(hl:L.length≤maxLen)(j:Nat)(x:PI)(hj:L[j]? = some x)(n:Nat)(hr:f 9=.int .i64 (n:Nat))(hL:f 10=.list (L.map fun o=>.agg o.cells))(hc:f 11=.int .i64 (j:Nat))(hd:f 12=.int .i64 0)
  (hx:∀f,f 1=.ptr 0 1 0→f 3=.bool (b&&(L.take j).all fun y=>!(y.name==x.name))→f 9=.int .i64 (n:Nat)→f 10=.list (L.map fun o=>.agg o.cells)→f 11=.int .i64 (j:Nat)→Q (.exit 12) (⟨f,[fr],[]⟩:St)) :
  QJ Tryz.prog (.loop Tu) ⟨f,[fr],[]⟩ Q:=by
 let I:Nat→St→Prop:=fun k st=>∃f i,st=⟨f,[fr],[]⟩∧k=j-i∧i≤j∧f 1=.ptr 0 1 0∧f 3=.bool (b&&(L.take i).all fun y=>!(y.name==x.name))∧f 9=.int .i64 (n:Nat)∧f 10=.list (L.map fun o=>.agg o.cells)∧f 11=.int .i64 (j:Nat)∧f 12=.int .i64 (i:Nat)
 have hjl:j<L.length:=(QOG.1 hj).1;have hjm:(L.map fun o=>AV.agg o.cells)[j]? = some (.agg x.cells):=by simp[hj]
 refine Qg I _ ⟨f,0,rfl,rfl,QOM _,h1,by rw[h3];simp,hr,hL,hc,hd⟩ ?_;clear h1 h3 hr hL hc hd;simp only[PI.cells]at hjm;rintro _ st ⟨f,i,rfl,rfl,hi,h1,h3,hr,hL,hc,hd⟩;simp only[hc,hd,Qb,seval];by_cases hlt:i<j
 ·obtain⟨o,hg⟩:∃o,L[i]? = some o:=⟨L[i]'(by omega),QOH (by omega)⟩;have hgm:(L.map fun o=>AV.agg o.cells)[i]? = some (.agg o.cells):=by simp[hg]
  have e1:=Qx i _ (show i<L.length by omega) hl;have ht:=Xj (q:=fun y:PI=>!(y.name==x.name)) hg;have fin:∀f':Fr,f' 1=.ptr 0 1 0→f' 3=.bool ((b&&(L.take i).all fun y=>!(y.name==x.name)) && !(o.name==x.name))→f' 9=.int .i64 (n:Nat)→f' 10=.list (L.map fun o=>.agg o.cells)→f' 11=.int .i64 (j:Nat)→f' 12=.int .i64 ((i+1:Nat):Int)→∃k,k<j-i∧I k ⟨f',[fr],[]⟩:=by
   intro f' a1 a3 a4 a5 a6 a7;exact⟨j-(i+1),by omega,f',i+1,rfl,rfl,by omega,a1,by rw[a3,ht,QPq],a4,a5,a6,a7⟩
  simp only[PI.cells]at hgm;cases hb:(b&&(L.take i).all fun y=>!(y.name==x.name))
  ·rw[hb]at fin h3;simp only[Qt hlt,h3,hd,e1,Qb,seval];exact fin _ (by exact h1) (by rfl) (by exact hr) (by exact hL) (by exact hc) (by rfl)
  ·rw[hb,QQk]at fin;rw[hb]at h3;simp only[Qt hlt,Qm,QP7,Qf,hgm,hjm,PI.cells,Q2,h3,hL,hc,hd,e1,eE,seval];exact fin _ (by exact h1) (by rfl) (by exact hr) (by exact hL) (by exact hc) (by rfl)
 ·rw[show i=j by omega]at h3;simp only[QS hlt,Qb,seval];exact hx _ (by exact h1) (by exact h3) (by exact hr) (by exact hL) (by exact hc)

include h1 h3 in
theorem Cy (L:List PI)(hl:L.length≤maxLen)(n:Nat)(hr:f 9=.int .i64 (n:Nat))(hL:f 10=.list (L.map fun o=>.agg o.cells))(hc:f 11=.int .i64 0)
  (hx:∀f,f 1=.ptr 0 1 0→f 3=.bool (b&&Dl L PI.name)→f 9=.int .i64 (n:Nat)→Q (.exit 10) (⟨f,[fr],[]⟩:St)) :
  QJ Tryz.prog (.loop Tv) ⟨f,[fr],[]⟩ Q:=by
 let I:Nat→St→Prop:=fun k st=>∃f i,st=⟨f,[fr],[]⟩∧k=L.length-i∧i≤L.length∧f 1=.ptr 0 1 0∧f 3=.bool (b&&QM (uniq L PI.name) i)∧f 9=.int .i64 (n:Nat)∧f 10=.list (L.map fun o=>.agg o.cells)∧f 11=.int .i64 (i:Nat)
 refine Qg I _ ⟨f,0,rfl,rfl,QOM _,h1,by rw[h3];simp[QM],hr,hL,hc⟩ ?_;clear h1 h3 hr hL hc;rintro _ st ⟨f,i,rfl,rfl,hi,h1,h3,hr,hL,hc⟩;simp only[QPz,hL,hc,Qb,seval];by_cases hlt:i<L.length
 ·obtain⟨o,hg⟩:∃o,L[i]? = some o:=⟨L[i],QOH hlt⟩;have e1:=Qx i _ hlt hl;have ht:=JB b (uniq L PI.name) i;rw[N6 hg]at ht;simp only[Qt hlt,Qb,seval];refine Cx fr _ (b&&QM (uniq L PI.name) i) (by exact h1) (by exact h3) _ L hl i o hg n (by exact hr) (by exact hL) (by exact hc) (by rfl) (fun f h1 h3 hr hL hc=>?_);simp only[hc,e1,Qb,seval];exact⟨L.length-(i+1),by omega,_,i+1,rfl,rfl,by omega,(by exact h1),by rw[ht]<;>first|exact h3|simp only[h3,eE,seval],(by exact hr),(by exact hL),(by rfl)⟩
 ·rw[show i=L.length by omega]at h3;simp only[QS hlt,Qb,seval];exact hx _ (by exact h1) (by exact h3) (by exact hr)

include hP m1 h1 h3

theorem QJM (j:Nat)(x:PG)(hj:P.progs[j]? = some x)(ha:f 4=.int .i64 (j:Nat))(hc:f 5=.int .i64 0)(hx:∀f,f 1=.ptr 0 1 0→f 3=.bool (b&&P.enums.all fun e=>!(e.name==x.name))→f 4=.int .i64 (j:Nat)→Q (.exit 2) (⟨f,[fr],[]⟩:St)):QJ Tryz.prog (.loop Tq) ⟨f,[fr],[]⟩ Q:=by
 let I:Nat→St→Prop:=fun k st=>∃f i,st=⟨f,[fr],[]⟩∧k=P.enums.length-i∧i≤P.enums.length∧f 1=.ptr 0 1 0∧f 3=.bool (b&&(P.enums.take i).all fun e=>!(e.name==x.name))∧f 4=.int .i64 (j:Nat)∧f 5=.int .i64 (i:Nat)
 have hjm:(P.progs.map Qp)[j]? = some (.agg x.cells):=by simp[hj,Qp]
 refine Qg I _ ⟨f,0,rfl,rfl,QOM _,h1,by rw[h3];simp,ha,hc⟩ ?_;clear h1 h3 ha hc;simp only[Pc]at m1;simp only[PG.cells]at hjm;rintro _ st ⟨f,i,rfl,rfl,hi,h1,h3,ha,hc⟩;simp only[QPz,h1,m1,hc,eE,seval];by_cases hlt:i<P.enums.length
 ·obtain⟨o,hg⟩:∃o,P.enums[i]? = some o:=⟨P.enums[i],QOH hlt⟩;have hgm:(P.enums.map QV)[i]? = some (.agg o.cells):=by simp[hg,QV]
  have e1:=Qx i _ hlt hP.len2;have ht:=Xj (q:=fun y:PE=>!(y.name==x.name)) hg;have hcm:(x.name==o.name)=(o.name==x.name):=by rw[QQv,QO5,QO5];exact⟨Eq.symm,Eq.symm⟩
  have fin:∀f':Fr,f' 1=.ptr 0 1 0→f' 3=.bool ((b&&(P.enums.take i).all fun y=>!(y.name==x.name)) && !(o.name==x.name))→f' 4=.int .i64 (j:Nat)→f' 5=.int .i64 ((i+1:Nat):Int)→∃k,k<P.enums.length-i∧I k ⟨f',[fr],[]⟩:=by
   intro f' a1 a3 a4 a5;exact⟨P.enums.length-(i+1),by omega,f',i+1,rfl,rfl,by omega,a1,by rw[a3,ht,QPq],a4,a5⟩
  simp only[PE.cells]at hgm;cases hb:(b&&(P.enums.take i).all fun y=>!(y.name==x.name))
  ·rw[hb]at fin h3;simp only[Qt hlt,h3,hc,e1,Qb,seval];exact fin _ (by exact h1) (by rfl) (by exact ha) (by rfl)
  ·rw[hb,QQk]at fin;rw[hb]at h3;simp only[Qt hlt,Qm,QP7,Qf,hjm,hgm,Q2,hcm,h1,m1,h3,ha,hc,e1,eE,seval];exact fin _ (by exact h1) (by rfl) (by exact ha) (by rfl)
 ·have hf:(P.enums.take i).all (fun e=>!(e.name==x.name))=P.enums.all fun e=>!(e.name==x.name):=by rw[QPe (by omega)]
  rw[hf]at h3;simp only[QS hlt,Qb,seval];exact hx _ (by exact h1) (by exact h3) (by exact ha)

theorem QJN (ha:f 4=.int .i64 0)(hx:∀f,f 1=.ptr 0 1 0→f 3=.bool (b&&P.progs.all (Uz P))→Q (.exit 0) (⟨f,[fr],[]⟩:St)):QJ Tryz.prog (.loop Tt) ⟨f,[fr],[]⟩ Q:=by
 let I:Nat→St→Prop:=fun k st=>∃f i,st=⟨f,[fr],[]⟩∧k=P.progs.length-i∧i≤P.progs.length∧f 1=.ptr 0 1 0∧f 3=.bool (b&&(P.progs.take i).all (Uz P))∧f 4=.int .i64 (i:Nat)
 have m1':=m1;refine Qg I _ ⟨f,0,rfl,rfl,QOM _,h1,by rw[h3];simp,ha⟩ ?_;clear h1 h3 ha;simp only[Pc]at m1;rintro _ st ⟨f,i,rfl,rfl,hi,h1,h3,ha⟩;simp only[QPz,h1,m1,ha,eE,seval];by_cases hlt:i<P.progs.length
 ·obtain⟨x,hg⟩:∃x,P.progs[i]? = some x:=⟨P.progs[i],QOH hlt⟩;have hgm:(P.progs.map Qp)[i]? = some (.agg x.cells):=by simp[hg,Qp]
  have e1:=Qx i _ hlt hP.len1;have ht:=Xj (q:=Uz P) hg;have hq:Uz P x=((P.enums.all fun e=>!(e.name==x.name))&&Dl x.ops PO.name):=rfl;simp only[PG.cells]at hgm;simp only[Qt hlt,Qb,seval];refine QJM P hP fr m1' _ (b&&(P.progs.take i).all (Uz P)) (by exact h1) (by exact h3) _ i x hg (by exact ha) (by rfl) (fun f h1 h3 ha=>?_);simp only[Qm,QP7,Qf,hgm,h1,m1,ha,eE,seval];refine R6 fr _ _ (by exact h1) (by exact h3) _ x.ops (hP.progs x (QOR hg)).len i (by exact ha) (by rfl) (by rfl) (fun f h1 h3 ha=>?_);simp only[ha,e1,Qb,seval];exact⟨P.progs.length-(i+1),by omega,_,i+1,rfl,rfl,by omega,(by exact h1),by rw[ht,hq,←QPq,←QPq]<;>first|exact h3|simp only[h3,eE,seval],(by rfl)⟩
 ·have hf:(P.progs.take i).all (Uz P)=P.progs.all (Uz P):=by rw[QPe (by omega)]
  rw[hf]at h3;simp only[QS hlt,Qb,seval];exact hx _ (by exact h1) (by exact h3)

theorem QJO (ha:f 9=.int .i64 0)(hx:∀f,f 1=.ptr 0 1 0→f 3=.bool (b&&P.enums.all UA)→Q (.exit 8) (⟨f,[fr],[]⟩:St)):QJ Tryz.prog (.loop Tw) ⟨f,[fr],[]⟩ Q:=by
 let I:Nat→St→Prop:=fun k st=>∃f i,st=⟨f,[fr],[]⟩∧k=P.enums.length-i∧i≤P.enums.length∧f 1=.ptr 0 1 0∧f 3=.bool (b&&(P.enums.take i).all UA)∧f 9=.int .i64 (i:Nat)
 refine Qg I _ ⟨f,0,rfl,rfl,QOM _,h1,by rw[h3];simp,ha⟩ ?_;clear h1 h3 ha;simp only[Pc]at m1;rintro _ st ⟨f,i,rfl,rfl,hi,h1,h3,ha⟩;simp only[QPz,h1,m1,ha,eE,seval];by_cases hlt:i<P.enums.length
 ·obtain⟨x,hg⟩:∃x,P.enums[i]? = some x:=⟨P.enums[i],QOH hlt⟩;have hgm:(P.enums.map QV)[i]? = some (.agg x.cells):=by simp[hg,QV]
  have e1:=Qx i _ hlt hP.len2;have ht:=Xj (q:=UA) hg;have hq:UA x=Dl x.items PI.name:=rfl;simp only[PE.cells]at hgm;simp only[Qt hlt,Qm,QP7,Qf,hgm,h1,m1,ha,eE,seval];refine Cy fr _ (b&&(P.enums.take i).all UA) (by exact h1) (by exact h3) _ x.items (hP.enums x (QOR hg)).len1 i (by exact ha) (by rfl) (by rfl) (fun f h1 h3 ha=>?_);simp only[ha,e1,Qb,seval];exact⟨P.enums.length-(i+1),by omega,_,i+1,rfl,rfl,by omega,(by exact h1),by rw[ht,hq,←QPq]<;>first|exact h3|simp only[h3,eE,seval],(by rfl)⟩
 ·have hf:(P.enums.take i).all UA=P.enums.all UA:=by rw[QPe (by omega)]
  rw[hf]at h3;simp only[QS hlt,Qb,seval];exact hx _ (by exact h1) (by exact h3)

end

theorem z31 {M:Nat}(P:PL)(hP:P.ok M):Qj Tryz.prog 31 [P.av] (.bool (TE P)):=by
 have e0:P.av=.agg [.list (P.progs.map Qp),.list (P.enums.map QV)]:=rfl;refine k31.fn (by simp) ?_;simp only[e0,eE,seval];refine QJN P hP _ (by rfl) _ true (by rfl) (by rfl) _ (by rfl) (fun f h1 h3=>?_);simp only[Qb,seval];refine QJO P hP _ (by rfl) _ _ (by exact h1) (by exact h3) _ (by rfl) (fun f h1 h3=>?_);simp only[h3,TE,QQk,Qb,seval]

theorem Qsh:Qj Tryz.prog 112 [.str alias] (.int .i64 7):=by
 refine QHr.fn (by simp) ?_;have b1:(alias==([100,101,112,114,101,99,97,116,101,100]:List UInt8))=false:=by decide
 have b2:(alias==([115,101,99,114,101,116]:List UInt8))=false:=by decide
 have b3:(alias==([105,100,101,109,112,111,116,101,110,116]:List UInt8))=false:=by decide
 have b4:(alias==([100,111,99]:List UInt8))=false:=by decide
 have b5:(alias==([97,108,105,97,115]:List UInt8))=true:=by decide
 simp only[Q2,b1,b2,b3,b4,b5,Qb,seval]

theorem QJP:Qj Tryz.prog 113 [.str alias,.int .i64 4] (.bool true):=by
 refine QHx.fn (by simp) ?_;have b1:(alias==([100,101,112,114,101,99,97,116,101,100]:List UInt8))=false:=by decide
 have b4:(alias==([100,111,99]:List UInt8))=false:=by decide
 have b5:(alias==([97,108,105,97,115]:List UInt8))=true:=by decide
 have c2:((4:Int)==2)=false:=rfl;have c4:((4:Int)==4)=true:=rfl;simp only[Q2,b1,b4,b5,c2,c4,Qb,seval]

section
variable (kd:Int)(b:Nat)(t:List UInt8)(l p s r:List AV)(ht:t.length+8≤maxLen)
include ht

theorem QJQ:Qj Tryz.prog 169 [.int .i64 7,vo kd b t l p s r] (.bool (Zn 7 kd b t l p s r)):=by
 have hl:=R3 kd b t l p s r;simp only[vo]at hl;have n1:(kd != 7)=!(kd==7):=rfl;have k7:isk 7=true:=rfl;have t7:XV 7=true:=rfl;have f7:ZR 7 b=true:=rfl;have c8:((7:Int)==8)=false:=rfl;have c7:((7:Int) != 7)=false:=rfl;refine QkH.fn (by simp) ?_;simp only[vo,Zn,k7,f7,c7,QQk,QPS,QQo,eE,seval];refine Qa (Dk 7) rfl rfl rfl (.inl rfl) ?_;simp only[k7,n1,QQl,eE,seval];by_cases hk:kd=7
 ·subst hk;have a1:((7:Int)==7)=true:=rfl;simp only[a1,QQl,QQk,t7,eE,seval];refine Qa hl rfl rfl rfl (.inl rfl) ?_;cases Wr l p s r
  ·simp only[QPM,QQa,Qb,seval]
  simp only[QQl,QQk,Qb,seval];refine Qa (Wm 7) rfl rfl rfl (.inl rfl) ?_;simp only[t7,eE,seval];cases a2:((b:Int)==0)
  ·simp only[QQa,Qb,seval]
  cases a3:decide ((t.length:Int)≤4096)
  ·simp only[a3,QQa,QQy,eE,seval]
  simp only[a3,c8,QQk,eE,seval];refine Qa (Ck t ht) rfl rfl rfl (.inl rfl) ?_;simp only[Qb,seval]
 ·have a1:(kd==7)=false:=by simp[hk]
  simp only[a1,QPM,QQa,Qb,seval]

theorem QJR:Qj Tryz.prog 114 [nv kd b t l p s r] (.bool (Zn 7 kd b t l p s r)):=by
 have hf:=QJQ kd b t l p s r ht;have b0:((7:Int) != 0)=true:=rfl;simp only[vo]at hf;refine QHu.fn (by simp) ?_;simp only[nv,eE,seval];refine Qa Qsh rfl rfl rfl (.inl rfl) ?_;simp only[b0,eE,seval];cases a1:(kd==7)
 ·have e:Zn 7 kd b t l p s r=false:=by unfold Zn;rw[a1];rfl
  simp only[e,Qb,seval]
 ·simp only[eE,seval];refine Qa hf rfl rfl rfl (.inl rfl) ?_;simp only[Qb,seval]

def RcI (k:Nat)(st:St):Prop :=
 ∃f i,st=⟨f,[QD],[]⟩∧k=1-i∧i≤1∧(i=1→Zn 7 kd b t l p s r=true)∧f 0=.list [nv kd b t l p s r]∧f 1=.int .i64 4∧f 5=.int .i64 (i:Nat)

theorem z64:Qj Tryz.prog 64 [.list [nv kd b t l p s r],.int .i64 4] (.int .i64 (if Zn 7 kd b t l p s r=true then 0 else 12)):=by
 have b0:decide (((1:Nat):Int) > 8)=false:=rfl;have hr:=QJR kd b t l p s r ht;simp only[nv]at hr;refine k64.fn (by simp) ?_;simp only[QOT,QPA,QPm,Qb,seval];refine Qg (RcI kd b t l p s r) 1 ⟨_,0,rfl,rfl,QOM _,(fun h=>by cases h),(by rfl),(by rfl),(by rfl)⟩ ?_;rintro _ st ⟨f,i,rfl,rfl,hi,hf,h0,h1,h5⟩;simp only[nv]at h0;simp only[h0,h5,QOT,QPA,QPm,Qb,seval];rcases Nat.le_one_iff_eq_zero_or_eq_one.1 hi with rfl|rfl
 ·have c0:decide (((0:Nat):Int)<((1:Nat):Int))=true:=rfl;have c1:decide (((0:Nat):Int) > 0)=false:=rfl;have d7:((7:Int)==0)=false:=rfl;have e1:IntKind.i64.wrap (((0:Nat):Int)+1)=((1:Nat):Int):=rfl;have z0:(0≤((0:Nat):Int))=True:=by simp
  have z1:Int.toNat ((0:Nat):Int)=0:=rfl;simp only[Qf,QPH,h0,h5,eE,seval];refine Qa Qsh rfl rfl rfl (.inl rfl) ?_;simp only[d7,Qf,QPH,h0,h1,h5,eE,seval];refine Qa QJP rfl rfl rfl (.inl rfl) ?_;simp only[QQl,Qf,QPH,h0,h5,eE,seval];refine Qa hr rfl rfl rfl (.inl rfl) ?_;cases hfv:Zn 7 kd b t l p s r
  ·simp only[QPM,QOX,Qb,seval]
  ·simp only[QQl,h5,Qb,seval];exact⟨0,by omega,_,1,rfl,rfl,QOE _,fun _=>hfv,(by exact h0),(by exact h1),(by rfl)⟩
 ·have c0:decide (((1:Nat):Int)<((1:Nat):Int))=false:=rfl;simp only[hf rfl,Qb,seval]

end

section
variable (P:PL)

def YZ (P:PL)(o:PO):Bool :=
 if o.kind=10 then decide (o.target≥0)&&decide (o.target<(P.progs.length:Int))&&o.card != 3
 else if o.kind=9 then decide (o.target≥0)&&decide (o.target<(P.enums.length:Int))else o.target == -1

theorem QJS (o:PO):Qj Tryz.prog 116 [P.av,Qy o] (.bool (YZ P o)):=by
 have e0:P.av=.agg [.list (P.progs.map Qp),.list (P.enums.map QV)]:=rfl;refine QHA.fn (by simp) ?_;simp only[e0,Qy,PO.cells,YZ,eE,seval];by_cases h:o.kind=10
 ·have b0:(o.kind==10)=true:=by simp[h]
  simp only[b0,QO9 h,eE,seval];cases a1:decide (o.target≥0)<;>cases a2:decide (o.target<(P.progs.length:Int))<;>simp only[a2,QQk,QQa,QPz,eE,seval]
 ·have b0:(o.kind==10)=false:=by simp[h]
  by_cases h9:o.kind=9
  ·have b1:(o.kind==9)=true:=by simp[h9]
   simp only[b0,b1,QOS h,QO9 h9,eE,seval];cases a1:decide (o.target≥0)<;>simp only[QQk,QQa,QPz,eE,seval]
  ·have b1:(o.kind==9)=false:=by simp[h9]
   simp only[b0,b1,QOS h,QOS h9,eE,seval]

theorem Qsi (o:PO):(Js P o&&KJ o)=(Yz o.alias&&(decide ((o.alias.length:Int)≤4096)&&(decide (o.card≥1)&&(decide (o.card≤5)&&(decide (o.kind≥1)&&(decide (o.kind≤10)&&(key o&&YZ P o&&KJ o))))))):=by
 have h:N8 P o=(decide (o.kind≥1)&&decide (o.kind≤10)&&YZ P o):=by
  unfold N8 YZ;by_cases h:o.kind=10
  ·rw[QO9 h,QO9 h,h];rfl
  ·rw[QOS h,QOS h];by_cases h9:o.kind=9
   ·rw[QO9 h9,QO9 h9,h9];rfl
   ·rw[QOS h9,QOS h9];congr 1
    unfold isk;rw[QQv,QO2,QO2];simp only[QP1];omega
 unfold Js;rw[h];cases Yz o.alias<;>cases decide ((o.alias.length:Int)≤4096)<;>cases decide (o.card≥1)<;>cases decide (o.card≤5)<;>cases decide (o.kind≥1)<;>cases decide (o.kind≤10)<;>cases key o<;>cases YZ P o<;>cases KJ o<;>rfl

theorem z66 (o:PO)(ha:o.alias.length+8≤maxLen):Qj Tryz.prog 66 [P.av,Qy o] (.bool (Js P o&&KJ o)):=by
 have e0:P.av=.agg [.list (P.progs.map Qp),.list (P.enums.map QV)]:=rfl;have n1:decide ((o.alias.length:Int) > 4096)=!decide ((o.alias.length:Int)≤4096):=(by rw[QQv];simp only[QP1,QPC,QQw];omega);have n2:decide (o.card<1)=!decide (o.card≥1):=(by rw[QQv];simp only[QP1,QPC,QQw];omega);have n3:decide (o.card > 5)=!decide (o.card≤5):=(by rw[QQv];simp only[QP1,QPC,QQw];omega);have n4:decide (o.kind<1)=!decide (o.kind≥1):=(by rw[QQv];simp only[QP1,QPC,QQw];omega);have n5:decide (o.kind > 10)=!decide (o.kind≤10):=(by rw[QQv];simp only[QP1,QPC,QQw];omega);have ht:Qj Tryz.prog 116 [.agg [.list (P.progs.map Qp),.list (P.enums.map QV)],Qy o] (.bool (YZ P o)):=QJS P o;have hk1:o.card≠5→key o=(o.key==0):=fun h=>by unfold key;rw[QOS h]
 have hk2:o.card=5→key o=((decide (o.key≥1)&&decide (o.key≤5))||o.key==7):=fun h=>by
  unfold key;rw[QO9 h,QQv];simp only[QO2,QPE,QP1,QO5,QO6,ne_eq];omega
 have hu:KJ o=(o.union == -1||o.card==2):=rfl;simp only[Qy,PO.cells]at ht;rw[Qsi];refine k66.fn (by simp) ?_;simp only[Ta,Tb,Tc,Td,Te,Tf,r66,o66,e0,Qy,PO.cells,eE,seval];refine Qa (Ck o.alias ha) rfl rfl rfl (.inl rfl) ?_;cases Yz o.alias
 ·simp only[QPM,QQa,Qb,seval]
 cases a1:decide ((o.alias.length:Int)≤4096)
 ·simp only[QQl,QPM,QQk,n1,a1,QQa,eE,seval]
 cases a2:decide (o.card≥1)
 ·simp only[QQl,QPM,QQk,n1,n2,a1,a2,QQa,eE,seval]
 cases a3:decide (o.card≤5)
 ·simp only[QQl,QPM,QQk,n1,n2,n3,a1,a2,a3,QQa,eE,seval]
 cases a4:decide (o.kind≥1)
 ·simp only[QQl,QPM,QQk,n1,n2,n3,n4,a1,a2,a3,a4,QQa,eE,seval]
 cases a5:decide (o.kind≤10)
 ·simp only[QQl,QPM,QQk,n1,n2,n3,n4,n5,a1,a2,a3,a4,a5,QQa,eE,seval]
 have fin:∀(f:Fr) (fr:Nat→Ob) (kb:Bool),kb=key o→f 2=.ptr 0 2 0→fr 2=.cells [.list (P.progs.map Qp),.list (P.enums.map QV)]→f 3=.ptr 0 3 0→fr 3=.cells [.int .i64 o.num,.str o.name,.str o.alias,.int .i64 o.card,.int .i64 o.key,.int .i64 o.kind,.int .i64 o.target,.int .i64 o.union]→f 5=.bool kb→
   QC Tryz.prog Cg ⟨f,[fr],[]⟩ (Kc Tryz.prog .ret (ZC [.tmp 4] 0 fun x _=>x=.bool (key o&&YZ P o&&KJ o)) .normal):=by
  intro f fr kb hkb h2 m2 h3 m3 h5;subst hkb;simp only[Cg,h5,Qb,seval];cases key o
  ·simp only[QQa,Qb,seval]
  simp only[h2,m2,h3,m3,QQk,eE,seval];refine Qa ht rfl rfl rfl (.inl rfl) ?_;cases YZ P o
  ·simp only[QQa,Qb,seval]
  rw[hu];cases c1:(o.union == -1)<;>simp only[h3,m3,c1,QQk,QQn,QQo,eE,seval]
 by_cases h5:o.card=5
 ·have b5:(o.card != 5)=false:=by simp[h5]
  have hk:=hk2 h5;simp only[QQl,QQk,n1,n2,n3,n4,n5,a1,a2,a3,a4,a5,eE,seval];cases c1:decide (o.key≥1)<;>cases c2:decide (o.key≤5)<;>cases c3:(o.key==7)<;>simp only[c2,c3,b5,eE,seval]
  all_goals
   rw[c1,c2,c3]at hk;exact fin _ _ _ hk.symm (by rfl) (by rfl) (by rfl) (by rfl) (by rfl)
 ·have b5:(o.card != 5)=true:=by simp[h5]
  have hk:=hk1 h5;simp only[QQl,QQk,n1,n2,n3,n4,n5,a1,a2,a3,a4,a5,eE,seval];cases c1:decide (o.key≥1)<;>cases c2:decide (o.key≤5)<;>cases c3:(o.key==7)<;>simp only[c2,c3,b5,eE,seval]
  all_goals exact fin _ _ _ hk.symm (by rfl) (by rfl) (by rfl) (by rfl) (by rfl)

end

end Go.Proofs.YtfgchfdkiomfpaaGreat.Va

namespace Go.Proofs.YtfgchfdkiomfpaaGreat.Cp
open Go Am Bt Vp

structure C where
 d:List UInt8
 a:Int
 e:Int
 dp:Int
 nd:Int
 tx:Int

def C.av (c:C):AV:=.agg [.str c.d,.int .i64 c.a,.int .i64 c.e,.int .i64 c.dp,.int .i64 c.nd,.int .i64 c.tx]
def zc:C:=⟨[],0,0,0,0,0⟩

structure L where
 b:Int
 dp:Int
 nd:Int
 tx:Int
def L.av (l:L):AV:=.agg [.int .i64 l.b,.int .i64 l.dp,.int .i64 l.nd,.int .i64 l.tx]

def C.sound (c:C):Bool:=decide (0≤c.a)&&decide (c.a≤c.e)&&decide (c.e≤(c.d.length:Int))
def C.rest (c:C):List UInt8:=bif c.sound then(c.d.drop c.a.toNat).take (c.e.toNat-c.a.toNat)else []
def C.left (c:C):Int:=(c.rest.length:Int)
def C.ahead (c:C)(n:Int):C:={ c with a:=IntKind.i64.wrap (c.a+n) }

def opn (s:List UInt8)(l:L):C×Nat :=
 if l.b<0∨l.dp<0∨l.nd<0∨l.tx<0 then(zc,1)else if l.b<(s.length:Int)then(zc,3)else(⟨s,0,s.length,l.dp,l.nd,l.tx⟩,0)

def C.varint (c:C):Nat×C×Nat :=
 let r:=Vp.take c.rest
 if r.2.2=0 then(r.1,c.ahead r.2.1,0)else(0,c,r.2.2)

def UD (s:List UInt8):Nat:=(s.take 8).foldr (fun b u=>256*u+b.toNat) 0

def C.fixed (c:C):Nat×C×Nat :=
 if c.rest.length<8 then(0,c,4)else(UD c.rest,c.ahead 8,0)

def C.spend (c:C)(n:Int):C×Nat :=
 if n<0 then(c,1)else if c.nd<n then(c,3)else({ c with nd:=IntKind.i64.wrap (c.nd-n) },0)

def X3 (r:Nat×C×Nat):AV:=.tup [.int .u64 (r.1:Nat),r.2.1.av,.int .i64 (r.2.2:Nat)]
def Z6 (r:C×Nat):AV:=.tup [r.1.av,.int .i64 (r.2:Nat)]

theorem C.sound_iff (c:C):c.sound=true↔0≤c.a∧c.a≤c.e∧c.e≤(c.d.length:Int):=by
 simp[C.sound,and_assoc]

theorem C.rest_len (c:C):c.left=if c.sound=true then c.e-c.a else 0:=by
 unfold C.left C.rest;split
 ·rename_i h;rw[h];have:=(C.sound_iff c).1 h;simp;omega
 ·rename_i h;have h:c.sound=false:=by simpa using h
  rw[h];rfl

theorem C.rest_of {c:C}(h:c.sound=true):c.rest=(c.d.drop c.a.toNat).take (c.e.toNat-c.a.toNat):=by
 unfold C.rest;rw[h];rfl

theorem C.rest_no {c:C}(h:c.sound=false):c.rest=[]:=by
 unfold C.rest;rw[h];rfl

theorem C.head_of {c:C}(h:c.sound=true)(n:Nat)(k:Int)(hk:k=if c.a+n<c.e then c.a+n else c.e):c.rest.take n=(c.d.drop c.a.toNat).take (k.toNat-c.a.toNat):=by
 have hs:=(C.sound_iff c).1 h;rw[C.rest_of h,List.take_take];congr 1
 split at hk<;>omega

end Go.Proofs.YtfgchfdkiomfpaaGreat.Cp

namespace Go.Proofs.YtfgchfdkiomfpaaGreat.Up
open Go Am Bt Vp Cp

structure R where
 num:Int
 wire:Int
 bits:Nat
 data:List UInt8
 deriving DecidableEq

def R.av (f:R):AV:=.agg [.int .i64 f.num,.int .i64 f.wire,.int .u64 (f.bits:Nat),.str f.data]
def zr:R:=⟨0,0,0,[]⟩

def Qw (c:C):Int×Int×C×Nat :=
 let r:=c.varint
 if r.2.2=0 then
  if r.1 % 8=7 then(0,0,c,5)else if r.1 / 8<1∨65535<r.1 / 8 then(0,0,c,6)else((r.1 / 8:Nat),(r.1 % 8:Nat),r.2.1,0)
 else(0,0,c,r.2.2)
def Wt (r:Int×Int×C×Nat):AV:=.tup [.int .i64 r.1,.int .i64 r.2.1,r.2.2.1.av,.int .i64 (r.2.2.2:Nat)]

def Wd (wire:Int):Bool:=wire==0||wire==1||wire==2

def We (c:C)(wire:Int):List UInt8×C×Nat :=
 let r:=c.varint
 if r.2.2=0 then
  if r.2.1.left<(r.1:Int)then([],c,4)
  else if (if wire=3 then c.tx else 65536)<(r.1:Int)then([],c,3)
  else((r.2.1.d.drop r.2.1.a.toNat).take r.1,r.2.1.ahead r.1,0)
 else([],c,r.2.2)
def UE (r:List UInt8×C×Nat):AV:=.tup [.str r.1,r.2.1.av,.int .i64 (r.2.2:Nat)]

def Zb (c:C)(f:R):R×C×Nat :=
 if f.wire=2 then({ f with bits:=c.fixed.1 },c.fixed.2.1,c.fixed.2.2)
 else if f.wire=0∨f.wire=1 then({ f with bits:=c.varint.1 },c.varint.2.1,c.varint.2.2)
 else({ f with data:=(We c f.wire).1 },(We c f.wire).2.1,(We c f.wire).2.2)

def XF (c:C):R×C×Nat :=
 let t:=Qw c
 if t.2.2.2=0 then
  let s:=t.2.2.1.spend 1
  if s.2=0 then
   let k:=Zb s.1 { num:=t.1,wire:=t.2.1,bits:=0,data:=[] }
   if k.2.2=0 then k else(zr,c,k.2.2)
  else(zr,c,s.2)
 else(zr,c,t.2.2.2)
def ZS (r:R×C×Nat):AV:=.tup [r.1.av,r.2.1.av,.int .i64 (r.2.2:Nat)]

theorem Bl {c:C}(h:c.rest≠[]):c.sound=true:=by
 cases hs:c.sound with
 |true=>rfl
 |false=>exact absurd (C.rest_no hs) h

theorem XS {c:C}(hl:c.d.length≤9223372036854775807)(h:c.varint.2.2=0):∃n:Nat,0<n∧n≤10∧(n:Int)≤c.left∧c.varint.2.1={ c with a:=c.a+n }∧c.sound=true∧c.varint.2.1.sound=true∧c.varint.1<2 ^ 64:=by
 unfold C.varint at h ⊢;have hb:=Nr c.rest;generalize Vp.take c.rest=r at h hb ⊢;obtain⟨u,n,e⟩:=r;simp only at h hb ⊢;split at h
 ·rename_i he;subst he;obtain⟨h1,h2,h3,h4⟩:=hb rfl;have hne:c.rest≠[]:=by intro e;rw[e]at h2;simp at h2;omega
  have hs:=Bl hne;have hs':=(C.sound_iff c).1 hs;have hle:=c.rest_len;rw[QO9 hs]at hle;have hw:IntKind.i64.wrap (c.a+(n:Int))=c.a+n:=by
   have:(n:Int)≤c.left:=by unfold C.left;omega
   rw[QA];omega
  have hnl:(n:Int)≤c.left:=by unfold C.left;omega
  refine⟨n,h1,h3,hnl,?_,hs,?_,?_⟩
  ·rw[QO9 rfl];simp only[C.ahead,hw]
  ·rw[QO9 rfl];rw[C.sound_iff];simp only[C.ahead,hw];omega
  ·rw[QO9 rfl];exact h4
 ·rename_i he;exact absurd h he

end Go.Proofs.YtfgchfdkiomfpaaGreat.Up

namespace Go.Proofs.YtfgchfdkiomfpaaGreat.Br
open Go Am Up

inductive V where
 |mk (k:Int) (b:Nat) (t:List UInt8) (l:List V) (p:List (V×V)) (s:List (Int×V)) (r:List R)
 deriving Inhabited

mutual
def V.cells:V→List AV
 |.mk k b t l p s r=>[.int .i64 k,.int .u64 (b:Nat),.str t,.list (V.cl l),.list (V.cp p),.list (V.cs s),.list (r.map R.av)]
def V.cl:List V→List AV
 | []=>[]
 |x :: l=>.agg x.cells :: V.cl l
def V.cp:List (V×V)→List AV
 | []=>[]
 |(a,b) :: l=>.agg (a.cells++b.cells) :: V.cp l
def V.cs:List (Int×V)→List AV
 | []=>[]
 |(n,a) :: l=>.agg (.int .i64 n :: a.cells) :: V.cs l
end

def V.kd:V→Int|.mk k _ _ _ _ _ _=>k
def V.bits:V→Nat|.mk _ b _ _ _ _ _=>b
def V.text:V→List UInt8|.mk _ _ t _ _ _ _=>t
def V.list:V→List V|.mk _ _ _ l _ _ _=>l
def V.pairs:V→List (V×V)|.mk _ _ _ _ p _ _=>p
def V.slots:V→List (Int×V)|.mk _ _ _ _ _ s _=>s
def V.raws:V→List R|.mk _ _ _ _ _ _ r=>r

def V.av (v:V):AV:=.agg v.cells
def V.pav (p:V×V):AV:=.agg (p.1.cells++p.2.cells)
def V.sav (s:Int×V):AV:=.agg (.int .i64 s.1 :: s.2.cells)

theorem V.cl_eq:∀l:List V,V.cl l=l.map V.av
 | []=>rfl
 |x :: l=>by rw[V.cl,V.cl_eq l];rfl
theorem V.cp_eq:∀l:List (V×V),V.cp l=l.map V.pav
 | []=>rfl
 |(a,b) :: l=>by rw[V.cp,V.cp_eq l];rfl
theorem V.cs_eq:∀l:List (Int×V),V.cs l=l.map V.sav
 | []=>rfl
 |(n,a) :: l=>by rw[V.cs,V.cs_eq l];rfl

theorem V.eta:∀v:V,v.cells=[.int .i64 v.kd,.int .u64 (v.bits:Nat),.str v.text,.list (v.list.map V.av),.list (v.pairs.map V.pav),.list (v.slots.map V.sav),.list (v.raws.map R.av)]
 |.mk k b t l p s r=>by rw[V.cells,V.cl_eq,V.cp_eq,V.cs_eq];rfl

theorem V.ind {P:V→Prop}(h:∀v:V,(∀x∈v.list,P x)→(∀x∈v.pairs,P x.1∧P x.2)→(∀x∈v.slots,P x.2)→P v)(v:V):P v :=
 V.rec (motive_1:=P) (motive_2:=fun l=>∀x∈l,P x) (motive_3:=fun p=>∀x∈p,P x.1∧P x.2) (motive_4:=fun s=>∀x∈s,P x.2) (motive_5:=fun q=>P q.1∧P q.2) (motive_6:=fun q=>P q.2)
  (fun k b t l p s r hl hp hs=>h (.mk k b t l p s r) hl hp hs)
  (by simp) (fun a l ha hl=>by simpa using ⟨ha,hl⟩)
  (by simp) (fun a l ha hl=>by simp only[QP0,forall_eq_or_imp];exact⟨ha,hl⟩)
  (by simp) (fun a l ha hl=>by simp only[QP0,forall_eq_or_imp];exact⟨ha,hl⟩)
  (fun a b ha hb=>⟨ha,hb⟩) (fun n a ha=>ha) v

structure _root_.Go.Proofs.YtfgchfdkiomfpaaGreat.Up.R.ok (M:Nat)(f:R):Prop where
 num:(Lit.int .i64 f.num).wf=true
 wire:(Lit.int .i64 f.wire).wf=true
 bits:(Lit.int .u64 (f.bits:Int)).wf=true
 data:f.data.length≤M

inductive V.ok (M:Nat):V→Prop
 |mk {v:V} (kd:(Lit.int .i64 v.kd).wf=true) (bits:(Lit.int .u64 (v.bits:Int)).wf=true) (text:v.text.length≤M) (nl:v.list.length≤1099511627776) (np:v.pairs.length≤549755813888) (ns:v.slots.length≤1099511627776) (nr:v.raws.length≤70368744177664)
   (list:∀x∈v.list,V.ok M x) (keys:∀x∈v.pairs,V.ok M x.1) (vals:∀x∈v.pairs,V.ok M x.2) (nums:∀x∈v.slots,(Lit.int .i64 x.1).wf=true) (slots:∀x∈v.slots,V.ok M x.2) (raws:∀x∈v.raws,x.ok M):V.ok M v

section
variable {M:Nat}{v:V}(h:v.ok M)
include h
theorem V.ok.kd:(Lit.int .i64 v.kd).wf=true:=by cases h;assumption
theorem V.ok.bits:(Lit.int .u64 (v.bits:Int)).wf=true:=by cases h;assumption
theorem V.ok.text:v.text.length≤M:=by cases h;assumption
theorem V.ok.nl:v.list.length≤1099511627776:=by cases h;assumption
theorem V.ok.np:v.pairs.length≤549755813888:=by cases h;assumption
theorem V.ok.ns:v.slots.length≤1099511627776:=by cases h;assumption
theorem V.ok.nr:v.raws.length≤70368744177664:=by cases h;assumption
theorem V.ok.list:∀x∈v.list,x.ok M:=by cases h;assumption
theorem V.ok.keys:∀x∈v.pairs,x.1.ok M:=by cases h;assumption
theorem V.ok.vals:∀x∈v.pairs,x.2.ok M:=by cases h;assumption
theorem V.ok.nums:∀x∈v.slots,(Lit.int .i64 x.1).wf=true:=by cases h;assumption
theorem V.ok.slots:∀x∈v.slots,x.2.ok M:=by cases h;assumption
theorem V.ok.raws:∀x∈v.raws,x.ok M:=by cases h;assumption
end

end Go.Proofs.YtfgchfdkiomfpaaGreat.Br

namespace Go.Proofs.YtfgchfdkiomfpaaGreat.Va
open Go Am Rc Bt Br

def oth (k:Int)(b:Nat)(t:List UInt8)(l p s r:List AV):Bool :=
 (k != 11&&decide ((l.length:Int) > 0))||(k != 12&&decide ((p.length:Int) > 0))||(k != 10&&decide (((s.length+r.length:Nat):Int) > 0))||((b:Int) != 0&&(XV k||k==10||k==11||k==12))||(!(t==[]) && !XV k)

section
variable (k:Int)(b:Nat)(t:List UInt8)(l p s r:List AV)(hs:s.length≤140737488351232)(hr:r.length≤140737488351232)

end

section
variable (k:Int)(b:Nat)(t:List UInt8)(l p s r:List AV)(hs:s.length≤140737488351232)(hr:r.length≤140737488351232)

end

theorem Pp {α:Type}(p:α→Bool){l:List α}{i:Nat}{x:α}(hx:l[i]? = some x):(l.drop i).find? p=if p x=true then some x else(l.drop (i+1)).find? p:=by
 have hlt:i<l.length:=(QOG.1 hx).1;rw[QPo hlt,show l[i]=x from(QOG.1 hx).2,QQs];cases p x<;>rfl

def zc:List AV:=[.int .i64 0,.str [],.str [],.int .i64 0,.int .i64 0,.int .i64 0,.int .i64 0,.int .i64 0]

def OpI (g:PG)(n:Int)(k:Nat)(st:St):Prop :=
 ∃f fr i,st=⟨f,[fr],[]⟩∧k=g.ops.length-i∧g.ops.find? (fun o=>o.num==n)=(g.ops.drop i).find? (fun o=>o.num==n)∧f 1=.int .i64 n∧f 2=.ptr 0 2 0∧f 4=.ptr 0 4 0∧f 6=.int .i64 (i:Nat)∧fr 2=.cells g.cells∧fr 4=.cells zc

theorem y75 (g:PG)(hl:g.ops.length≤maxLen)(n:Int):Qj Tryz.prog 75 [Qp g,.int .i64 n] (Gt (fun o=>o.num==n) g.ops):=by
 refine k75.fn (by simp) ?_;simp only[Qp,PG.cells,eE,seval];refine Qg (OpI g n) _ ⟨_,_,0,rfl,rfl,rfl,(by rfl),(by rfl),(by rfl),(by rfl),(by rfl),(by rfl)⟩ ?_;rintro _ st ⟨f,fr,i,rfl,rfl,hx,h1,h2,h4,h6,m2,m4⟩;simp only[PG.cells,zc]at m2 m4;simp only[QPz,h2,h6,m2,eE,seval];by_cases hlt:i<g.ops.length
 ·obtain⟨x,hi⟩:∃x,g.ops[i]? = some x:=⟨g.ops[i],QOH hlt⟩;have hg:(g.ops.map fun o=>AV.agg o.cells)[i]? = some (.agg x.cells):=by simp[hi]
  have e1:=Qx i _ hlt hl;rw[Pp _ hi]at hx;simp only[PO.cells]at hg m2;simp only[Qt hlt,Qm,QP7,Qf,hg,PO.cells,h1,h2,h6,m2,eE,seval];cases hp:(x.num==n)
  ·rw[hp]at hx;simp only[QOX,if_false]at hx;simp only[h6,e1,Qb,seval];exact⟨g.ops.length-(i+1),by omega,_,_,i+1,rfl,rfl,hx,(by exact h1),(by exact h2),(by exact h4),(by rfl),m2,m4⟩
  ·rw[hp]at hx;simp only[if_true]at hx;simp only[Qm,QP7,Qf,hg,Gt,hx,QPP,QQu,Qy,PO.cells,h2,h4,h6,m2,m4,splice,QPN,QO1,QPg,QPn,QPT,QPI,QOT,QPA,QPQ,QPR,AV.leaf,eE,seval]
 ·have hx':g.ops.find? (fun o=>o.num==n)=none:=by rw[hx,QPh (by omega)];rfl
  simp only[QS hlt,h4,m4,Gt,hx',QQh,QPv,N5,Qy,PO.cells,splice,QPN,QO1,QPg,QPn,QPT,QPI,QOT,QPA,QPQ,QPR,AV.leaf,eE,seval]

section progs
variable (L:List PG)(hl:L.length≤maxLen)(p:PG→Bool)(c:Nat)(cap:AV)(m:Qh)

def IxG (k:Nat)(st:St):Prop :=
 ∃f i,st=⟨f,QD :: m,[]⟩∧k=L.length-i∧Zx p L 0=Zx p (L.drop i) i∧f 0=.list (L.map Qp)∧f 1=.fn (.func c) [] [cap.sh]∧f 7=.int .i64 (L.length:Nat)∧f 8=.int .i64 (i:Nat)

include hl in
theorem y35 (hc:∀o∈L,Qu Tryz.prog c [Qp o,cap.sh] (QD :: m) fun y m1=>y=.bool (p o)∧m1=QD :: m) :
  Qu Tryz.prog 35 [.list (L.map Qp),.fn (.func c) [] [cap]] m fun y m1=>y=.int .i64 (Zx p L 0)∧m1=m:=by
 refine k35.go (by simp) ?_;simp only[QPz,Qb,seval];refine Qg (IxG L p c cap m) _ ⟨_,0,rfl,rfl,rfl,(by rfl),(by rfl),(by rfl),(by rfl)⟩ ?_;rintro _ st ⟨f,i,rfl,rfl,hx,h0,h1,h7,h8⟩;simp only[h7,h8,Qb,seval];by_cases hlt:i<L.length
 ·obtain⟨x,hi⟩:∃x,L[i]? = some x:=⟨L[i],QOH hlt⟩;have hcl:=hc x (QOR hi);have hg:(L.map Qp)[i]? = some (Qp x):=by simp[hi]
  have e1:=Qx i _ hlt hl;simp only[Qp,PG.cells]at hcl;simp only[Qt hlt,Qm,QP7,Qf,hg,Qp,PG.cells,h0,h1,h8,eE,seval];refine YS (fa:=[]) (fb:=[cap.sh]) (by rfl) hcl (by simp only[QPc,QPG,QO1,QO0,Qb,seval]) ?_;rw[YU p hi]at hx;cases hp:p x
  ·rw[hp]at hx;simp only[QOX,if_false]at hx;simp only[h8,e1,Qb,seval];exact⟨L.length-(i+1),by omega,_,i+1,rfl,rfl,hx,(by exact h0),(by exact h1),(by exact h7),(by rfl)⟩
  ·rw[hp]at hx;simp only[if_true]at hx;simp only[hx,Qb,seval]
 ·have hx':Zx p L 0 = -1:=by rw[hx,QPh (by omega)];rfl
  simp only[QS hlt,hx',Qb,seval]

end progs

section items
variable (L:List PI)(hl:L.length≤maxLen)(p:PI→Bool)(c:Nat)(cap:AV)(m:Qh)

def IxI (k:Nat)(st:St):Prop :=
 ∃f i,st=⟨f,QD :: m,[]⟩∧k=L.length-i∧Zx p L 0=Zx p (L.drop i) i∧f 0=.list (L.map Uw)∧f 1=.fn (.func c) [] [cap.sh]∧f 7=.int .i64 (L.length:Nat)∧f 8=.int .i64 (i:Nat)

include hl in
theorem QJT (hc:∀o∈L,Qu Tryz.prog c [Uw o,cap.sh] (QD :: m) fun y m1=>y=.bool (p o)∧m1=QD :: m) :
  Qu Tryz.prog 220 [.list (L.map Uw),.fn (.func c) [] [cap]] m fun y m1=>y=.int .i64 (Zx p L 0)∧m1=m:=by
 refine QgP.go (by simp) ?_;simp only[QPz,Qb,seval];refine Qg (IxI L p c cap m) _ ⟨_,0,rfl,rfl,rfl,(by rfl),(by rfl),(by rfl),(by rfl)⟩ ?_;rintro _ st ⟨f,i,rfl,rfl,hx,h0,h1,h7,h8⟩;simp only[h7,h8,Qb,seval];by_cases hlt:i<L.length
 ·obtain⟨x,hi⟩:∃x,L[i]? = some x:=⟨L[i],QOH hlt⟩;have hcl:=hc x (QOR hi);have hg:(L.map Uw)[i]? = some (Uw x):=by simp[hi]
  have e1:=Qx i _ hlt hl;simp only[Uw,PI.cells]at hcl;simp only[Qt hlt,Qm,QP7,Qf,hg,Uw,PI.cells,h0,h1,h8,eE,seval];refine YS (fa:=[]) (fb:=[cap.sh]) (by rfl) hcl (by simp only[QPc,QPG,QO1,QO0,Qb,seval]) ?_;rw[YU p hi]at hx;cases hp:p x
  ·rw[hp]at hx;simp only[QOX,if_false]at hx;simp only[h8,e1,Qb,seval];exact⟨L.length-(i+1),by omega,_,i+1,rfl,rfl,hx,(by exact h0),(by exact h1),(by exact h7),(by rfl)⟩
  ·rw[hp]at hx;simp only[if_true]at hx;simp only[hx,Qb,seval]
 ·have hx':Zx p L 0 = -1:=by rw[hx,QPh (by omega)];rfl
  simp only[QS hlt,hx',Qb,seval]

theorem LW {α:Type}(p:α→Bool)(l:List α):decide (Zx p l 0≥0)=l.any p:=by
 rcases YT p l 0 with⟨h1,h2⟩|⟨k,o,h1,_,h3⟩
 ·rw[h1];have:l.any p=false:=by
   rw[List.any_eq_false];intro x hx;exact fun h=>by have:=List.find?_eq_none.1 h2 x hx;exact this h
  rw[this];rfl
 ·rw[h1];have:l.any p=true:=List.any_eq_true.2 ⟨o,QQB h3,List.find?_some h3⟩;rw[this];exact QQx (by omega)

include hl in
theorem QJU (hc:∀o∈L,Qu Tryz.prog c [Uw o,cap.sh.sh] (QD :: QD :: m) fun y m1=>y=.bool (p o)∧m1=QD :: QD :: m) :
  Qu Tryz.prog 208 [.list (L.map Uw),.fn (.func c) [] [cap]] m fun y m1=>y=.bool (L.any p)∧m1=m:=by
 refine Qgt.go (by simp) ?_;simp only[Qb,seval];refine QU (QJT L hl p c cap.sh _ hc) (by simp only[QPc,QPG,Qb,seval]) ?_;simp only[LW,Qb,seval]

end items

def DT (b:Nat)(x:PI):Bool:=IntKind.u64.wrap x.num==(b:Int)
def Gz (b:Nat)(x:PI):Bool:=x.num==IntKind.i64.wrap (b:Int)

theorem Vb {b:Nat}{x:PI}(hb:b≤2147483647)(hx:(Lit.int .i64 x.num).wf=true):Gz b x=DT b x:=by
 have h1:=Qau hx;have h2:=FQ hx;unfold Gz DT;rw[QQv,QO5,QO5,QA,XY];omega

theorem y36 (g:PG)(frO:Nat→Ob)(s:List UInt8)(hf:frO 3=.cells [.str s]):Qu Tryz.prog 36 [Qp g,.ptr 1 3 0] [QD,frO] fun y m1=>y=.bool (g.name==s)∧m1=[QD,frO]:=by
 refine k36.go (by simp) ?_;simp only[hf,Qp,PG.cells,Q2,eE,seval]

theorem QJV (x:PI)(b:Nat)(frO:Nat→Ob)(hf:frO 5=.cells [.int .u64 (b:Nat)]):Qu Tryz.prog 209 [Uw x,.ptr 2 5 0] [QD,QD,frO] fun y m1=>y=.bool (DT b x)∧m1=[QD,QD,frO]:=by
 refine Qgy.go (by simp) ?_;simp only[hf,Uw,PI.cells,DT,eE,seval]

def Bm (s:List UInt8)(L:List PG):AV:=.tup [.int .i64 (if Zx (fun g:PG=>g.name==s) L 0<0 then 0 else Zx (fun g:PG=>g.name==s) L 0),.bool (decide (Zx (fun g:PG=>g.name==s) L 0≥0))]

theorem y14 (P:PL)(hl:P.progs.length≤maxLen)(s:List UInt8):Qj Tryz.prog 14 [P.av,.str s] (Bm s P.progs):=by
 refine k14.fn (by simp) ?_;simp only[PL.av,eE,seval];refine QU (y35 P.progs hl (fun g=>g.name==s) 36 (.ptr 0 3 0) _ fun g _=>y36 g _ s (by rfl)) (by simp only[QPc,QPG,Qb,seval]<;>rfl) ?_;unfold Bm;by_cases h:Zx (fun g:PG=>g.name==s) P.progs 0<0
 ·have d:decide (Zx (fun g:PG=>g.name==s) P.progs 0<0)=true:=QQx h;simp only[QO9 h,Qb,seval]
 ·have d:decide (Zx (fun g:PG=>g.name==s) P.progs 0<0)=false:=QQt h;simp only[QOS h,Qb,seval]

def FdI (P:PL)(s:List UInt8)(k:Nat)(st:St):Prop :=
 ∃f fr i,st=⟨f,[fr],[]⟩∧k=P.progs.length-i∧Zx (fun g:PG=>g.name==s) P.progs 0=Zx (fun g:PG=>g.name==s) (P.progs.drop i) i∧f 1=.str s∧f 2=.ptr 0 2 0∧f 6=.int .i64 (i:Nat)∧fr 2=.cells [.list (P.progs.map Qp),.list (P.enums.map QV)]

theorem y16 (P:PL)(hl:P.progs.length≤maxLen)(s:List UInt8):Qj Tryz.prog 16 [P.av,.str s] (Bm s P.progs):=by
 have e0:P.av=.agg [.list (P.progs.map Qp),.list (P.enums.map QV)]:=rfl;refine k16.fn (by simp) ?_;simp only[e0,eE,seval];refine Qg (FdI P s) _ ⟨_,_,0,rfl,rfl,rfl,(by rfl),(by rfl),(by rfl),(by rfl)⟩ ?_;rintro _ st ⟨f,fr,i,rfl,rfl,hx,h1,h2,h6,m2⟩;simp only[QPz,h2,h6,m2,eE,seval];by_cases hlt:i<P.progs.length
 ·obtain⟨x,hi⟩:∃x,P.progs[i]? = some x:=⟨P.progs[i],QOH hlt⟩;have hg:(P.progs.map Qp)[i]? = some (.agg x.cells):=by simp[hi,Qp]
  have e1:=Qx i _ hlt hl;simp only[PG.cells]at hg;rw[YU _ hi]at hx;simp only[Qt hlt,Qm,QP7,Qf,hg,h1,h2,h6,m2,Q2,eE,seval];cases hp:(x.name==s)
  ·rw[hp]at hx;simp only[QOX,if_false]at hx;simp only[h6,e1,Qb,seval];exact⟨P.progs.length-(i+1),by omega,_,_,i+1,rfl,rfl,hx,(by exact h1),(by exact h2),(by rfl),m2⟩
  ·rw[hp]at hx;simp only[if_true]at hx;have d1:¬((i:Int)<0):=by omega
   have d2:decide ((i:Int)≥0)=true:=QQx (by omega);simp only[Bm,hx,QOS d1,d2,h6,Qb,seval]
 ·have hx':Zx (fun g:PG=>g.name==s) P.progs 0 = -1:=by rw[hx,QPh (by omega)];rfl
  have d1:((-1:Int)<0):=by omega
  have d2:decide ((-1:Int)≥0)=false:=QQt (by omega);simp only[QS hlt,Bm,hx',Qb,seval]

def Jc (E:List PE)(t:Int)(b:Nat):Bool :=
 if 0≤t∧t<E.length∧b≤2147483647 then
  match E[t.toNat]? with
  |some x=>x.opn||x.items.any (DT b)
  |none=>false
 else false

theorem QJW {M:Nat}(P:PL)(hP:P.ok M)(t:Int)(b:Nat):Qj Tryz.prog 187 [P.av,.int .i64 t,.int .u64 (b:Nat)] (.bool (Jc P.enums t b)):=by
 have e0:P.av=.agg [.list (P.progs.map Qp),.list (P.enums.map QV)]:=rfl;refine QfV.fn (by simp) ?_;simp only[e0,eE,seval];by_cases h1:0≤t
 ·have d1:decide (t<0)=false:=QQt (by omega);by_cases h2:t<P.enums.length
  ·have d2:decide (t≥(P.enums.length:Int))=false:=QQt (by omega);by_cases h3:b≤2147483647
   ·have d3:decide ((b:Int) > 2147483647)=false:=QQt (by omega);obtain⟨n,rfl⟩:=QQm h1;have hn:n<P.enums.length:=by omega
    obtain⟨x,hi⟩:∃x,P.enums[n]? = some x:=⟨P.enums[n],QOH hn⟩;have hx:=hP.enums x (QOR hi);have hg:(P.enums.map QV)[n]? = some (.agg x.cells):=by simp[hi,QV]
    simp only[PE.cells]at hg;have ha:Jc P.enums (n:Int) b=(x.opn||x.items.any (DT b)):=by
     unfold Jc;rw[QO9 ⟨h1,h2,h3⟩,QP7,hi]
    simp only[d1,d2,QPz,d3,Qm,QP7,Qf,hg,ha,eE,seval];cases ho:x.opn
    ·simp only[QQo,eE,seval];refine QU (QJU x.items hx.len1 (DT b) 209 (.ptr 0 5 0) _ fun y _=>QJV y b _ (by rfl)) (by simp only[QPc,QPG,Qb,seval]<;>rfl) ?_;simp only[Qb,seval]
    ·simp only[QQn,Qb,seval]
   ·have d3:decide ((b:Int) > 2147483647)=true:=QQx (by omega);have ha:Jc P.enums t b=false:=by
     unfold Jc;rw[QOS (by omega)]
    simp only[d1,d2,QPz,d3,ha,eE,seval]
  ·have d2:decide (t≥(P.enums.length:Int))=true:=QQx (by omega);have ha:Jc P.enums t b=false:=by
    unfold Jc;rw[QOS (by omega)]
   simp only[d1,d2,QPz,ha,eE,seval]
 ·have d1:decide (t<0)=true:=QQx (by omega);have ha:Jc P.enums t b=false:=by
   unfold Jc;rw[QOS (by omega)]
  simp only[d1,ha,Qb,seval]

def AcI (P:PL)(L:List PI)(eo:Bool)(n b:Nat)(k:Nat)(st:St):Prop :=
 ∃f fr i,st=⟨f,[fr],[]⟩∧k=L.length-i∧f 1=.int .i64 (n:Nat)∧f 2=.int .u64 (b:Nat)∧f 3=.ptr 0 3 0∧fr 3=.cells [.list (P.progs.map Qp),.list (P.enums.map QV)]∧f 7=.bool (eo||(L.take i).any (Gz b))∧f 8=.int .i64 (i:Nat)

theorem QJX {M:Nat}(P:PL)(hP:P.ok M)(t:Int)(b:Nat):Qj Tryz.prog 180 [P.av,.int .i64 t,.int .u64 (b:Nat)] (.bool (Jc P.enums t b)):=by
 have e0:P.av=.agg [.list (P.progs.map Qp),.list (P.enums.map QV)]:=rfl;refine QHG.fn (by simp) ?_;simp only[e0,eE,seval];by_cases h1:0≤t
 ·have d1:decide (t<0)=false:=QQt (by omega);by_cases h2:t<P.enums.length
  ·have d2:decide (t≥(P.enums.length:Int))=false:=QQt (by omega);by_cases h3:b≤2147483647
   ·have d3:decide ((b:Int) > 2147483647)=false:=QQt (by omega);obtain⟨n,rfl⟩:=QQm h1;have hn:n<P.enums.length:=by omega
    obtain⟨x,hi⟩:∃x,P.enums[n]? = some x:=⟨P.enums[n],QOH hn⟩;have hx:=hP.enums x (QOR hi);have hg:(P.enums.map QV)[n]? = some (.agg x.cells):=by simp[hi,QV]
    simp only[PE.cells]at hg;have ha:Jc P.enums (n:Int) b=(x.opn||x.items.any (Gz b)):=by
     unfold Jc;rw[QO9 ⟨h1,h2,h3⟩,QP7,hi];show(x.opn||x.items.any (DT b))=_;congr 1
     rw[QQv,List.any_eq_true,List.any_eq_true]
     constructor
     ·rintro⟨y,hy,hp⟩;exact⟨y,hy,by rw[Vb h3 (hx.items y hy).num];exact hp⟩
     ·rintro⟨y,hy,hp⟩;exact⟨y,hy,by rw[←Vb h3 (hx.items y hy).num];exact hp⟩
    simp only[d1,d2,QPz,d3,Qm,QP7,Qf,hg,eE,seval];refine Qg (AcI P x.items x.opn n b) _ ⟨_,_,0,rfl,rfl,(by rfl),(by rfl),(by rfl),(by rfl),by simp only[QPN,List.any_nil,QQz]<;>first|rfl|simp only[eE,seval],(by rfl)⟩ ?_;rintro _ st ⟨f,fr,i,rfl,rfl,g1,g2,g3,m3,g7,g8⟩;simp only[QPz,Qm,QP7,Qf,hg,g1,g3,m3,g8,eE,seval];by_cases hlt:i<x.items.length
    ·obtain⟨y,hd⟩:∃y,x.items[i]? = some y:=⟨x.items[i],QOH hlt⟩;have hdm:(x.items.map fun n=>AV.agg n.cells)[i]? = some (.agg y.cells):=by simp[hd]
     simp only[PI.cells]at hdm;have e1:=Qx i _ hlt hx.len1;have ht:(x.opn||(x.items.take (i+1)).any (Gz b))=((x.opn||(x.items.take i).any (Gz b))||Gz b y):=by
      rw[QQr,hd];simp[Bool.or_assoc]
     have hp:Gz b y=(y.num==IntKind.i64.wrap (b:Int)):=rfl;rw[hp]at ht;simp only[PI.cells]at hg;cases hq:(x.opn||(x.items.take i).any (Gz b))
     ·rw[hq,QQo]at ht;simp only[Qt hlt,Qm,QP7,Qf,hg,hdm,hq,PI.cells,g1,g2,g3,m3,g7,g8,e1,eE,seval];exact⟨x.items.length-(i+1),by omega,_,_,i+1,rfl,rfl,(by exact g1),(by exact g2),(by exact g3),(by exact m3),by rw[ht]<;>first|rfl|simp only[eE,seval],(by rfl)⟩
     ·rw[hq,QQn]at ht;simp only[Qt hlt,hq,PI.cells,g7,g8,e1,Qb,seval];exact⟨x.items.length-(i+1),by omega,_,_,i+1,rfl,rfl,(by exact g1),(by exact g2),(by exact g3),(by exact m3),by rw[ht]<;>first|rfl|simp only[eE,seval],(by rfl)⟩
    ·rw[QPe (by omega)]at g7;simp only[QS hlt,g7,ha,Qb,seval]
   ·have d3:decide ((b:Int) > 2147483647)=true:=QQx (by omega);have ha:Jc P.enums t b=false:=by
     unfold Jc;rw[QOS (by omega)]
    simp only[d1,d2,QPz,d3,ha,eE,seval]
  ·have d2:decide (t≥(P.enums.length:Int))=true:=QQx (by omega);have ha:Jc P.enums t b=false:=by
    unfold Jc;rw[QOS (by omega)]
   simp only[d1,d2,QPz,ha,eE,seval]
 ·have d1:decide (t<0)=true:=QQx (by omega);have ha:Jc P.enums t b=false:=by
   unfold Jc;rw[QOS (by omega)]
  simp only[d1,ha,Qb,seval]

def Yq (P:PL)(k tg kd:Int)(b:Nat)(t:List UInt8)(l p s r:List AV):Int :=
 if (kd != k||oth kd b t l p s r)=true then 12 else if decide ((t.length:Int) > 4096)=true then 3 else if (k==7 && !Yz t)=true then 7
 else if (!Zn k kd b t l p s r)=true then 12 else if (k==9 && !Jc P.enums tg b)=true then 16 else 0

section
variable {M:Nat}(P:PL)(hP:P.ok M)(k tg kd:Int)(b:Nat)(t:List UInt8)(l p s r:List AV)(hl:l.length≤140737488351232)(hp:p.length≤140737488351232)(hs:s.length≤140737488351232)(hr:r.length≤140737488351232)

end
open Up

def _root_.Go.Proofs.YtfgchfdkiomfpaaGreat.Br.V.oth (v:V):Bool:=Va.oth v.kd v.bits v.text (v.list.map V.av) (v.pairs.map V.pav) (v.slots.map V.sav) (v.raws.map R.av)
def _root_.Go.Proofs.YtfgchfdkiomfpaaGreat.Br.V.one (P:PL)(k tg:Int)(v:V):Int:=Yq P k tg v.kd v.bits v.text (v.list.map V.av) (v.pairs.map V.pav) (v.slots.map V.sav) (v.raws.map R.av)

theorem Cz (v:V):v.av=vo v.kd v.bits v.text (v.list.map V.av) (v.pairs.map V.pav) (v.slots.map V.sav) (v.raws.map R.av):=by
 rw[V.av,V.eta];rfl

def QE (P:PL)(t:Int):PG:=P.progs[t.toNat]?.getD ⟨[],[],0⟩
def Q0 (a b:V):Bool:=a.bits==b.bits&&a.text==b.text
def XL (g:PG)(n:Int):Option PO:=g.ops.find? fun o=>o.num==n

section
variable (m:PG→V→Int)(P:PL)
end

mutual
def _root_.Go.Proofs.YtfgchfdkiomfpaaGreat.Br.V.cnt:V→Nat
 |.mk _ _ _ l p s r=>1+r.length+Zc l+XK p+Xx s
def Zc:List V→Nat
 | []=>0
 |x :: l=>x.cnt+Zc l
def XK:List (V×V)→Nat
 | []=>0
 |(a,b) :: l=>a.cnt+b.cnt+XK l
def Xx:List (Int×V)→Nat
 | []=>0
 |(_,a) :: l=>a.cnt+Xx l
end

theorem Xd:∀v:V,v.cnt=1+v.raws.length+Zc v.list+XK v.pairs+Xx v.slots
 |.mk k b t l p s r=>by rw[V.cnt];rfl

inductive Thin:V→Prop
 |mk {v:V} (n:v.list.length+2*v.pairs.length+v.slots.length≤1099511627776) (list:∀x∈v.list,Thin x) (keys:∀x∈v.pairs,Thin x.1) (vals:∀x∈v.pairs,Thin x.2) (slots:∀x∈v.slots,Thin x.2):Thin v

theorem Bn {P:PL}{k tg:Int}{v:V}(h:v.one P k tg=0):v.kd=k∧v.oth=false∧Zn k v.kd v.bits v.text (v.list.map V.av) (v.pairs.map V.pav) (v.slots.map V.sav) (v.raws.map R.av)=true:=by
 unfold V.one Yq at h;split at h
 ·omega
 ·rename_i h1;split at h
  ·omega
  ·split at h
   ·omega
   ·split at h
    ·omega
    ·rename_i h2;simp only[Bool.not_eq_true,QPy,bne_eq_false_iff_eq]at h1;exact⟨h1.1,h1.2,by simpa using h2⟩

end Go.Proofs.YtfgchfdkiomfpaaGreat.Va

namespace Go.Proofs.YtfgchfdkiomfpaaGreat.So

section
variable {α:Type}

def ZW (lt:α→α→Bool)(a:α):List α→List α
 | []=>[a]
 |x :: l=>bif lt x a then x :: ZW lt a l else a :: x :: l

def QB (lt:α→α→Bool):List α→List α
 | []=>[]
 |a :: l=>ZW lt a (QB lt l)

def mg (lt:α→α→Bool):List α→List α→List α
 | [],Y=>Y
 |x :: X,[]=>x :: X
 |x :: X,y :: Y=>bif lt y x then y :: mg lt (x :: X) Y else x :: mg lt X (y :: Y)
termination_by X Y=>X.length+Y.length

structure SW (lt:α→α→Bool):Prop where
 irr:∀x,lt x x=false
 tr:∀x y z,lt x y=true→lt y z=true→lt x z=true
 nt:∀x y z,lt x y=false→lt y z=false→lt x z=false

variable {lt:α→α→Bool}

theorem SW.as (h:SW lt){x y:α}(hx:lt x y=true):lt y x=false:=by
 cases hy:lt y x with
 |false=>rfl
 |true=>
  have:=h.tr x y x hx hy;rw[h.irr]at this;cases this

theorem JC (X:List α):mg lt X []=X:=by cases X<;>simp[mg]
theorem Ji (Y:List α):mg lt [] Y=Y:=by simp[mg]
theorem WT {x y:α}{X Y:List α}(h:lt y x=true):mg lt (x :: X) (y :: Y)=y :: mg lt (x :: X) Y:=by rw[mg,h];rfl
theorem Yr {x y:α}{X Y:List α}(h:lt y x=false):mg lt (x :: X) (y :: Y)=x :: mg lt X (y :: Y):=by rw[mg,h];rfl
theorem Ye {a x:α}{l:List α}(h:lt x a=true):ZW lt a (x :: l)=x :: ZW lt a l:=by rw[ZW,h];rfl
theorem Y0 {a x:α}{l:List α}(h:lt x a=false):ZW lt a (x :: l)=a :: x :: l:=by rw[ZW,h];rfl

theorem Pq (a:α):∀Y:List α,mg lt [a] Y=ZW lt a Y
 | []=>by rw[JC];rfl
 |y :: Y=>by
  cases h:lt y a with
  |true=>rw[WT h,Ye h,Pq a Y]
  |false=>rw[Yr h,Y0 h,Ji]

theorem Qsj (h:SW lt)(a:α):∀(n:Nat) (X Y:List α),X.length+Y.length=n→mg lt (ZW lt a X) Y=ZW lt a (mg lt X Y):=by
 intro n
 induction n using Nat.strongRecOn with
 |_ n ih=>
 intro X Y hn;cases X with
 |nil=>
  show mg lt [a] Y=ZW lt a (mg lt [] Y);rw[Ji,Pq]
 |cons x X=>
  cases Y with
  |nil=>rw[JC,JC]
  |cons y Y=>
   simp only[QOT]at hn;cases hxa:lt x a with
   |false=>
    have hi:ZW lt a (x :: X)=a :: x :: X:=Y0 hxa;cases hya:lt y a with
    |true=>
     cases hyx:lt y x with
     |true=>
      have i:=ih (n-1) (by omega) (x :: X) Y (by simp only[QOT];omega);rw[hi]at i ⊢;rw[WT hya,WT hyx,Ye hya,i]
     |false=>
      have:=h.nt y x a hyx hxa;rw[hya]at this;cases this
    |false=>
     rw[hi,Yr hya];cases hyx:lt y x with
     |true=>rw[WT hyx,Y0 hya]
     |false=>rw[Yr hyx,Y0 hxa]
   |true=>
    have hi:ZW lt a (x :: X)=x :: ZW lt a X:=Ye hxa;cases hyx:lt y x with
    |true=>
     have i:=ih (n-1) (by omega) (x :: X) Y (by simp only[QOT];omega);rw[hi]at i ⊢;rw[WT hyx,WT hyx,Ye (h.tr y x a hyx hxa),i]
    |false=>
     have i:=ih (n-1) (by omega) X (y :: Y) (by simp only[QOT];omega);rw[hi,Yr hyx,Yr hyx,Ye hxa,i]

theorem Kd (h:SW lt):∀A B:List α,mg lt (QB lt A) (QB lt B)=QB lt (A++B)
 | [],B=>Ji _
 |a :: A,B=>by
  show mg lt (ZW lt a (QB lt A)) (QB lt B)=ZW lt a (QB lt (A++B));rw[Qsj h a _ _ _ rfl,Kd h A B]

theorem WU:∀(n:Nat) (X1 Y1 X2 Y2:List α),X1.length+Y1.length=n→(∀y∈Y1,∀x∈X2,lt y x=true)→(∀x∈X1,∀y∈Y2,lt y x=false)→
  mg lt (X1++X2) (Y1++Y2)=mg lt X1 Y1++mg lt X2 Y2:=by
 intro n
 induction n using Nat.strongRecOn with
 |_ n ih=>
 intro X1 Y1 X2 Y2 hn h1 h2;cases X1 with
 |nil=>
  cases Y1 with
  |nil=>rw[Ji];rfl
  |cons y Y1=>
   cases X2 with
   |nil=>simp[Ji]
   |cons x X2=>
    simp only[QOT,QPA]at hn;have i:=ih (n-1) (by omega) [] Y1 (x :: X2) Y2 (by simp only[QPA];omega) (fun z hz=>h1 z (QOU _ hz)) h2;simp only[QO1,QO0,Ji]at i ⊢;rw[WT (h1 y (by simp) x (by simp)),i]
 |cons x X1=>
  simp only[QOT]at hn;cases Y1 with
  |nil=>
   cases Y2 with
   |nil=>simp[JC]
   |cons y Y2=>
    have i:=ih (n-1) (by omega) X1 [] X2 (y :: Y2) (by simp only[QPA]at hn ⊢;omega) h1 (fun z hz=>h2 z (QOU _ hz));simp only[QO1,QO0,JC]at i ⊢;rw[Yr (h2 x (by simp) y (by simp)),i]
  |cons y Y1=>
   simp only[QOT]at hn;simp only[QO0];cases hyx:lt y x with
   |true=>
    have i:=ih (n-1) (by omega) (x :: X1) Y1 X2 Y2 (by simp only[QOT];omega) (fun z hz=>h1 z (QOU _ hz)) h2;simp only[QO0]at i;rw[WT hyx,WT hyx,i];rfl
   |false=>
    have i:=ih (n-1) (by omega) X1 (y :: Y1) X2 Y2 (by simp only[QOT];omega) h1 (fun z hz=>h2 z (QOU _ hz));simp only[QO0]at i;rw[Yr hyx,Yr hyx,i];rfl

theorem LX {x:α}{Y1 Y2:List α}(h1:∀y∈Y1,lt y x=true)(h2:∀y∈Y2,lt y x=false):mg lt [x] (Y1++Y2)=Y1++x :: Y2:=by
 have a:=WU (lt:=lt) _ [] Y1 [x] Y2 rfl (fun y hy z hz=>by rw[QQC.1 hz];exact h1 y hy) (by simp);have b:=WU (lt:=lt) _ [x] [] [] Y2 rfl (by simp) (fun z hz y hy=>by rw[QQC.1 hz];exact h2 y hy);simp only[QO1,QPI,Ji,JC]at a b;rw[a,b];rfl

theorem K0 {y:α}{X1 X2:List α}(h1:∀x∈X1,lt y x=false)(h2:∀x∈X2,lt y x=true):mg lt (X1++X2) [y]=X1++y :: X2:=by
 have a:=WU (lt:=lt) _ X1 [y] X2 [] rfl (fun z hz x hx=>by rw[QQC.1 hz];exact h2 x hx) (by simp);have b:=WU (lt:=lt) _ X1 [] [] [y] rfl (by simp) (fun x hx z hz=>by rw[QQC.1 hz];exact h1 x hx);simp only[QO1,QPI,Ji,JC]at a b;rw[a,b];simp

def X5 (lt:α→α→Bool)(l:List α):Prop:=l.Pairwise fun x y=>lt y x=false

theorem Ds {a z:α}:∀ {l:List α},z∈ZW lt a l→z=a∨z∈l
 | [],h=>.inl (QQC.1 h)
 |x :: l,h=>by
  cases hx:lt x a with
  |true=>
   rw[Ye hx]at h;rcases QP0.1 h with rfl|h
   ·exact .inr QOW
   ·rcases Ds h with h|h
    ·exact .inl h
    ·exact .inr (QOU _ h)
  |false=>
   rw[Y0 hx]at h;rcases QP0.1 h with rfl|h
   ·exact .inl rfl
   ·exact .inr h

theorem UF {z:α}:∀ {l:List α},z∈QB lt l→z∈l
 | [],h=>h
 |a :: l,h=>by
  rcases Ds (l:=QB lt l) h with rfl|h
  ·exact QOW
  ·exact QOU _ (UF h)

theorem Vc (h:SW lt)(a:α):∀ {l:List α},X5 lt l→X5 lt (ZW lt a l)
 | [],_=>QQD _ _
 |x :: l,hs=>by
  obtain⟨h1,h2⟩:=QQe.1 hs;cases hx:lt x a with
  |true=>
   rw[Ye hx];refine QQe.2 ⟨fun z hz=>?_,Vc h a h2⟩;rcases Ds hz with rfl|hz
   ·exact h.as hx
   ·exact h1 z hz
  |false=>
   rw[Y0 hx];refine QQe.2 ⟨fun z hz=>?_,hs⟩;rcases QP0.1 hz with rfl|hz
   ·exact hx
   ·exact h.nt z x a (h1 z hz) hx

theorem XX (h:SW lt):∀l:List α,X5 lt (QB lt l)
 | []=>List.Pairwise.nil
 |a :: l=>Vc h a (XX h l)

theorem Vd (a:α):∀l:List α,(ZW lt a l).length=l.length+1
 | []=>rfl
 |x :: l=>by
  cases hx:lt x a with
  |true=>rw[Ye hx,QOT,Vd a l,QOT]
  |false=>rw[Y0 hx];rfl

theorem JD:∀l:List α,(QB lt l).length=l.length
 | []=>rfl
 |a :: l=>by show(ZW lt a (QB lt l)).length=_;rw[Vd,JD l];rfl

theorem Qsk:∀(n:Nat) (X Y:List α),X.length+Y.length=n→(mg lt X Y).length=n:=by
 intro n
 induction n using Nat.strongRecOn with
 |_ n ih=>
 intro X Y hn;cases X with
 |nil=>rw[Ji];simpa using hn
 |cons x X=>
  cases Y with
  |nil=>rw[JC];simpa using hn
  |cons y Y=>
   simp only[QOT]at hn;cases hyx:lt y x with
   |true=>
    rw[WT hyx,QOT,ih (n-1) (by omega) (x :: X) Y (by simp only[QOT];omega)];omega
   |false=>
    rw[Yr hyx,QOT,ih (n-1) (by omega) X (y :: Y) (by simp only[QOT];omega)];omega

theorem Qsl {z:α}:∀(n:Nat) (X Y:List α),X.length+Y.length=n→z∈mg lt X Y→z∈X∨z∈Y:=by
 intro n
 induction n using Nat.strongRecOn with
 |_ n ih=>
 intro X Y hn hz;cases X with
 |nil=>rw[Ji]at hz;exact .inr hz
 |cons x X=>
  cases Y with
  |nil=>rw[JC]at hz;exact .inl hz
  |cons y Y=>
   simp only[QOT]at hn;cases hyx:lt y x with
   |true=>
    rw[WT hyx]at hz;rcases QP0.1 hz with rfl|hz
    ·exact .inr QOW
    ·exact(ih (n-1) (by omega) (x :: X) Y (by simp only[QOT];omega) hz).imp id (QOU _)
   |false=>
    rw[Yr hyx]at hz;rcases QP0.1 hz with rfl|hz
    ·exact .inl QOW
    ·exact(ih (n-1) (by omega) X (y :: Y) (by simp only[QOT];omega) hz).imp (QOU _) id

theorem K1 (h:SW lt){l:List α}(hs:X5 lt l){i j:Nat}{u v x:α}(hij:i≤j)(hi:l[i]? = some u)(hj:l[j]? = some v)(hv:lt v x=true):lt u x=true:=by
 rcases Nat.lt_or_eq_of_le hij with hlt|rfl
 ·obtain⟨h1,rfl⟩:=QOG.1 hi;obtain⟨h2,rfl⟩:=QOG.1 hj;have:=QQE.1 hs i j h1 h2 hlt;cases hu:lt l[i] x with
  |true=>rfl
  |false=>
   have:=h.nt _ _ _ this hu;rw[hv]at this;cases this
 ·rw[hi]at hj;cases hj;exact hv

theorem KC {l:List α}(hs:X5 lt l)(h:SW lt){i j:Nat}{u v:α}(hij:i≤j)(hi:l[i]? = some u)(hj:l[j]? = some v):lt v u=false:=by
 rcases Nat.lt_or_eq_of_le hij with hlt|rfl
 ·obtain⟨h1,rfl⟩:=QOG.1 hi;obtain⟨h2,rfl⟩:=QOG.1 hj;exact QQE.1 hs i j h1 h2 hlt
 ·rw[hi]at hj;cases hj;exact h.irr _

def Xf (lt:α→α→Bool)(s:Nat):Nat→List α→List α
 |0,_=>[]
 |n+1,l=>QB lt (l.take s)++Xf lt s n (l.drop s)

theorem Dt (s:Nat):∀k,Xf lt s k []=[]
 |0=>rfl
 |k+1=>by rw[Xf,List.take_nil,QPT,Dt s k];rfl

theorem U2 (s:Nat):∀(k:Nat) (l:List α),(Xf lt s k l).length=min (s*k) l.length
 |0,l=>by simp[Xf]
 |k+1,l=>by
  rw[Xf,QPi,JD,U2 s k,QPB,QPl,Nat.mul_succ];omega

theorem WG {s:Nat}{z:α}:∀ {k:Nat} {l:List α},z∈Xf lt s k l→z∈l
 |0,l,h=>by cases h
 |k+1,l,h=>by
  rw[Xf]at h;rcases QPX.1 h with h|h
  ·exact QPt (UF h)
  ·exact QPs (WG h)

theorem Y3 (s:Nat):∀(k:Nat) (l:List α),Xf lt s (k+1) l=Xf lt s k l++QB lt ((l.drop (s*k)).take s)
 |0,l=>by simp[Xf]
 |k+1,l=>by
  rw[Xf,Y3 s k (l.drop s),Xf,QOZ,QO8,Nat.mul_succ,Nat.add_comm s (s*k)]

theorem Ve {s k:Nat}{l:List α}(h:l.length≤s)(hk:l.length≤s*k):Xf lt s k l=QB lt l:=by
 cases k with
 |zero=>
  have:l=[]:=QPJ (by omega);subst this;rfl
 |succ k=>rw[Xf,QPe h,QPh h,Dt,QPI]

theorem R7 (s:Nat)(l:List α):l.take s++(l.drop s).take s=l.take (2*s):=by
 rw[show 2*s=s+s by omega,List.take_add]

end

end Go.Proofs.YtfgchfdkiomfpaaGreat.So

namespace Go.Proofs.YtfgchfdkiomfpaaGreat.Va
open Go Am Rc Bt

def YA (b:Nat):Nat :=
 let z:=b % 9223372036854775808
 if z > 9218868437227405312 then 0 else if z=9218868437227405312 then 1 else if z=0 then 2 else if z<4503599627370496 then 3 else 4

theorem Qsm (b:Nat):b &&& 4503599627370495=b % 4503599627370496:=Nat.and_two_pow_sub_one_eq_mod b 52
theorem Qsn (b:Nat):b &&& 9218868437227405312=(b / 4503599627370496 % 2048)*4503599627370496:=by
 have h1:(9218868437227405312:Nat)=2047 <<< 52:=by decide
 have h2:(b / 4503599627370496 % 2048)*4503599627370496=(b >>> 52 % 2 ^ 11) <<< 52:=by
  rw[Nat.shiftLeft_eq,Nat.shiftRight_eq_div_pow]
 rw[h1,h2]
 apply Nat.eq_of_testBit_eq
 intro i;rw[Nat.testBit_and,Nat.testBit_shiftLeft,Nat.testBit_shiftLeft,Nat.testBit_mod_two_pow,Nat.testBit_shiftRight,show(2047:Nat)=2 ^ 11-1 by decide,Nat.testBit_two_pow_sub_one];by_cases h:i≥52
 ·rw[show 52+(i-52)=i by omega];simp[h,Bool.and_comm]
 ·simp[h]

def Zi (k:Int)(b:Nat):Nat:=if k=6∧YA b=0 then 9221120237041090560 else b

theorem CA (b:Nat):((YA b:Int)==0)=decide (YA b=0):=by
 rw[QQv,QO5,QP1];omega

open Br Up So

section sorting
variable {α:Type}{lt:α→α→Bool}
theorem Bo (a:α):∀l:List α,(ZW lt a l).Perm (a :: l)
 | []=>.refl _
 |x :: l=>by
  rw[ZW];cases lt x a
  ·exact .refl _
  ·exact((Bo a l).cons x).trans (.swap a x l)
theorem QW:∀l:List α,(QB lt l).Perm l
 | []=>.refl _
 |a :: l=>(Bo a _).trans ((QW l).cons a)
end sorting

theorem HJ:∀ {a b c:List UInt8},Op.bytesLess a b=true→Op.bytesLess b c=true→Op.bytesLess a c=true
 |a,b,[],_,h=>by cases b<;>simp[Op.bytesLess]at h
 | [],_,_ :: _,_,_=>by simp[Op.bytesLess]
 |x :: a,[],_ :: _,h,_=>by simp[Op.bytesLess]at h
 |x :: a,y :: b,z :: c,h,k=>by
  simp only[Op.bytesLess,QPE,QO2,QP1,QO5]at h k ⊢;rcases h with h|⟨h1,h2⟩<;>rcases k with k|⟨k1,k2⟩
  ·exact .inl (UInt8.lt_trans h k)
  ·subst k1;exact .inl h
  ·subst h1;exact .inl k
  ·subst h1 k1;exact .inr ⟨rfl,HJ h2 k2⟩
theorem UG:∀ {a b:List UInt8},Op.bytesLess a b=false→Op.bytesLess b a=false→a=b
 | [],[],_,_=>rfl
 | [],_ :: _,h,_=>by simp[Op.bytesLess]at h
 |_ :: _,[],_,h=>by simp[Op.bytesLess]at h
 |x :: a,y :: b,h,k=>by
  simp only[Op.bytesLess,QPy,Bool.and_eq_false_iff,QQw,QQp]at h k;have e:x=y:=by
   rcases Nat.lt_trichotomy x.toNat y.toNat with g|g|g
   ·exact absurd (UInt8.lt_iff_toNat_lt.2 g) h.1
   ·exact UInt8.toNat_inj.1 g
   ·exact absurd (UInt8.lt_iff_toNat_lt.2 g) k.1
  subst e;rw[UG (h.2.resolve_left fun g=>g rfl) (k.2.resolve_left fun g=>g rfl)]
theorem DU:∀a:List UInt8,Op.bytesLess a a=false
 | []=>rfl
 |x :: a=>by simp[Op.bytesLess,DU a]

def kl (k:Int)(a b:V):Bool :=
 if XV k=true then Op.bytesLess a.text b.text else if (k==2||k==3)=true then decide (IntKind.i64.wrap (a.bits:Int)<IntKind.i64.wrap (b.bits:Int))else decide ((a.bits:Int)<(b.bits:Int))
theorem ZD (k:Int):SW fun x y:V×V=>kl k x.1 y.1 where
 irr x:=by
  unfold kl;split
  ·exact DU _
  ·split<;>simp
 tr x y z h g:=by
  unfold kl at *;split
  ·rename_i ht;rw[QO9 ht]at h g;exact HJ h g
  ·rename_i ht;rw[QOS ht]at h g;split
   ·rename_i hs;rw[QO9 hs]at h g;simp only[QP1]at *;omega
   ·rename_i hs;rw[QOS hs]at h g;simp only[QP1]at *;omega
 nt x y z h g:=by
  unfold kl at *;split
  ·rename_i ht;rw[QO9 ht]at h g;cases hc:Op.bytesLess x.1.text z.1.text with
   |false=>rfl
   |true=>
    cases hy:Op.bytesLess y.1.text x.1.text with
    |true=>rw[HJ hy hc]at g;cases g
    |false=>
     rw[UG h hy]at hc;rw[hc]at g;cases g
  ·rename_i ht;rw[QOS ht]at h g;split
   ·rename_i hs;rw[QO9 hs]at h g;simp only[QQw]at *;omega
   ·rename_i hs;rw[QOS hs]at h g;simp only[QQw]at *;omega

def QT (k:Int)(l:List (V×V)):List (V×V):=QB (fun x y=>kl k x.1 y.1) l
def ZT (l:List R):List R:=QB (fun x y=>decide (x.num<y.num)) l
theorem CB:SW fun x y:R=>decide (x.num<y.num) where
 irr x:=by simp
 tr x y z h k:=by simp only[QP1]at *;omega
 nt x y z h k:=by simp only[QQw]at *;omega

def _root_.Go.Proofs.YtfgchfdkiomfpaaGreat.Br.V.nsc (v:V):V:=.mk v.kd (Zi v.kd v.bits) v.text v.list v.pairs v.slots v.raws
def _root_.Go.Proofs.YtfgchfdkiomfpaaGreat.Br.V.emp (v:V):Bool:=Va.emp v.kd v.bits v.text (v.list.map V.av) (v.pairs.map V.pav) (v.slots.map V.sav) (v.raws.map R.av)

section
variable (nm:PG→V→V)(P:PL)
def ZX (o:PO)(v:V):V:=if o.kind=10 then nm (QE P o.target) v else v.nsc
def Jj (o:PO)(v:V):V :=
 if o.card=4 then .mk 11 0 [] (v.list.map (ZX nm P o)) [] [] []else if o.card=5 then .mk 12 0 [] [] ((QT o.key v.pairs).map fun p=>(p.1.nsc,ZX nm P o p.2)) [] []else ZX nm P o v
def X7 (sl:List (Int×V))(o:PO):List (Int×V):=match sl.find? (fun s=>s.1==o.num)with
 |none=>[]
 |some s=>if (decide (o.card<3) || !(Jj nm P o s.2).emp)=true then [(o.num,Jj nm P o s.2)]else []
def Bp (g:PG)(v:V):V:=.mk 10 0 [] [] [] (g.ops.flatMap (X7 nm P v.slots)) (ZT v.raws)
end
def Xv (P:PL):Nat→PG→V→V
 |0,_,v=>v
 |n+1,g,v=>Bp (Xv P n) P g v

theorem Vf (v:V):v.nsc.cnt=v.cnt:=by
 rw[Xd,Xd v];rfl
theorem Bq {f:V→V}(h:∀v,(f v).cnt≤v.cnt):∀l:List V,Zc (l.map f)≤Zc l
 | []=>QOE _
 |x :: l=>by
  have:=h x;have:=Bq h l;simp only[QPc,Zc];omega
theorem Bs {f g:V→V}(h:∀v,(f v).cnt≤v.cnt)(k:∀v,(g v).cnt≤v.cnt):∀l:List (V×V),XK (l.map fun p=>(f p.1,g p.2))≤XK l
 | []=>QOE _
 |(a,b) :: l=>by
  have:=h a;have:=k b;have:=Bs h k l;simp only[QPc,XK];omega
theorem DV {a b:List (V×V)}(h:a.Perm b):XK a=XK b:=by
 induction h with
 |nil=>rfl
 |cons x _ ih=>obtain⟨p,q⟩:=x;simp only[XK,ih]
 |swap x y l=>obtain⟨p,q⟩:=x;obtain⟨r,s⟩:=y;simp only[XK];omega
 |trans _ _ h1 h2=>rw[h1,h2]
theorem HK (a b:List (Int×V)):Xx (a++b)=Xx a+Xx b:=by
 induction a with
 |nil=>simp[Xx]
 |cons x a ih=>obtain⟨n,v⟩:=x;simp only[QO0,Xx,ih];omega

theorem Du {nm:PG→V→V}{P:PL}(h:∀t v,(nm (QE P t) v).cnt≤v.cnt)(o:PO)(v:V):(ZX nm P o v).cnt≤v.cnt:=by
 unfold ZX;split
 ·exact h _ _
 ·rw[Vf];exact QOE _
theorem Vg {nm:PG→V→V}{P:PL}(h:∀t v,(nm (QE P t) v).cnt≤v.cnt)(o:PO)(v:V):(Jj nm P o v).cnt≤v.cnt:=by
 unfold Jj;split
 ·have:=Bq (Du (P:=P) h o) v.list;rw[Xd,Xd v];simp only[V.raws,V.list,V.pairs,V.slots,QPA,XK,Xx];simp only[V.list]at this;omega
 ·split
  ·have h1:=Bs (f:=V.nsc) (g:=ZX nm P o) (fun v=>by rw[Vf];exact QOE _) (Du (P:=P) h o) (QT o.key v.pairs);have h2:XK (QT o.key v.pairs)=XK v.pairs:=DV (QW _);rw[Xd,Xd v];simp only[V.raws,V.list,V.pairs,V.slots,QPA,Zc,Xx];simp only[V.pairs]at h1 h2;omega
  ·exact Du h o v

def wS (sl:List (Int×V))(n:Int):Nat:=Xx (sl.filter fun s=>s.1==n)
theorem Qso (ops:List PO)(hd:ops.Pairwise fun a b=>a.num<b.num)(n:Int)(w:Nat):(ops.map fun o=>if n=o.num then w else 0).sum≤w:=by
 induction ops with
 |nil=>simp
 |cons o ops ih=>
  obtain⟨h1,h2⟩:=QQe.1 hd;simp only[QPc,List.sum_cons];by_cases e:n=o.num
  ·have:(ops.map fun o=>if n=o.num then w else 0).sum=0:=by
    have:∀l:List PO,(∀x∈l,n≠x.num)→(l.map fun o=>if n=o.num then w else 0).sum=0:=by
     intro l
     induction l with
     |nil=>intro _;rfl
     |cons x l ih=>
      intro h;rw[QPc,List.sum_cons,QOS (h x (by simp)),ih fun y hy=>h y (by simp[hy])]
    exact this ops fun x hx=>by have:=h1 x hx;omega
   rw[QO9 e,this];omega
  ·rw[QOS e];have:=ih h2;omega
theorem Qsp (ops:List PO)(hd:ops.Pairwise fun a b=>a.num<b.num)(sl:List (Int×V)):(ops.map fun o=>wS sl o.num).sum≤Xx sl:=by
 induction sl with
 |nil=>
  have:∀l:List PO,(l.map fun o=>wS [] o.num).sum=0:=by
   intro l
   induction l with
   |nil=>rfl
   |cons x l ih=>rw[QPc,List.sum_cons,ih];rfl
  rw[this];exact QOM _
 |cons s sl ih=>
  obtain⟨n,v⟩:=s;have h1:=Qso ops hd n v.cnt;have h2:∀l:List PO,(l.map fun o=>wS ((n,v) :: sl) o.num).sum=(l.map fun o=>if n=o.num then v.cnt else 0).sum+(l.map fun o=>wS sl o.num).sum:=by
   intro l
   induction l with
   |nil=>rfl
   |cons o l ih=>
    simp only[QPc,List.sum_cons,ih];have:wS ((n,v) :: sl) o.num=(if n=o.num then v.cnt else 0)+wS sl o.num:=by
     unfold wS;by_cases e:n=o.num
     ·rw[List.filter_cons_of_pos (by simpa using e),QO9 e,Xx]
     ·rw[List.filter_cons_of_neg (by simpa using e),QOS e,QPm]
    omega
  rw[h2,Xx];omega

theorem LY {sl:List (Int×V)}{n:Int}{s:Int×V}(h:sl.find? (fun s=>s.1==n)=some s):s.2.cnt≤wS sl n:=by
 unfold wS
 induction sl with
 |nil=>cases h
 |cons x sl ih=>
  obtain⟨m,v⟩:=x;rw[QQs]at h;by_cases e:m=n
  ·have hb:((m,v).1==n)=true:=by simpa using e
   rw[hb]at h;cases h;rw[List.filter_cons_of_pos (by simpa using e),Xx];exact Nat.le_add_right _ _
  ·have hb:((m,v).1==n)=false:=by simpa using e
   rw[hb]at h;rw[List.filter_cons_of_neg (by simpa using e)];exact ih h

theorem R8 {nm:PG→V→V}{P:PL}(h':∀t v,(nm (QE P t) v).cnt≤v.cnt)(g:PG)(hd:g.ops.Pairwise fun a b=>a.num<b.num)(v:V):(Bp nm P g v).cnt≤v.cnt:=by
 have h1:Xx (g.ops.flatMap (X7 nm P v.slots))≤(g.ops.map fun o=>wS v.slots o.num).sum:=by
  clear hd
  induction g.ops with
  |nil=>exact QOE _
  |cons o l ih=>
   have:Xx (X7 nm P v.slots o)≤wS v.slots o.num:=by
    unfold X7;cases hf:v.slots.find? (fun s=>s.1==o.num)with
    |none=>exact QOM _
    |some s=>
     have a:=LY hf;have b:=Vg (P:=P) h' o s.2;dsimp only;split
     ·simp only[Xx];omega
     ·exact QOM _
   rw[QP9,HK,QPc,List.sum_cons];omega
 have h2:=Qsp g.ops hd v.slots;have h3:(ZT v.raws).length=v.raws.length:=(QW _).length_eq;rw[Xd,Xd v];simp only[Bp,V.raws,V.list,V.pairs,V.slots,Zc,XK]at *;omega

def ZY (P:PL):Prop:=∀g∈P.progs,g.ops.Pairwise fun a b=>a.num<b.num
theorem Yf {P:PL}(h:ZY P)(t:Int):(QE P t).ops.Pairwise fun a b=>a.num<b.num:=by
 unfold QE;cases hg:P.progs[t.toNat]? with
 |none=>exact .nil
 |some g=>exact h g (QOR hg)

theorem U3 {P:PL}(h:ZY P):∀(n:Nat) (g:PG),(g.ops.Pairwise fun a b=>a.num<b.num)→∀v:V,(Xv P n g v).cnt≤v.cnt
 |0,_,_,_=>QOE _
 |n+1,g,hg,v=>R8 (fun t v=>U3 h n _ (Yf h t) v) g hg v

end Go.Proofs.YtfgchfdkiomfpaaGreat.Va

/- Parts of the proof, in order. -/
import Derived.WalkKit
import Derived.Lib.SmallJoins
import Derived.Deep.Slices
import Derived.DataShut
import Derived.Test.YtfgchfdkiomfpaaGreatRows
import Derived.Test.YtfgchfdkiomfpaaGreatProg
import Derived.Lib.IndexLaws
import Derived.Test.YtfgchfdkiomfpaaGreatMTagdecReads1

namespace Go.Proofs.YtfgchfdkiomfpaaGreat.Rc
open Go Am
abbrev QAM:IL:=[jh 1 1 0,jq 2]
abbrev QAN:IL:=[yi 3]
abbrev QAO:IL:=[jc 4 0]
abbrev QAP:IL:=[ja 8 4,jb 9 0 1,je 10 9,jp 11 1 10,jv 12 8 11]
abbrev QAQ:IL:=[ja 15 3,ja 16 15,jk 17 4 16,yo 18 17 0 16,jk 19 18 16,jz 20 0 1 19,zu 21 0 1 20 19,yc 22 4 19,⟨some 23,.val (.bin .num .sub (.t 22) (.c (.int .i64 1))),(some (19,false))⟩,zo 24 3 21 23 19,jz 25 0 24 19,NQ 26 25 19,jz 27 0 1 19,zu 28 0 1 27 19,yc 29 4 19,zo 30 3 28 29 19,jz 31 0 30 19,NQ 32 31 19,⟨some 33,.val (.bin .str .lss (.t 26) (.t 32)),(some (19,false))⟩,zf 34 19 33 16,jm 35 16 34,ja 3 35]
abbrev QAR:IL:=[jc 5 1]
abbrev QAS:IL:=[ja 36 5,jb 37 0 1,je 38 37,ja 39 4,jr 40 3 38 39,jb 41 1 40,je 42 41,jp 43 1 42,jv 44 36 43]
abbrev QAT:IL:=[ja 47 3,ja 48 47,jo 49 0 1 48,zk 50 0 1 49 48,jk 51 4 48,ye 52 3 50 51 48,jo 53 1 52 48,yt 54 53 48,jk 55 5 48,F1 56 55 1 48,ye 57 8 54 56 48,jo 58 0 57 48,yt 59 58 48,jo 60 0 1 48,zk 61 0 1 60 48,jk 62 4 48,ye 63 3 61 62 48,jo 64 1 63 48,yt 65 64 48,jk 66 5 48,ye 67 8 65 66 48,jo 68 0 67 48,yt 69 68 48,DS 70 59 69 48,jm 71 48 70,ja 3 71]
abbrev QAU:IL:=[ja 45 5,jw 46 45 1,ja 5 46]
abbrev Te:RC:=.seq (jQ QAS (jX 44 2)) (.seq (.block 3 (.draw QAT)) (.reg QAU))
abbrev QAV:IL:=[ja 13 4,jw 14 13 1,ja 4 14]
abbrev Tf:RC:=.seq (jQ QAP (jX 12 0)) (.seq (.block 1 (jD QAQ (jQ QAR (.block 2 (.loop Te))))) (.reg QAV))
abbrev QmJ:IL:=[jc 6 0]
abbrev QmK:IL:=[ja 72 6,jb 73 1 1,je 74 73,jp 75 1 74,jv 76 72 75]
abbrev QmL:IL:=[ja 79 3,ja 80 79,jk 81 6 80,yo 82 81 0 80,jk 83 82 80,jz 84 1 1 83,zu 85 0 1 84 83,yc 86 6 83,⟨some 87,.val (.bin .num .sub (.t 86) (.c (.int .i64 1))),(some (83,false))⟩,zo 88 5 85 87 83,jz 89 0 88 83,NQ 90 89 83,jz 91 1 1 83,zu 92 0 1 91 83,yc 93 6 83,zo 94 5 92 93 83,jz 95 0 94 83,NQ 96 95 83,⟨some 97,.val (.bin .str .lss (.t 90) (.t 96)),(some (83,false))⟩,zf 98 83 97 80,jm 99 80 98,ja 3 99]
abbrev QmM:IL:=[jc 7 1]
abbrev QmN:IL:=[ja 100 7,jb 101 1 1,je 102 101,ja 103 6,jr 104 5 102 103,jb 105 2 104,je 106 105,jp 107 1 106,jv 108 100 107]
abbrev QmO:IL:=[ja 111 3,ja 112 111,jo 113 1 1 112,zk 114 0 1 113 112,jk 115 6 112,ye 116 5 114 115 112,jo 117 2 116 112,yt 118 117 112,jk 119 7 112,F1 120 119 1 112,ye 121 3 118 120 112,jo 122 1 121 112,yt 123 122 112,jo 124 1 1 112,zk 125 0 1 124 112,jk 126 6 112,ye 127 5 125 126 112,jo 128 2 127 112,yt 129 128 112,jk 130 7 112,ye 131 3 129 130 112,jo 132 1 131 112,yt 133 132 112,DS 134 123 133 112,jm 135 112 134,ja 3 135]
abbrev QmP:IL:=[ja 109 7,jw 110 109 1,ja 7 110]
abbrev Th:RC:=.seq (jQ QmN (jX 108 6)) (.seq (.block 7 (.draw QmO)) (.reg QmP))
abbrev QmQ:IL:=[ja 77 6,jw 78 77 1,ja 6 78]
abbrev Ti:RC:=.seq (jQ QmK (jX 76 4)) (.seq (.block 5 (jD QmL (jQ QmM (.block 6 (.loop Th))))) (.reg QmQ))
abbrev QmR:IL:=[ja 136 3,ja 2 136]
abbrev r30:RC:=jQ QAM (jQ QAN (.seq (jQ QAO (.block 0 (.loop Tf))) (.seq (jQ QmJ (.block 4 (.loop Ti))) (jQ QmR (.ret)))))
abbrev o30:List RR:=[.tmp 2]
theorem k30:CT 30 137 r30 o30:=ck Tryz.func30 Tryz.ntmps30 (by decide +kernel)
abbrev QAW:IL:=[jh 1 1 0,jq 2]
abbrev QAX:IL:=[yi 3]
abbrev QAY:IL:=[jc 4 0]
abbrev QAZ:IL:=[ja 13 4,jb 14 0 1,je 15 14,jp 16 1 15,jv 17 13 16]
abbrev QA0:IL:=[jc 5 0]
abbrev QA1:IL:=[ja 20 5,jb 21 0 1,je 22 21,ja 23 4,jr 24 3 22 23,jb 25 1 24,je 26 25,jp 27 1 26,jv 28 20 27]
abbrev QA2:IL:=[jb 31 0 1,je 32 31,ja 33 4,jr 34 3 32 33,jb 35 1 34,je 36 35,ja 37 5,jr 38 8 36 37,jb 39 0 38,je 40 39,ja 6 40]
abbrev QA3:IL:=[ja 41 3,ja 42 41,jk 43 6 42,NU 44 43 1 42,jm 45 42 44,ja 46 45,jk 47 6 46,yz 48 47 65535 46,jm 49 46 48,ja 3 49]
abbrev QA4:IL:=[ja 29 5,jw 30 29 1,ja 5 30]
abbrev Tj:RC:=.seq (jQ QA1 (jX 28 2)) (.seq (.block 3 (jQ QA2 (.reg QA3))) (.reg QA4))
abbrev QA5:IL:=[ja 18 4,jw 19 18 1,ja 4 19]
abbrev Tk:RC:=.seq (jQ QAZ (jX 17 0)) (.seq (.block 1 (jQ QA0 (.block 2 (.loop Tj)))) (.reg QA5))
abbrev QmS:IL:=[jc 7 0]
abbrev QmT:IL:=[ja 50 7,jb 51 1 1,je 52 51,jp 53 1 52,jv 54 50 53]
abbrev QmU:IL:=[jb 57 1 1,je 58 57,ja 59 7,jr 60 5 58 59,jd 61 5 60,⟨some 8,.allocN 8 [.str [],.bool false,.nils,.nils,.nils],none⟩,jf 5 8 61]
abbrev QmV:IL:=[jc 9 0]
abbrev QmW:IL:=[ja 62 9,jb 63 2 8,je 64 63,jp 65 1 64,jv 66 62 65]
abbrev QmX:IL:=[jb 69 2 8,je 70 69,ja 71 9,jr 72 3 70 71,jb 73 1 72,je 74 73,ja 10 74]
abbrev QmY:IL:=[ja 75 3,ja 76 75,jk 77 10 76,yz 78 77 2147483647 76,jm 79 76 78,ja 80 79,jk 81 9 80,⟨some 82,.val (.bin .num .gtr (.t 81) (.c (.int .i64 0))),(some (80,true))⟩,jk 83 82 80,yc 84 10 83,yu 85 84 0 83,zf 86 83 85 80,jm 87 80 86,ja 88 87,jo 89 3 8 88,jx 90 89 88,jk 91 10 88,DT 92 63 90 91 88,zt 93 92 88,jm 94 88 93,ja 3 94]
abbrev QmZ:IL:=[ja 67 9,jw 68 67 1,ja 9 68]
abbrev Tl:RC:=.seq (jQ QmW (jX 66 6)) (.seq (.block 7 (jQ QmX (.reg QmY))) (.reg QmZ))
abbrev Qm0:IL:=[jc 11 0]
abbrev Qm1:IL:=[ja 95 11,jb 96 3 8,je 97 96,jp 98 1 97,jv 99 95 98]
abbrev Qm2:IL:=[jb 102 3 8,je 103 102,ja 104 11,jr 105 2 103 104,jd 106 2 105,⟨some 12,.allocN 12 [.int .i64 0,.int .i64 0],none⟩,jf 2 12 106]
abbrev Qm3:IL:=[ja 107 3,ja 108 107,jo 109 0 12 108,zk 110 0 12 109 108,NU 111 110 0 108,jm 112 108 111,ja 113 112,jo 114 1 12 113,zk 115 0 12 114 113,yz 116 115 2147483647 113,jm 117 113 116,ja 118 117,jo 119 0 12 118,zk 120 0 12 119 118,jo 121 1 12 118,zk 122 0 12 121 118,F2 123 120 122 118,jm 124 118 123,ja 125 124,jk 126 11 125,yo 127 126 0 125,jk 128 127 125,jz 129 0 12 128,zu 130 0 12 129 128,jz 131 3 8 128,zu 132 0 8 131 128,yc 133 11 128,⟨some 134,.val (.bin .num .sub (.t 133) (.c (.int .i64 1))),(some (128,false))⟩,zo 135 2 132 134 128,jz 136 1 135 128,NQ 137 136 128,M3 138 130 137 128,zf 139 128 138 125,jm 140 125 139,ja 3 140]
abbrev Qm4:IL:=[ja 100 11,jw 101 100 1,ja 11 101]
abbrev Tm:RC:=.gho (.drop 12) (.seq (jQ Qm1 (jX 99 8)) (.seq (.block 9 (jQ Qm2 (.draw Qm3))) (.reg Qm4)))
abbrev Qm5:IL:=[ja 55 7,jw 56 55 1,ja 7 56]
abbrev Tn:RC:=.gho (.drop 12) (.gho (.drop 8) (.seq (jQ QmT (jX 54 4)) (.seq (.block 5 (jQ QmU (.seq (jQ QmV (.block 6 (.loop Tl))) (jQ Qm0 (.block 8 (.loop Tm)))))) (.reg Qm5))))
abbrev Qm6:IL:=[ja 141 3,ja 2 141]
abbrev r32:RC:=jQ QAW (jQ QAX (.seq (jQ QAY (.block 0 (.loop Tk))) (.seq (jQ QmS (.block 4 (.loop Tn))) (jQ Qm6 (.ret)))))
abbrev o32:List RR:=[.tmp 2]
theorem k32:CT 32 142 r32 o32:=ck Tryz.func32 Tryz.ntmps32 (by decide +kernel)
abbrev QA6:IL:=[jq 2]
abbrev QA7:IL:=[ja 3 0,jl 4 111 3,ja 5 4,jk 6 0 5,za 7 110 6 5,zt 8 7 5,jm 9 5 8,ja 2 9]
abbrev r62:RC:=jQ QA6 (jQ QA7 (.ret))
abbrev o62:List RR:=[.tmp 2]
theorem k62:CT 62 10 r62 o62:=ck Tryz.func62 Tryz.ntmps62 (by decide +kernel)
abbrev QA8:IL:=[jh 1 1 0,jq 2]
abbrev QA9:IL:=[yi 3]
abbrev QBa:IL:=[jc 4 0]
abbrev QBb:IL:=[ja 13 4,jb 14 0 1,je 15 14,jp 16 1 15,jv 17 13 16]
abbrev QBc:IL:=[jc 5 0]
abbrev QBd:IL:=[ja 20 5,jb 21 1 1,je 22 21,jp 23 1 22,jv 24 20 23]
abbrev QBe:IL:=[ja 27 3,ja 28 27,jo 29 0 1 28,zk 30 0 1 29 28,jk 31 4 28,ye 32 3 30 31 28,jo 33 0 32 28,yt 34 33 28,jo 35 1 1 28,zk 36 0 1 35 28,jk 37 5 28,ye 38 5 36 37 28,jo 39 0 38 28,yt 40 39 28,⟨some 41,.val (.bin .str .neq (.t 34) (.t 40)),(some (28,true))⟩,jm 42 28 41,ja 3 42]
abbrev QBf:IL:=[ja 25 5,jw 26 25 1,ja 5 26]
abbrev To:RC:=.seq (jQ QBd (jX 24 2)) (.seq (.block 3 (.draw QBe)) (.reg QBf))
abbrev QBg:IL:=[jb 43 0 1,je 44 43,ja 45 4,jr 46 3 44 45,jb 47 1 46,je 48 47,ja 6 48]
abbrev Qm7:IL:=[jc 7 0]
abbrev Qm8:IL:=[ja 49 7,ja 50 6,jp 51 1 50,jv 52 49 51]
abbrev Qm9:IL:=[jc 8 0]
abbrev Qna:IL:=[ja 55 8,ja 56 7,jv 57 55 56]
abbrev Qnb:IL:=[ja 60 3,ja 61 60,jk 62 6 61,jk 63 8 61,ye 64 8 62 63 61,jo 65 1 64 61,yt 66 65 61,jk 67 6 61,jk 68 7 61,ye 69 8 67 68 61,jo 70 1 69 61,yt 71 70 61,⟨some 72,.val (.bin .str .neq (.t 66) (.t 71)),(some (61,true))⟩,jm 73 61 72,ja 3 73]
abbrev Qnc:IL:=[ja 58 8,jw 59 58 1,ja 8 59]
abbrev Tp:RC:=.seq (jQ Qna (jX 57 6)) (.seq (.block 7 (.draw Qnb)) (.reg Qnc))
abbrev Qnd:IL:=[ja 53 7,jw 54 53 1,ja 7 54]
abbrev Tq:RC:=.seq (jQ Qm8 (jX 52 4)) (.seq (.block 5 (jQ Qm9 (.block 6 (.loop Tp)))) (.reg Qnd))
abbrev QBh:IL:=[ja 18 4,jw 19 18 1,ja 4 19]
abbrev Tr:RC:=.seq (jQ QBb (jX 17 0)) (.seq (.block 1 (.seq (jQ QBc (.block 2 (.loop To))) (jQ QBg (jQ Qm7 (.block 4 (.loop Tq)))))) (.reg QBh))
abbrev Qne:IL:=[jc 9 0]
abbrev Qnf:IL:=[ja 74 9,jb 75 1 1,je 76 75,jp 77 1 76,jv 78 74 77]
abbrev Qng:IL:=[jb 81 1 1,je 82 81,ja 83 9,jr 84 5 82 83,jb 85 2 84,je 86 85,ja 10 86]
abbrev Qnh:IL:=[jc 11 0]
abbrev Qni:IL:=[ja 87 11,ja 88 10,jp 89 1 88,jv 90 87 89]
abbrev Qnj:IL:=[jc 12 0]
abbrev Qnk:IL:=[ja 93 12,ja 94 11,jv 95 93 94]
abbrev Qnl:IL:=[ja 98 3,ja 99 98,jk 100 10 99,jk 101 12 99,ye 102 3 100 101 99,jo 103 0 102 99,yt 104 103 99,jk 105 10 99,jk 106 11 99,ye 107 3 105 106 99,jo 108 0 107 99,yt 109 108 99,⟨some 110,.val (.bin .str .neq (.t 104) (.t 109)),(some (99,true))⟩,jm 111 99 110,ja 3 111]
abbrev Qnm:IL:=[ja 96 12,jw 97 96 1,ja 12 97]
abbrev Ts:RC:=.seq (jQ Qnk (jX 95 12)) (.seq (.block 13 (.draw Qnl)) (.reg Qnm))
abbrev Qnn:IL:=[ja 91 11,jw 92 91 1,ja 11 92]
abbrev Tt:RC:=.seq (jQ Qni (jX 90 10)) (.seq (.block 11 (jQ Qnj (.block 12 (.loop Ts)))) (.reg Qnn))
abbrev Qno:IL:=[ja 79 9,jw 80 79 1,ja 9 80]
abbrev Tu:RC:=.seq (jQ Qnf (jX 78 8)) (.seq (.block 9 (jQ Qng (jQ Qnh (.block 10 (.loop Tt))))) (.reg Qno))
abbrev Qnp:IL:=[ja 112 3,ja 2 112]
abbrev r31:RC:=jQ QA8 (jQ QA9 (.seq (jQ QBa (.block 0 (.loop Tr))) (.seq (jQ Qne (.block 8 (.loop Tu))) (jQ Qnp (.ret)))))
abbrev o31:List RR:=[.tmp 2]
theorem k31:CT 31 113 r31 o31:=ck Tryz.func31 Tryz.ntmps31 (by decide +kernel)
abbrev Qnq:IL:=[jh 2 2 0,jh 3 3 1,jq 4]
abbrev Qnr:IL:=[jb 5 5 3,je 6 5]
abbrev Qns:IL:=[jn 8 6 10,ja 7 8]
abbrev Qnt:IL:=[jb 9 6 3,je 10 9,zg 11 10 0,ja 12 11,jo 13 6 3 12,jx 14 13 12,jo 15 0 2 12,jx 16 15 12,yq 17 1 16 12,DS 18 14 17 12,jm 19 12 18,ja 20 19,jo 21 3 3 20,jx 22 21 20,M2 23 22 3 20,jm 24 20 23,ja 4 24]
abbrev Qnu:IL:=[jn 26 6 9,ja 25 26]
abbrev Qnv:IL:=[jb 27 6 3,je 28 27,zg 29 28 0,ja 30 29,jo 31 6 3 30,jx 32 31 30,jo 33 1 2 30,jx 34 33 30,yq 35 1 34 30,DS 36 32 35 30,jm 37 30 36,ja 4 37]
abbrev Qnw:IL:=[jb 38 6 3,je 39 38,jn 40 39 (-1),ja 4 40]
abbrev QIB:RC:=jQ Qnq (.seq (jQ Qnr (.block 0 (jQ Qns (.cond (.t 7) (jQ Qnt (.ret)) (jQ Qnu (.cond (.t 25) (jQ Qnv (.ret)) (.skip))))))) (jQ Qnw (.ret)))
abbrev QIC:List RR:=[.tmp 4]
theorem QID:CT 116 41 QIB QIC:=ck Tryz.func116 Tryz.ntmps116 (by decide +kernel)
abbrev Qnx:IL:=[jc 2 0]
abbrev Qny:IL:=[ja 5 0,⟨some 6,.rngs 6 (.t 5),none⟩]
abbrev Qnz:IL:=[⟨some 7,.nxts (.t 6),none⟩,jg 8 7 0]
abbrev QnA:IL:=[jg 9 7 1,jg 10 7 2,ja 3 9,ja 4 10]
abbrev QnB:IL:=[ja 11 0,ja 12 3,ja 13 4,yp 14 219 11 12 13]
abbrev QnC:IL:=[ja 15 3,ja 2 15]
abbrev QnD:RC:=jQ Qnz (.seq (jX 8 0) (.block 1 (jQ QnA (jQ QnB (.cond (.t 14) (jQ QnC (.ret)) (.skip))))))
abbrev QnE:IL:=[jc 2 (-1)]
abbrev QIE:RC:=jQ Qnx (.seq (jQ Qny (.block 0 (.loop QnD))) (jQ QnE (.ret)))
abbrev QIF:List RR:=[.tmp 2]
theorem QIG:CT 206 16 QIE QIF:=ck Tryz.func206 Tryz.ntmps206 (by decide +kernel)
abbrev QBi:IL:=[jh 2 2 0,zd 4 4,jq 5]
abbrev QBj:IL:=[jc 6 0]
abbrev QBk:IL:=[ja 7 6,jb 8 1 2,je 9 8,jp 10 1 9,jv 11 7 10]
abbrev QBl:IL:=[jb 14 1 2,je 15 14,ja 16 6,jr 17 8 15 16,jb 18 0 17,je 19 18,ja 20 1,zh 21 19 20]
abbrev QBm:IL:=[jb 22 1 2,je 23 22,ja 24 6,jr 25 8 23 24,jd 26 8 25,jf 8 4 26,yi 5]
abbrev QBn:IL:=[ja 12 6,jw 13 12 1,ja 6 13]
abbrev QBo:RC:=.seq (jQ QBk (jX 11 0)) (.seq (.block 1 (jQ QBl (.cond (.t 21) (jQ QBm (.ret)) (.skip)))) (.reg QBn))
abbrev QBp:IL:=[⟨some 27,.val (.build [.int .i64 0,.str [],.str [],.int .i64 0,.int .i64 0,.int .i64 0,.int .i64 0,.int .i64 0] []),none⟩,jf 8 4 27,jq 5]
abbrev r75:RC:=jQ QBi (.seq (jQ QBj (.block 0 (.loop QBo))) (jQ QBp (.ret)))
abbrev o75:List RR:=[.cell 4 (some 8),.tmp 5]
theorem k75:CT 75 28 r75 o75:=ck Tryz.func75 Tryz.ntmps75 (by decide +kernel)
abbrev QnF:IL:=[jh 3 3 0,jq 6]
abbrev QnG:IL:=[ja 9 1,ym 10 9 0,ja 11 10,yc 12 1 11,jz 13 1 3 11,yb 14 13 11,zm 15 1 14 11,⟨some 16,.val (.bin .num .geq (.t 12) (.t 15)),(some (11,false))⟩,ya 17 11 16,ja 18 17,yc 19 2 18,⟨some 20,.val (.bin .num .gtr (.t 19) (.c (.int .u64 2147483647))),(some (18,false))⟩,ya 21 18 20]
abbrev QnH:IL:=[jq 6]
abbrev QnI:IL:=[jb 22 1 3,je 23 22,ja 24 1,jr 25 5 23 24,jb 26 1 25,je 27 26,ja 7 27]
abbrev QnJ:IL:=[jc 8 0]
abbrev QnK:IL:=[ja 28 8,jb 29 1 3,je 30 29,ja 31 1,jr 32 5 30 31,jb 33 2 32,je 34 33,jp 35 1 34,jv 36 28 35]
abbrev QnL:IL:=[ja 39 7,ja 40 39,jz 41 1 3 40,yb 42 41 40,yc 43 1 40,zo 44 5 42 43 40,jz 45 2 44 40,yb 46 45 40,yc 47 8 40,zo 48 3 46 47 40,jz 49 1 48 40,yb 50 49 40,yc 51 2 40,⟨some 52,.val (.cvi .i64 (.t 51)),(some (40,false))⟩,⟨some 53,.val (.bin .num .eql (.t 50) (.t 52)),(some (40,false))⟩,ya 54 40 53,ja 7 54]
abbrev QnM:IL:=[ja 37 8,jw 38 37 1,ja 8 38]
abbrev QnN:RC:=.seq (jQ QnK (jX 36 0)) (.seq (.block 1 (.reg QnL)) (.reg QnM))
abbrev QnO:IL:=[ja 55 7,ja 6 55]
abbrev QIH:RC:=jQ QnF (.seq (jQ QnG (.cond (.t 21) (jQ QnH (.ret)) (.skip))) (jQ QnI (.seq (jQ QnJ (.block 0 (.loop QnN))) (jQ QnO (.ret)))))
abbrev QII:List RR:=[.tmp 6]
theorem QIJ:CT 180 56 QIH QII:=ck Tryz.func180 Tryz.ntmps180 (by decide +kernel)
abbrev QBq:IL:=[jc 4 0]
abbrev QBr:IL:=[jc 5 0]
abbrev QBs:IL:=[ja 7 5,ja 8 0,jp 9 1 8,jv 10 7 9,ja 11 10,jk 12 5 11,jk 13 1 11,yq 14 1 13 11,DS 15 12 14 11,jm 16 11 15]
abbrev QBt:IL:=[ja 19 0,ja 20 5,jr 21 7 19 20,yn 22 7 21,ja 23 1,ja 24 5,jr 25 7 23 24,yn 26 7 25,ju 27 41 22 26,ja 6 27]
abbrev QBu:IL:=[ja 28 6,js 29 28 0]
abbrev QBv:IL:=[ja 30 6,ja 4 30]
abbrev QBw:IL:=[ja 17 5,jw 18 17 1,ja 5 18]
abbrev QBx:RC:=.seq (jQ QBs (jX 16 0)) (.seq (.block 1 (jD QBt (jQ QBu (.cond (.t 29) (jQ QBv (.ret)) (.skip))))) (.reg QBw))
abbrev QBy:IL:=[ja 31 0,jp 32 1 31,ja 33 1,jp 34 1 33,ju 35 67 32 34,ja 4 35]
abbrev N5:RC:=jQ QBq (.seq (jQ QBr (.block 0 (.loop QBx))) (jQ QBy (.ret)))
abbrev o68:List RR:=[.tmp 4]
theorem k68:CT 68 36 N5 o68:=ck Tryz.func68 Tryz.ntmps68 (by decide +kernel)
abbrev QBz:IL:=[jc 4 0]
abbrev QBA:IL:=[jc 5 0]
abbrev QBB:IL:=[ja 8 5,ja 9 0,jp 10 1 9,jv 11 8 10,ja 12 11,jk 13 5 12,jk 14 1 12,yq 15 1 14 12,DS 16 13 15 12,jm 17 12 16]
abbrev QBC:IL:=[ja 20 0,ja 21 5,jr 22 14 20 21,jb 23 0 22,yn 24 7 23,ja 25 1,ja 26 5,jr 27 14 25 26,jb 28 0 27,yn 29 7 28,ju 30 41 24 29,ja 6 30]
abbrev QBD:IL:=[ja 31 6,js 32 31 0]
abbrev QBE:IL:=[ja 33 6,ja 4 33]
abbrev QBF:IL:=[ja 34 0,ja 35 5,jr 36 14 34 35,jb 37 7 36,yn 38 7 37,ja 39 1,ja 40 5,jr 41 14 39 40,jb 42 7 41,yn 43 7 42,ju 44 41 38 43,ja 7 44]
abbrev QBG:IL:=[ja 45 7,js 46 45 0]
abbrev QBH:IL:=[ja 47 7,ja 4 47]
abbrev QBI:IL:=[ja 18 5,jw 19 18 1,ja 5 19]
abbrev QBJ:RC:=.seq (jQ QBB (jX 17 0)) (.seq (.block 1 (.seq (jD QBC (jQ QBD (.cond (.t 32) (jQ QBE (.ret)) (.skip)))) (jD QBF (jQ QBG (.cond (.t 46) (jQ QBH (.ret)) (.skip)))))) (.reg QBI))
abbrev QnP:IL:=[ja 48 0,jp 49 1 48,ja 50 1,jp 51 1 50,ju 52 67 49 51,ja 4 52]
abbrev r69:RC:=jQ QBz (.seq (jQ QBA (.block 0 (.loop QBJ))) (jQ QnP (.ret)))
abbrev o69:List RR:=[.tmp 4]
theorem k69:CT 69 53 r69 o69:=ck Tryz.func69 Tryz.ntmps69 (by decide +kernel)
abbrev QBK:IL:=[jh 2 2 0,jh 3 3 1,jc 4 0]
abbrev QBL:IL:=[jb 6 0 2,je 7 6,jb 8 0 3,je 9 8,jv 10 7 9,ja 5 10]
abbrev QBM:IL:=[jc 4 (-1)]
abbrev QBN:IL:=[jb 12 0 2,je 13 12,jb 14 0 3,je 15 14,yr 16 13 15,ja 11 16]
abbrev QBO:IL:=[jc 4 1]
abbrev QBP:IL:=[jb 18 0 2,je 19 18,jl 20 118 19,yd 21 20,ja 17 21]
abbrev QBQ:IL:=[jc 4 0]
abbrev QBR:IL:=[jb 23 0 2,je 24 23,jl 25 119 24,ja 26 25,jo 27 2 2 26,jx 28 27 26,jo 29 2 3 26,jx 30 29 26,⟨some 31,.val (.bin .str .lss (.t 28) (.t 30)),(some (26,true))⟩,jm 32 26 31,ja 22 32]
abbrev QBS:IL:=[jc 4 (-1)]
abbrev QBT:IL:=[jb 34 0 2,je 35 34,jl 36 119 35,ja 37 36,jo 38 2 2 37,jx 39 38 37,jo 40 2 3 37,jx 41 40 37,⟨some 42,.val (.bin .str .gtr (.t 39) (.t 41)),(some (37,true))⟩,jm 43 37 42,ja 33 43]
abbrev QnQ:IL:=[jc 4 1]
abbrev QnR:IL:=[jb 45 0 2,je 46 45,jl 47 119 46,ja 44 47]
abbrev QnS:IL:=[jc 4 0]
abbrev QnT:IL:=[ji 49 0 2 7 2,jl 50 120 49,ji 51 0 3 7 3,jl 52 120 51,jv 53 50 52,ja 48 53]
abbrev QnU:IL:=[jc 4 (-1)]
abbrev QnV:IL:=[ji 55 0 2 7 2,jl 56 120 55,ji 57 0 3 7 3,jl 58 120 57,yr 59 56 58,ja 54 59]
abbrev QnW:IL:=[jc 4 1]
abbrev QnX:IL:=[jc 4 0]
abbrev r72:RC:=jQ QBK (.seq (.block 0 (jQ QBL (.cond (.t 5) (jQ QBM (.ret)) (jQ QBN (.cond (.t 11) (jQ QBO (.ret)) (jQ QBP (.cond (.t 17) (jQ QBQ (.ret)) (jQ QBR (.cond (.t 22) (jQ QBS (.ret)) (jQ QBT (.cond (.t 33) (jQ QnQ (.ret)) (jQ QnR (.cond (.t 44) (jQ QnS (.ret)) (jD QnT (.cond (.t 48) (jQ QnU (.ret)) (jD QnV (.cond (.t 54) (jQ QnW (.ret)) (.skip)))))))))))))))))) (jQ QnX (.ret)))
abbrev o72:List RR:=[.tmp 4]
theorem k72:CT 72 60 r72 o72:=ck Tryz.func72 Tryz.ntmps72 (by decide +kernel)
abbrev QnY:IL:=[jc 2 0]
abbrev QnZ:IL:=[ja 4 0,FZ 5 4 9223372036854775808,ja 3 5]
abbrev Qn0:IL:=[ja 7 3,⟨some 8,.val (.bin .num .gtr (.t 7) (.c (.int .u64 9218868437227405312))),none⟩,ja 6 8]
abbrev Qn1:IL:=[jc 2 0]
abbrev Qn2:IL:=[ja 10 3,zn 11 10 9218868437227405312,ja 9 11]
abbrev Qn3:IL:=[jc 2 1]
abbrev Qn4:IL:=[ja 13 3,zn 14 13 0,ja 12 14]
abbrev Qn5:IL:=[jc 2 2]
abbrev Qn6:IL:=[ja 16 3,NO 17 16 4503599627370496,ja 15 17]
abbrev Qn7:IL:=[jc 2 3]
abbrev IZ:IL:=[jc 2 4]
abbrev QIK:RC:=jQ QnY (jQ QnZ (.seq (.block 0 (jQ Qn0 (.cond (.t 6) (jQ Qn1 (.ret)) (jQ Qn2 (.cond (.t 9) (jQ Qn3 (.ret)) (jQ Qn4 (.cond (.t 12) (jQ Qn5 (.ret)) (jQ Qn6 (.cond (.t 15) (jQ Qn7 (.ret)) (.skip)))))))))) (jQ IZ (.ret))))
abbrev QIL:List RR:=[.tmp 2]
theorem QIM:CT 137 18 QIK QIL:=ck Tryz.func137 Tryz.ntmps137 (by decide +kernel)
abbrev Qn8:IL:=[jh 1 1 0,yl 2 0]
abbrev Qn9:IL:=[jb 4 0 1,je 5 4,jl 6 171 5,ja 3 6]
abbrev Qoa:IL:=[jb 7 1 1,je 8 7,⟨some 9,.val (.bin .num .add (.t 8) (.c (.int .u64 9223372036854775808))),none⟩,ja 2 9]
abbrev Qob:IL:=[jb 11 0 1,je 12 11,js 13 12 6,ja 10 13]
abbrev Qoc:IL:=[jb 14 1 1,je 15 14,ja 2 15]
abbrev Qod:IL:=[jb 17 1 1,je 18 17,jl 19 137 18,jn 20 19 0,ja 16 20]
abbrev Qoe:IL:=[yl 2 18446744073709551615]
abbrev Qof:IL:=[jb 22 1 1,je 23 22,⟨some 24,.val (.bin .num .geq (.t 23) (.c (.int .u64 9223372036854775808))),none⟩,ja 21 24]
abbrev Qog:IL:=[jb 25 1 1,je 26 25,⟨some 27,.val (.bin .num .sub (.c (.int .u64 18446744073709551615)) (.t 26)),none⟩,ja 2 27]
abbrev Qoh:IL:=[jb 28 1 1,je 29 28,⟨some 30,.val (.bin .num .add (.t 29) (.c (.int .u64 9223372036854775808))),none⟩,ja 2 30]
abbrev QIN:RC:=jQ Qn8 (.seq (.block 0 (jQ Qn9 (.cond (.t 3) (jQ Qoa (.ret)) (jQ Qob (.cond (.t 10) (jQ Qoc (.ret)) (jQ Qod (.cond (.t 16) (jQ Qoe (.ret)) (jQ Qof (.cond (.t 21) (jQ Qog (.ret)) (.skip)))))))))) (jQ Qoh (.ret)))
abbrev QIO:List RR:=[.tmp 2]
theorem Qoi:CT 120 31 QIN QIO:=ck Tryz.func120 Tryz.ntmps120 (by decide +kernel)
abbrev Qoj:IL:=[jq 2]
abbrev Qok:IL:=[ja 3 0,jn 4 3 2,ja 5 4,yc 6 0 5,yu 7 6 3 5,ya 8 5 7,ja 2 8]
abbrev QIP:RC:=jQ Qoj (jQ Qok (.ret))
abbrev QIQ:List RR:=[.tmp 2]
theorem QIR:CT 171 9 QIP QIQ:=ck Tryz.func171 Tryz.ntmps171 (by decide +kernel)
abbrev Qol:IL:=[jh 2 2 0,jh 3 3 1,jc 4 0]
abbrev Qom:IL:=[jb 11 0 2,je 12 11,jb 13 0 3,je 14 13,yx 15 12 14]
abbrev Qon:IL:=[jb 16 0 2,je 17 16,jb 18 0 3,je 19 18,ju 20 60 17 19,ja 4 20]
abbrev Qoo:IL:=[jd 21 7 3,jl 22 192 21,ja 5 22]
abbrev Qop:IL:=[jd 23 7 2,jl 24 192 23]
abbrev Qoq:IL:=[⟨some 25,.val (.tas 188 true (.agg [.int .i64 0,.int .u64 0,.str [],.nils,.nils,.nils,.nils]) (.t 24)),none⟩,jg 26 25 1,jg 27 25 0]
abbrev Qor:IL:=[jt 6 6,jf 7 6 27]
abbrev Qos:IL:=[jd 28 7 6,jd 29 7 3,ju 30 193 28 29,ja 4 30]
abbrev Qot:IL:=[⟨some 31,.val (.tas 189 true (.nils) (.t 24)),none⟩,jg 32 31 1,jg 33 31 0]
abbrev Qou:IL:=[ja 7 33]
abbrev I0:IL:=[ja 34 7,ja 35 5,⟨some 36,.val (.tas 189 false (.nils) (.t 35)),none⟩,⟨some 37,.callF (.f 194) [(.t 34),(.t 36),(.f 160)],none⟩,ja 4 37]
abbrev I1:IL:=[⟨some 38,.val (.tas 191 true (.nils) (.t 24)),none⟩,jg 39 38 1,jg 40 38 0]
abbrev I2:IL:=[ja 8 40]
abbrev I3:IL:=[ja 41 8,ja 42 5,⟨some 43,.val (.tas 191 false (.nils) (.t 42)),none⟩,⟨some 44,.callF (.f 195) [(.t 41),(.t 43),(.f 196)],none⟩,ja 4 44]
abbrev I4:IL:=[⟨some 45,.val (.tas 194 true (.agg [.nils,.nils]) (.t 24)),none⟩,jg 46 45 1,jg 47 45 0]
abbrev I5:IL:=[⟨some 9,.allocN 9 [.nils,.nils],none⟩,jf 2 9 47]
abbrev I6:IL:=[ja 48 5,⟨some 49,.val (.tas 194 false (.agg [.nils,.nils]) (.t 48)),none⟩,⟨some 10,.allocN 10 [.nils,.nils],none⟩,jf 2 10 49]
abbrev I7:IL:=[jc 4 0]
abbrev QIS:RC:=jQ Qol (.seq (jQ Qom (.cond (.t 15) (jQ Qon (.ret)) (.skip))) (jQ Qoo (.seq (jQ Qop (.block 0 (jQ Qoq (.cond (.t 26) (jQ Qor (jQ Qos (.ret))) (jQ Qot (.cond (.t 32) (jQ Qou (jQ I0 (.ret))) (jQ I1 (.cond (.t 39) (jQ I2 (jQ I3 (.ret))) (jQ I4 (.cond (.t 46) (jQ I5 (jQ I6 (.seq (.no) (.ret)))) (.skip))))))))))) (jQ I7 (.ret)))))
abbrev QIT:List RR:=[.tmp 4]
theorem QIU:CT 160 62 QIS QIT:=ck Tryz.func160 Tryz.ntmps160 (by decide +kernel)
abbrev Qov:IL:=[jh 1 1 0,⟨some 2,.val (.mov (.c (.nili))),none⟩]
abbrev Qow:IL:=[jb 4 0 1,je 5 4,jl 6 163 5,ja 3 6]
abbrev Qox:IL:=[jd 7 7 1,⟨some 8,.val (.mki 188 (.t 7)),none⟩,ja 2 8]
abbrev Qoy:IL:=[jb 10 0 1,je 11 10,jn 12 11 11,ja 9 12]
abbrev Qoz:IL:=[jb 13 3 1,je 14 13,⟨some 15,.val (.mki 189 (.t 14)),none⟩,ja 2 15]
abbrev QoA:IL:=[jb 17 0 1,je 18 17,jn 19 18 12,ja 16 19]
abbrev QoB:IL:=[jb 20 4 1,je 21 20,⟨some 22,.val (.mki 191 (.t 21)),none⟩,ja 2 22]
abbrev QoC:IL:=[jb 24 0 1,je 25 24,jn 26 25 10,ja 23 26]
abbrev QoD:IL:=[jb 27 5 1,je 28 27,jb 29 6 1,je 30 29,⟨some 31,.val (.build [.nils,.nils] [(0,1,(.t 28)),(1,1,(.t 30))]),none⟩,⟨some 32,.val (.mki 194 (.t 31)),none⟩,ja 2 32]
abbrev QoE:IL:=[⟨some 2,.val (.mov (.c (.nili))),none⟩]
abbrev QIV:RC:=jQ Qov (.seq (.block 0 (jQ Qow (.cond (.t 3) (jQ Qox (.ret)) (jQ Qoy (.cond (.t 9) (jQ Qoz (.ret)) (jQ QoA (.cond (.t 16) (jQ QoB (.ret)) (jQ QoC (.cond (.t 23) (jQ QoD (.ret)) (.skip)))))))))) (jQ QoE (.ret)))
abbrev QIW:List RR:=[.tmp 2]
theorem QIX:CT 192 33 QIV QIW:=ck Tryz.func192 Tryz.ntmps192 (by decide +kernel)
abbrev QIY:IL:=[jh 4 4 0,jh 6 6 2,jh 7 7 3,jq 8]
abbrev QIZ:IL:=[jd 15 2 4,jl 16 5 15,yd 17 16,ja 18 17,⟨some 19,.val (.iaddr 1 (some 2) (.t 6) (.c (.int .i64 0))),(some (18,false))⟩,yb 20 19 18,zm 21 0 20 18,zz 22 21 3000 18,ya 23 18 22,ja 24 23,⟨some 25,.val (.iaddr 1 (some 2) (.t 6) (.c (.int .i64 1))),(some (24,false))⟩,yb 26 25 24,zm 27 0 26 24,zz 28 27 3000 24,ya 29 24 28]
abbrev QI0:IL:=[yi 8]
abbrev QI1:IL:=[ji 31 0 4 2 4,ja 32 1,NJ 33,⟨some 34,.val (.iaddr 1 (some 2) (.t 6) (.c (.int .i64 0))),none⟩,yg 35 0 6 34,⟨some 36,.call (.f 11) [],none⟩,zl 37 10 31 32 33 35 36,ja 30 37,jg 38 30 0,jg 39 30 1,jt 9 9,jj 0 9 7 9 38,ja 10 39]
abbrev QI2:IL:=[jd 41 2 4,ja 42 1,jd 43 7 9,⟨some 44,.val (.iaddr 1 (some 2) (.t 6) (.c (.int .i64 1))),none⟩,je 45 44,jd 46 4 7,zl 47 12 41 42 43 45 46,ja 40 47,jg 48 40 0,jg 49 40 1,jt 11 11,jf 7 11 48,ja 12 49]
abbrev QI3:IL:=[jd 51 2 4,ja 52 1,jd 53 7 9,⟨some 54,.val (.iaddr 1 (some 2) (.t 6) (.c (.int .i64 1))),none⟩,je 55 54,jd 56 4 7,zl 57 10 51 52 53 55 56,ja 50 57,jg 58 50 0,jg 59 50 1,jt 13 13,jf 7 13 58,ja 14 59]
abbrev QI4:IL:=[ja 60 12,ja 61 14,zh 62 60 61,ja 63 62,yy 64 7 11 63,yy 65 7 13 63,DT 66 8 64 65 63,jm 67 63 66,ja 68 67,⟨some 69,.call (.f 9) [],(some (68,true))⟩,jm 70 68 69,ja 8 70]
abbrev r4:RC:=jQ QIY (.seq (jQ QIZ (.cond (.t 29) (jQ QI0 (.ret)) (.skip))) (jD QI1 (jQ QI2 (jQ QI3 (jQ QI4 (.ret))))))
abbrev o4:List RR:=[.tmp 8]
theorem k4:CT 4 71 r4 o4:=ck Tryz.func4 Tryz.ntmps4 (by decide +kernel)
def QoF:IL:=[jh 4 4 0,jh 7 7 3,jq 8]
def QoG:IL:=[jd 13 2 4,jl 14 5 13,yd 15 14,ja 16 15,yc 17 2 16,zm 18 0 17 16,zz 19 18 3000 16,ya 20 16 19]
def QoH:IL:=[yi 8]
def QoI:IL:=[jd 22 2 4,ja 23 1,ja 24 2,jd 25 4 7,zb 26 6 22 23 24 25,ja 21 26,jg 27 21 0,jg 28 21 1,jt 9 9,jf 7 9 27,ja 10 28]
def QoJ:IL:=[jd 30 2 4,ja 31 1,ja 32 2,jd 33 4 7,zb 34 7 30 31 32 33,ja 29 34,jg 35 29 0,jg 36 29 1,jt 11 11,jf 7 11 35,ja 12 36]
def QoK:IL:=[ja 37 10,ja 38 12,zh 39 37 38,ja 40 39,yy 41 7 9 40,yy 42 7 11 40,DT 43 8 41 42 40,jm 44 40 43,ja 45 44,⟨some 46,.call (.f 9) [],(some (45,true))⟩,jm 47 45 46,ja 8 47]
def r3:RC:=jQ QoF (.seq (jQ QoG (.cond (.t 20) (jQ QoH (.ret)) (.skip))) (jQ QoI (jQ QoJ (jQ QoK (.ret)))))
def o3:List RR:=[.tmp 8]
theorem k3:CT 3 48 r3 o3:=ck Tryz.func3 Tryz.ntmps3 (by decide +kernel)
abbrev QI5:IL:=[jh 1 1 0,jq 2]
abbrev QI6:IL:=[jb 3 0 1,je 4 3,jp 5 1 4,⟨some 6,.val (.bin .num .leq (.t 5) (.c (.int .i64 8))),none⟩,ja 7 6,jo 8 1 1 7,jx 9 8 7,yq 10 1 9 7,yz 11 10 8 7,jm 12 7 11,ja 13 12,yy 14 2 1 13,za 15 13 14 13,yo 16 15 0 13,jm 17 13 16,ja 2 17]
abbrev r5:RC:=jQ QI5 (jQ QI6 (.ret))
abbrev o5:List RR:=[.tmp 2]
theorem k5:CT 5 18 r5 o5:=ck Tryz.func5 Tryz.ntmps5 (by decide +kernel)
abbrev QoL:IL:=[yl 2 0,jc 3 0,jc 4 0]
abbrev QoM:IL:=[yl 5 0,yl 6 1]
abbrev QoN:IL:=[jc 7 0]
abbrev QoO:IL:=[ja 9 7,ym 10 9 10]
abbrev QoP:IL:=[ja 13 7,ja 14 0,jp 15 0 14,⟨some 16,.val (.bin .num .geq (.t 13) (.t 15)),none⟩]
abbrev QoQ:IL:=[yl 2 0,jc 3 0,jc 4 4]
abbrev QoR:IL:=[ja 17 0,ja 18 7,zw 19 17 18,zp 20 19,ja 8 20]
abbrev QoS:IL:=[ja 21 7,jn 22 21 9,ja 23 22,jk 24 8 23,⟨some 25,.val (.bin .num .gtr (.t 24) (.c (.int .u64 1))),(some (23,true))⟩,jm 26 23 25]
abbrev QoT:IL:=[yl 2 0,jc 3 0,jc 4 6]
abbrev I8:IL:=[ja 27 5,ja 28 8,FZ 29 28 128,ja 30 6,⟨some 31,.val (.bin .num .mul (.t 29) (.t 30)),none⟩,yk 32 27 31,ja 5 32]
abbrev I9:IL:=[ja 33 8,NO 34 33 128]
abbrev La:IL:=[ja 35 5,ja 36 7,jw 37 36 1,ja 2 35,ja 3 37,jc 4 0]
abbrev Lb:IL:=[ja 38 6,⟨some 39,.val (.bin .num .mul (.t 38) (.c (.int .u64 128))),none⟩,ja 6 39]
abbrev QoU:IL:=[ja 11 7,jw 12 11 1,ja 7 12]
abbrev QoV:RC:=.seq (jQ QoO (jX 10 0)) (.seq (.block 1 (.seq (jQ QoP (.cond (.t 16) (jQ QoQ (.ret)) (.skip))) (jQ QoR (.seq (jQ QoS (.cond (.t 26) (jQ QoT (.ret)) (.skip))) (jQ I8 (.seq (jQ I9 (.cond (.t 34) (jQ La (.ret)) (.skip))) (.reg Lb))))))) (.reg QoU))
abbrev Lc:IL:=[yl 2 0,jc 3 0,jc 4 6]
abbrev QI7:RC:=jQ QoL (jQ QoM (.seq (jQ QoN (.block 0 (.loop QoV))) (jQ Lc (.ret))))
abbrev QI8:List RR:=[.tmp 2,.tmp 3,.tmp 4]
theorem QI9:CT 172 40 QI7 QI8:=ck Tryz.func172 Tryz.ntmps172 (by decide +kernel)
abbrev QoW:IL:=[jc 2 0]
abbrev QoX:IL:=[ja 3 0,FZ 4 3 2,zn 5 4 0]
abbrev QoY:IL:=[ja 6 0,NN 7 6 2,yv 8 7,ja 2 8]
abbrev QoZ:IL:=[ja 9 0,NN 10 9 2,yv 11 10,⟨some 12,.val (.un .neg (.t 11)),none⟩,WS 13 12 1,ja 2 13]
abbrev QJa:RC:=jQ QoW (.seq (jQ QoX (.cond (.t 5) (jQ QoY (.ret)) (.skip))) (jQ QoZ (.ret)))
abbrev QJb:List RR:=[.tmp 2]
theorem QJc:CT 179 14 QJa QJb:=ck Tryz.func179 Tryz.ntmps179 (by decide +kernel)
abbrev Qo0:IL:=[jh 1 1 0,⟨some 2,.val (.mov (.c (.int .u8 0))),none⟩,jy 3 3,jc 4 0]
abbrev Qo1:IL:=[jd 6 6 1,jl 7 73 6,ja 5 7]
abbrev Qo2:IL:=[ja 8 5,⟨some 9,.val (.bin .str .eql (.t 8) (.c (.str []))),none⟩]
abbrev Qo3:IL:=[ji 10 0 1 6 1,⟨some 2,.val (.mov (.c (.int .u8 0))),none⟩,jj 0 3 6 3 10,jc 4 4]
abbrev Qo4:IL:=[ja 11 5,⟨some 12,.val (.idx (.t 11) (.c (.int .i64 0))),none⟩,ji 13 0 1 6 1,zj 14 173 13 1,ja 2 12,jj 0 3 6 3 14,jc 4 0]
abbrev QJd:RC:=jQ Qo0 (jQ Qo1 (.seq (jQ Qo2 (.cond (.t 9) (jD Qo3 (.ret)) (.skip))) (jD Qo4 (.ret))))
abbrev QJe:List RR:=[.tmp 2,.cell 3 (some 6),.tmp 4]
theorem QJf:CT 130 15 QJd QJe:=ck Tryz.func130 Tryz.ntmps130 (by decide +kernel)
abbrev Qo5:IL:=[jh 2 2 0,jy 4 4,jc 5 0]
abbrev Qo6:IL:=[ja 6 1,ym 7 6 0]
abbrev Qo7:IL:=[jd 8 6 2,jf 6 4 8,jc 5 1]
abbrev Qo8:IL:=[ja 9 1,jd 10 6 2,jl 11 42 10,yr 12 9 11]
abbrev Qo9:IL:=[jd 13 6 2,jf 6 4 13,jc 5 4]
abbrev Qpa:IL:=[jb 14 3 2,je 15 14,ym 16 15 1]
abbrev Qpb:IL:=[jd 17 6 2,jf 6 4 17,jc 5 17]
abbrev Qpc:IL:=[jb 18 1 2,je 19 18,ja 20 1,yk 21 19 20,jb 22 2 2,jf 1 22 21]
abbrev Qpd:IL:=[jb 23 3 2,je 24 23,WS 25 24 1,jb 26 3 2,jf 1 26 25]
abbrev Qpe:IL:=[jd 27 6 2,jf 6 4 27,jc 5 0]
abbrev QJg:RC:=jQ Qo5 (.seq (jQ Qo6 (.cond (.t 7) (jQ Qo7 (.ret)) (.skip))) (.seq (jQ Qo8 (.cond (.t 12) (jQ Qo9 (.ret)) (.skip))) (.seq (jQ Qpa (.cond (.t 16) (jQ Qpb (.ret)) (.skip))) (jQ Qpc (jQ Qpd (jQ Qpe (.ret)))))))
abbrev QJh:List RR:=[.cell 4 (some 6),.tmp 5]
theorem QJi:CT 176 28 QJg QJh:=ck Tryz.func176 Tryz.ntmps176 (by decide +kernel)
abbrev Qpf:IL:=[jh 1 1 0,yl 2 0,jy 3 3,jc 4 0]
abbrev Qpg:IL:=[jd 8 6 1,jl 9 73 8,ja 5 9]
abbrev Qph:IL:=[ja 10 5,jp 11 0 10,ym 12 11 8]
abbrev Qpi:IL:=[ji 13 0 1 6 1,yl 2 0,jj 0 3 6 3 13,jc 4 4]
abbrev Qpj:IL:=[yl 6 0]
abbrev Qpk:IL:=[jc 7 7]
abbrev Qpl:IL:=[ja 14 7,zg 15 14 0]
abbrev Qpm:IL:=[ja 18 6,⟨some 19,.val (.bin .num .mul (.t 18) (.c (.int .u64 256))),none⟩,ja 20 5,ja 21 7,zw 22 20 21,zp 23 22,yk 24 19 23,ja 6 24]
abbrev Qpn:IL:=[ja 16 7,WS 17 16 1,ja 7 17]
abbrev Qpo:RC:=.seq (jQ Qpl (jX 15 0)) (.seq (.block 1 (.reg Qpm)) (.reg Qpn))
abbrev Qpp:IL:=[ja 25 6,jd 26 6 1,zj 27 173 26 8,ja 2 25,jf 6 3 27,jc 4 0]
abbrev QJj:RC:=jQ Qpf (jQ Qpg (.seq (jQ Qph (.cond (.t 12) (jD Qpi (.ret)) (.skip))) (jQ Qpj (.seq (jQ Qpk (.block 0 (.loop Qpo))) (jQ Qpp (.ret))))))
abbrev QJk:List RR:=[.tmp 2,.cell 3 (some 6),.tmp 4]
theorem QJl:CT 174 28 QJj QJk:=ck Tryz.func174 Tryz.ntmps174 (by decide +kernel)
abbrev Qpq:IL:=[jh 2 2 0,jh 3 3 1,jy 4 4]
abbrev Qpr:IL:=[jd 5 6 2,jl 6 121 5,yd 7 6,ja 8 7,jz 9 2 3 8,yb 10 9 8,jz 11 1 2 8,yb 12 11 8,⟨some 13,.val (.bin .num .lss (.t 10) (.t 12)),(some (8,false))⟩,ya 14 8 13,ja 15 14,jz 16 2 3 15,yb 17 16 15,jz 18 2 2 15,yb 19 18 15,M3 20 17 19 15,ya 21 15 20,ja 22 21,jz 23 4 3 22,yb 24 23 22,Hn 25 24 0 22,ya 26 22 25,ja 27 26,jz 28 4 3 27,yb 29 28 27,jz 30 4 2 27,yb 31 30 27,M3 32 29 31 27,ya 33 27 32]
abbrev Qps:IL:=[jd 34 6 2,jf 6 4 34]
abbrev Qpt:IL:=[jb 35 2 3,je 36 35,jb 37 1 2,jf 1 37 36]
abbrev Qpu:IL:=[jb 38 4 3,je 39 38,jb 40 4 2,jf 1 40 39]
abbrev Qpv:IL:=[jd 41 6 2,jf 6 4 41]
abbrev QJm:RC:=jQ Qpq (.seq (jQ Qpr (.cond (.t 33) (jQ Qps (.ret)) (.skip))) (jQ Qpt (jQ Qpu (jQ Qpv (.ret)))))
abbrev QJn:List RR:=[.cell 4 (some 6)]
theorem QJo:CT 177 42 QJm QJn:=ck Tryz.func177 Tryz.ntmps177 (by decide +kernel)
abbrev QBU:IL:=[jh 1 1 0,jc 2 0]
abbrev QBV:IL:=[jd 3 6 1,jl 4 73 3,jp 5 0 4,ja 2 5]
abbrev r42:RC:=jQ QBU (jQ QBV (.ret))
abbrev o42:List RR:=[.tmp 2]
theorem k42:CT 42 6 r42 o42:=ck Tryz.func42 Tryz.ntmps42 (by decide +kernel)
abbrev QBW:IL:=[jh 3 3 1,jy 4 4,jc 5 0]
abbrev QBX:IL:=[jb 6 0 3,je 7 6,ym 8 7 0,ja 9 8,jz 10 1 3 9,yb 11 10 9,Hn 12 11 0 9,ya 13 9 12,ja 14 13,jz 15 2 3 14,yb 16 15 14,Hn 17 16 0 14,ya 18 14 17,ja 19 18,jz 20 3 3 19,yb 21 20 19,Hn 22 21 0 19,ya 23 19 22]
abbrev QBY:IL:=[⟨some 24,.val (.build [.str [],.int .i64 0,.int .i64 0,.int .i64 0,.int .i64 0,.int .i64 0] []),none⟩,jf 6 4 24,jc 5 1]
abbrev QBZ:IL:=[ja 25 0,jp 26 0 25,jb 27 0 3,je 28 27,yr 29 26 28]
abbrev QB0:IL:=[⟨some 30,.val (.build [.str [],.int .i64 0,.int .i64 0,.int .i64 0,.int .i64 0,.int .i64 0] []),none⟩,jf 6 4 30,jc 5 3]
abbrev QB1:IL:=[ja 31 0,ja 32 0,jp 33 0 32,jb 34 1 3,je 35 34,jb 36 2 3,je 37 36,jb 38 3 3,je 39 38,⟨some 40,.val (.build [.str [],.int .i64 0,.int .i64 0,.int .i64 0,.int .i64 0,.int .i64 0] [(0,1,(.t 31)),(2,1,(.t 33)),(3,1,(.t 35)),(4,1,(.t 37)),(5,1,(.t 39))]),none⟩,jf 6 4 40,jc 5 0]
abbrev r20:RC:=jQ QBW (.seq (jQ QBX (.cond (.t 23) (jQ QBY (.ret)) (.skip))) (.seq (jQ QBZ (.cond (.t 29) (jQ QB0 (.ret)) (.skip))) (jQ QB1 (.ret))))
abbrev o20:List RR:=[.cell 4 (some 6),.tmp 5]
theorem k20:CT 20 41 r20 o20:=ck Tryz.func20 Tryz.ntmps20 (by decide +kernel)
abbrev Qpx:IL:=[jh 1 1 0,jq 2]
abbrev Qpy:IL:=[jb 3 1 1,je 4 3,⟨some 5,.val (.bin .num .leq (.c (.int .i64 0)) (.t 4)),none⟩,ja 6 5,jo 7 1 1 6,jx 8 7 6,jo 9 2 1 6,jx 10 9 6,F2 11 8 10 6,jm 12 6 11,ja 13 12,jo 14 2 1 13,jx 15 14 13,jo 16 0 1 13,jx 17 16 13,yq 18 0 17 13,F2 19 15 18 13,jm 20 13 19,ja 2 20]
abbrev QJp:RC:=jQ Qpx (jQ Qpy (.ret))
abbrev QJq:List RR:=[.tmp 2]
theorem QJr:CT 121 21 QJp QJq:=ck Tryz.func121 Tryz.ntmps121 (by decide +kernel)
abbrev QB2:IL:=[jh 2 2 0,jy 4 4,jc 5 0]
abbrev QB3:IL:=[ja 6 1,ym 7 6 0]
abbrev QB4:IL:=[jd 8 6 2,jf 6 4 8,jc 5 1]
abbrev QB5:IL:=[ja 9 1,jb 10 4 2,je 11 10,yr 12 9 11]
abbrev QB6:IL:=[jd 13 6 2,jf 6 4 13,jc 5 3]
abbrev QB7:IL:=[jb 14 4 2,je 15 14,ja 16 1,⟨some 17,.val (.bin .num .sub (.t 15) (.t 16)),none⟩,jb 18 4 2,jf 1 18 17]
abbrev QB8:IL:=[jd 19 6 2,jf 6 4 19,jc 5 0]
abbrev r21:RC:=jQ QB2 (.seq (jQ QB3 (.cond (.t 7) (jQ QB4 (.ret)) (.skip))) (.seq (jQ QB5 (.cond (.t 12) (jQ QB6 (.ret)) (.skip))) (jQ QB7 (jQ QB8 (.ret)))))
abbrev o21:List RR:=[.cell 4 (some 6),.tmp 5]
theorem k21:CT 21 20 r21 o21:=ck Tryz.func21 Tryz.ntmps21 (by decide +kernel)
abbrev Qpz:IL:=[jh 2 2 0,ys 4,jy 5 5,jc 6 0]
abbrev QpA:IL:=[jd 8 6 2,jl 9 73 8,ja 7 9]
abbrev QpB:IL:=[ja 10 1,ym 11 10 0]
abbrev QpC:IL:=[ji 12 0 2 6 2,ys 4,jj 0 5 6 5 12,jc 6 1]
abbrev QpD:IL:=[ja 13 1,ja 14 7,jp 15 0 14,yr 16 13 15]
abbrev QpE:IL:=[ji 17 0 2 6 2,ys 4,jj 0 5 6 5 17,jc 6 4]
abbrev QpF:IL:=[ja 18 1,jb 19 5 2,je 20 19,yr 21 18 20]
abbrev QpG:IL:=[ji 22 0 2 6 2,ys 4,jj 0 5 6 5 22,jc 6 3]
abbrev QpH:IL:=[ja 23 7,ja 24 1,⟨some 25,.val (.slc none (.t 23) none (some (.t 24)) none),none⟩,ji 26 0 2 6 2,ja 27 1,ju 28 173 26 27,ja 4 25,jj 0 5 6 5 28,jc 6 0]
abbrev QJs:RC:=jQ Qpz (jQ QpA (.seq (jQ QpB (.cond (.t 11) (jD QpC (.ret)) (.skip))) (.seq (jQ QpD (.cond (.t 16) (jD QpE (.ret)) (.skip))) (.seq (jQ QpF (.cond (.t 21) (jD QpG (.ret)) (.skip))) (jD QpH (.ret))))))
abbrev QJt:List RR:=[.tmp 4,.cell 5 (some 6),.tmp 6]
theorem QJu:CT 178 29 QJs QJt:=ck Tryz.func178 Tryz.ntmps178 (by decide +kernel)
abbrev QpI:IL:=[jh 1 1 0,yl 2 0,jy 3 3,jc 4 0]
abbrev QpJ:IL:=[jd 9 6 1,jl 10 73 9,jl 11 172 10,ja 8 11,jg 12 8 0,jg 13 8 1,jg 14 8 2,ja 5 12,ja 6 13,ja 7 14]
abbrev QpK:IL:=[ja 15 7,js 16 15 0]
abbrev QpL:IL:=[ji 17 0 1 6 1,ja 18 7,yl 2 0,jj 0 3 6 3 17,ja 4 18]
abbrev QpM:IL:=[ja 19 5,jd 20 6 1,ja 21 6,ju 22 173 20 21,ja 2 19,jf 6 3 22,jc 4 0]
abbrev QJv:RC:=jQ QpI (jQ QpJ (.seq (jQ QpK (.cond (.t 16) (jD QpL (.ret)) (.skip))) (jQ QpM (.ret))))
abbrev QJw:List RR:=[.tmp 2,.cell 3 (some 6),.tmp 4]
theorem QJx:CT 122 23 QJv QJw:=ck Tryz.func122 Tryz.ntmps122 (by decide +kernel)
abbrev QpN:IL:=[jh 2 2 0,jy 4 4]
abbrev QpO:IL:=[jb 5 1 2,je 6 5,ja 7 1,yk 8 6 7,jb 9 1 2,jf 1 9 8]
abbrev QpP:IL:=[jd 10 6 2,jf 6 4 10]
abbrev QJy:RC:=jQ QpN (jQ QpO (jQ QpP (.ret)))
abbrev QJz:List RR:=[.cell 4 (some 6)]
theorem QJA:CT 173 11 QJy QJz:=ck Tryz.func173 Tryz.ntmps173 (by decide +kernel)
abbrev QB9:IL:=[jh 1 1 0,ys 2]
abbrev QCa:IL:=[jd 3 6 1,jl 4 121 3,yd 5 4]
abbrev QCb:IL:=[ys 2]
abbrev QCc:IL:=[jb 6 0 1,je 7 6,jb 8 1 1,je 9 8,jb 10 2 1,je 11 10,NV 12 7 9 11,ja 2 12]
abbrev r73:RC:=jQ QB9 (.seq (jQ QCa (.cond (.t 5) (jQ QCb (.ret)) (.skip))) (jQ QCc (.ret)))
abbrev o73:List RR:=[.tmp 2]
theorem k73:CT 73 13 r73 o73:=ck Tryz.func73 Tryz.ntmps73 (by decide +kernel)
abbrev QCd:IL:=[jh 2 2 0,jc 4 0,jq 5]
abbrev QCe:IL:=[jc 6 0]
abbrev QCf:IL:=[ja 7 6,jb 8 0 2,je 9 8,jp 10 1 9,jv 11 7 10]
abbrev QCg:IL:=[jb 14 0 2,je 15 14,ja 16 6,jr 17 3 15 16,jb 18 0 17,je 19 18,ja 20 1,⟨some 21,.val (.bin .str .eql (.t 19) (.t 20)),none⟩]
abbrev QCh:IL:=[ja 22 6,ja 4 22,yi 5]
abbrev QCi:IL:=[ja 12 6,jw 13 12 1,ja 6 13]
abbrev QCj:RC:=.seq (jQ QCf (jX 11 0)) (.seq (.block 1 (jQ QCg (.cond (.t 21) (jQ QCh (.ret)) (.skip)))) (.reg QCi))
abbrev QCk:IL:=[jc 4 0,jq 5]
abbrev r16:RC:=jQ QCd (.seq (jQ QCe (.block 0 (.loop QCj))) (jQ QCk (.ret)))
abbrev o16:List RR:=[.tmp 4,.tmp 5]
theorem k16:CT 16 23 r16 o16:=ck Tryz.func16 Tryz.ntmps16 (by decide +kernel)
abbrev QCl:IL:=[jh 1 1 0,jq 2]
abbrev QCm:IL:=[jb 3 3 1,je 4 3,jn 5 4 4,ja 6 5,jo 7 5 1 6,jx 8 7 6,NU 9 8 1 6,jk 10 9 6,jo 11 5 1 10,jx 12 11 10,yz 13 12 6 10,⟨some 14,.val (.pick (.t 10) (.t 13) (.c (.bool false))),(some (6,true))⟩,jk 15 14 6,jz 16 5 1 15,yb 17 16 15,yu 18 17 9 15,zf 19 15 18 6,jm 20 6 19,ja 2 20]
abbrev r79:RC:=jQ QCl (jQ QCm (.ret))
abbrev o79:List RR:=[.tmp 2]
theorem k79:CT 79 21 r79 o79:=ck Tryz.func79 Tryz.ntmps79 (by decide +kernel)
abbrev QpQ:IL:=[jh 1 1 0,jc 2 0]
abbrev QpR:IL:=[jb 3 3 1,je 4 3,jn 5 4 5]
abbrev QpS:IL:=[jc 2 6]
abbrev QpT:IL:=[jd 6 8 1,jl 7 79 6]
abbrev QpU:IL:=[jc 2 5]
abbrev QpV:IL:=[jb 8 5 1,je 9 8]
abbrev QpW:IL:=[jn 11 9 1,ja 10 11]
abbrev QpX:IL:=[jn 12 9 4,ja 10 12]
abbrev QpY:IL:=[jn 13 9 5,ja 10 13]
abbrev QpZ:IL:=[jn 14 9 9,ja 10 14]
abbrev Ld:IL:=[jc 2 0]
abbrev Le:IL:=[jn 16 9 2,ja 15 16]
abbrev Lf:IL:=[jn 17 9 3,ja 15 17]
abbrev Lg:IL:=[jc 2 1]
abbrev Lh:IL:=[jn 19 9 6,ja 18 19]
abbrev Li:IL:=[jc 2 2]
abbrev Lj:IL:=[jn 21 9 7,ja 20 21]
abbrev Lk:IL:=[jn 22 9 8,ja 20 22]
abbrev Ll:IL:=[jc 2 3]
abbrev Lm:IL:=[jn 24 9 10,ja 23 24]
abbrev Ln:IL:=[jc 2 4]
abbrev Lo:IL:=[jc 2 (-1)]
abbrev QJB:RC:=jQ QpQ (.seq (jQ QpR (.cond (.t 5) (jQ QpS (.ret)) (.skip))) (.seq (jQ QpT (.cond (.t 7) (jQ QpU (.ret)) (.skip))) (.seq (jQ QpV (.block 0 (.seq (jQ QpW (.cond (.t 10) (.skip) (jQ QpX (.cond (.t 10) (.skip) (jQ QpY (.cond (.t 10) (.skip) (.reg QpZ))))))) (.cond (.t 10) (jQ Ld (.ret)) (.seq (jQ Le (.cond (.t 15) (.skip) (.reg Lf))) (.cond (.t 15) (jQ Lg (.ret)) (jQ Lh (.cond (.t 18) (jQ Li (.ret)) (.seq (jQ Lj (.cond (.t 20) (.skip) (.reg Lk))) (.cond (.t 20) (jQ Ll (.ret)) (jQ Lm (.cond (.t 23) (jQ Ln (.ret)) (.skip))))))))))))) (jQ Lo (.ret)))))
abbrev QJC:List RR:=[.tmp 2]
theorem QJD:CT 131 25 QJB QJC:=ck Tryz.func131 Tryz.ntmps131 (by decide +kernel)
abbrev QCn:IL:=[jh 1 1 0,ze 2 2,jy 3 3,jc 4 0]
abbrev QCo:IL:=[jd 11 6 1,jl 12 74 11,ja 10 12,jg 13 10 0,jg 14 10 1,jg 15 10 2,jg 16 10 3,jy 7 7,ja 5 13,ja 6 14,jf 6 7 15,ja 8 16]
abbrev QCp:IL:=[ja 17 8,js 18 17 0]
abbrev QCq:IL:=[F3 19,ji 20 0 1 6 1,ja 21 8,jj 0 2 4 2 19,jj 0 3 6 3 20,ja 4 21]
abbrev QCr:IL:=[jd 23 6 7,zj 24 21 23 1,ja 22 24,jg 25 22 0,jg 26 22 1,jf 6 7 25,ja 8 26]
abbrev QCs:IL:=[ja 27 8,js 28 27 0]
abbrev QCt:IL:=[F3 29,ji 30 0 1 6 1,ja 31 8,jj 0 2 4 2 29,jj 0 3 6 3 30,ja 4 31]
abbrev QCu:IL:=[ja 33 5,ja 34 6,M0 35 0 1 33 1 1 34,jd 36 6 7,ju 37 123 35 36,ja 32 37,jg 38 32 0,jg 39 32 1,jg 40 32 2,ze 9 9,jf 4 9 38,jf 6 7 39,ja 8 40]
abbrev QCv:IL:=[ja 41 8,js 42 41 0]
abbrev QCw:IL:=[F3 43,ji 44 0 1 6 1,ja 45 8,jj 0 2 4 2 43,jj 0 3 6 3 44,ja 4 45]
abbrev Qp0:IL:=[ji 46 0 9 4 9,ji 47 0 7 6 7,jj 0 2 4 2 46,jj 0 3 6 3 47,jc 4 0]
abbrev r76:RC:=jQ QCn (jQ QCo (.seq (jQ QCp (.cond (.t 18) (jD QCq (.ret)) (.skip))) (jQ QCr (.seq (jQ QCs (.cond (.t 28) (jD QCt (.ret)) (.skip))) (jQ QCu (.seq (jQ QCv (.cond (.t 42) (jD QCw (.ret)) (.skip))) (jD Qp0 (.ret))))))))
abbrev o76:List RR:=[.cell 2 (some 4),.cell 3 (some 6),.tmp 4]
theorem k76:CT 76 48 r76 o76:=ck Tryz.func76 Tryz.ntmps76 (by decide +kernel)
abbrev QCx:IL:=[jh 1 1 0,jc 2 0,jc 3 0,jy 4 4,jc 5 0]
abbrev QCy:IL:=[jd 10 6 1,jl 11 122 10,ja 9 11,jg 12 9 0,jg 13 9 1,jg 14 9 2,jy 7 7,ja 6 12,jf 6 7 13,ja 8 14]
abbrev QCz:IL:=[ja 15 8,js 16 15 0]
abbrev QCA:IL:=[ji 17 0 1 6 1,ja 18 8,jc 2 0,jc 3 0,jj 0 4 6 4 17,ja 5 18]
abbrev QCB:IL:=[ja 19 6,FZ 20 19 8,zn 21 20 7]
abbrev QCC:IL:=[ji 22 0 1 6 1,jc 2 0,jc 3 0,jj 0 4 6 4 22,jc 5 5]
abbrev QCD:IL:=[ja 23 6,NN 24 23 8,NO 25 24 1,ja 26 25,yc 27 6 26,⟨some 28,.val (.bin .num .quo (.t 27) (.c (.int .u64 8))),(some (26,false))⟩,⟨some 29,.val (.bin .num .gtr (.t 28) (.c (.int .u64 65535))),(some (26,false))⟩,ya 30 26 29]
abbrev QCE:IL:=[ji 31 0 1 6 1,jc 2 0,jc 3 0,jj 0 4 6 4 31,jc 5 6]
abbrev QCF:IL:=[ja 32 6,NN 33 32 8,yv 34 33,ja 35 6,FZ 36 35 8,yv 37 36,ji 38 0 7 6 7,ja 2 34,ja 3 37,jj 0 4 6 4 38,jc 5 0]
abbrev r74:RC:=jQ QCx (jQ QCy (.seq (jQ QCz (.cond (.t 16) (jD QCA (.ret)) (.skip))) (.seq (jQ QCB (.cond (.t 21) (jD QCC (.ret)) (.skip))) (.seq (jQ QCD (.cond (.t 30) (jD QCE (.ret)) (.skip))) (jD QCF (.ret))))))
abbrev o74:List RR:=[.tmp 2,.tmp 3,.cell 4 (some 6),.tmp 5]
theorem k74:CT 74 39 r74 o74:=ck Tryz.func74 Tryz.ntmps74 (by decide +kernel)
abbrev Qp1:IL:=[jh 2 2 0,jh 3 3 1,ze 4 4,jy 5 5,jc 6 0]
abbrev Qp2:IL:=[jb 13 1 2,je 14 13,jn 15 14 2]
abbrev Qp3:IL:=[jd 17 6 3,jl 18 174 17,ja 16 18,jg 19 16 0,jg 20 16 1,jg 21 16 2,jy 8 8,ja 7 19,jf 6 8 20,ja 9 21]
abbrev Qp4:IL:=[ja 22 7,jb 23 2 2,jf 1 23 22]
abbrev Qp5:IL:=[ji 24 0 2 4 2,ji 25 0 8 6 8,ja 26 9,jj 0 4 4 4 24,jj 0 5 6 5 25,ja 6 26]
abbrev Qp6:IL:=[jd 28 6 3,jl 29 122 28,ja 27 29,jg 30 27 0,jg 31 27 1,jg 32 27 2,jy 11 11,ja 10 30,jf 6 11 31,ja 12 32]
abbrev Qp7:IL:=[ja 33 12,js 34 33 0,ja 35 34,jz 36 1 2 35,yb 37 36 35,zs 38 175 37 35,ya 39 35 38]
abbrev Qp8:IL:=[ja 40 10,jb 41 2 2,jf 1 41 40]
abbrev Qp9:IL:=[ji 42 0 2 4 2,ji 43 0 11 6 11,ja 44 12,jj 0 4 4 4 42,jj 0 5 6 5 43,ja 6 44]
abbrev Qqa:IL:=[ja 45 10,jd 46 6 11,jl 47 42 46,zp 48 47,yr 49 45 48]
abbrev Lp:IL:=[ji 50 0 2 4 2,ji 51 0 3 6 3,jj 0 4 4 4 50,jj 0 5 6 5 51,jc 6 4]
abbrev Lq:IL:=[jb 52 1 2,je 53 52,jn 54 53 3,ja 55 54,jk 56 10 55,⟨some 57,.val (.cvi .i64 (.t 56)),(some (55,true))⟩,jo 58 5 11 55,jx 59 58 55,⟨some 60,.val (.bin .num .gtr (.t 57) (.t 59)),(some (55,true))⟩,jm 61 55 60,ja 62 61,jz 63 1 2 62,yb 64 63 62,⟨some 65,.val (.bin .num .neq (.t 64) (.c (.int .i64 3))),(some (62,false))⟩,yc 66 65 62,jk 67 10 66,⟨some 68,.val (.bin .num .gtr (.t 67) (.c (.int .u64 65536))),(some (66,true))⟩,F0 69 66 68 62,ya 70 62 69]
abbrev Lr:IL:=[ji 71 0 2 4 2,ji 72 0 3 6 3,jj 0 4 4 4 71,jj 0 5 6 5 72,jc 6 3]
abbrev Ls:IL:=[jb 73 0 11,je 74 73,jb 75 1 11,je 76 75,jb 77 1 11,je 78 77,ja 79 10,yv 80 79,yk 81 78 80,NV 82 74 76 81,jb 83 3 2,jf 1 83 82]
abbrev Lt:IL:=[jb 84 1 11,je 85 84,ja 86 10,yv 87 86,yk 88 85 87,jb 89 1 11,jf 1 89 88]
abbrev Lu:IL:=[ji 90 0 2 4 2,ji 91 0 11 6 11,jj 0 4 4 4 90,jj 0 5 6 5 91,jc 6 0]
abbrev QJE:RC:=jQ Qp1 (.seq (jQ Qp2 (.cond (.t 15) (jQ Qp3 (jQ Qp4 (jD Qp5 (.ret)))) (.skip))) (jQ Qp6 (.seq (jQ Qp7 (.cond (.t 39) (jQ Qp8 (jD Qp9 (.ret))) (.skip))) (.seq (jQ Qqa (.cond (.t 49) (jD Lp (.ret)) (.skip))) (.seq (jQ Lq (.cond (.t 70) (jD Lr (.ret)) (.skip))) (jQ Ls (jQ Lt (jD Lu (.ret)))))))))
abbrev QJF:List RR:=[.cell 4 (some 4),.cell 5 (some 6),.tmp 6]
theorem QJG:CT 123 92 QJE QJF:=ck Tryz.func123 Tryz.ntmps123 (by decide +kernel)
abbrev Qqb:IL:=[jq 2]
abbrev Qqc:IL:=[ja 3 0,jn 4 3 0,ja 5 4,yc 6 0 5,yu 7 6 1 5,ya 8 5 7,ja 9 8,yc 10 0 9,yu 11 10 2 9,ya 12 9 11,ja 2 12]
abbrev QJH:RC:=jQ Qqb (jQ Qqc (.ret))
abbrev QJI:List RR:=[.tmp 2]
theorem QJJ:CT 175 13 QJH QJI:=ck Tryz.func175 Tryz.ntmps175 (by decide +kernel)
def Qqd:IL:=[jh 4 4 0,jh 7 7 3,jt 8 8,jc 9 0]
def Qqe:IL:=[jd 15 2 4,ja 16 1,NJ 17,ja 18 2,jd 19 4 7,zl 20 10 15 16 17 18 19,ja 14 20,jg 21 14 0,jg 22 14 1,jt 10 10,jf 7 10 21,ja 11 22]
def Qqf:IL:=[ja 23 11,js 24 23 0]
def Qqg:IL:=[yh 25,ja 26 11,jf 7 8 25,ja 9 26]
def Qqh:IL:=[jd 28 2 4,ja 29 1,ju 30 16 28 29,ja 27 30,jg 31 27 0,jg 32 27 1,ja 12 31,ja 13 32]
def Qqi:IL:=[jd 33 2 4,ja 34 12,jd 35 7 10,yp 36 17 33 34 35]
def Qqj:IL:=[yh 37,jf 7 8 37,jc 9 14]
def Qqk:IL:=[jd 38 7 10,jf 7 8 38,jc 9 0]
def r7:RC:=jQ Qqd (jQ Qqe (.seq (jQ Qqf (.cond (.t 24) (jQ Qqg (.ret)) (.skip))) (jQ Qqh (.seq (jQ Qqi (.cond (.t 36) (jQ Qqj (.ret)) (.skip))) (jQ Qqk (.ret))))))
def o7:List RR:=[.cell 8 (some 7),.tmp 9]
theorem k7:CT 7 39 r7 o7:=ck Tryz.func7 Tryz.ntmps7 (by decide +kernel)
abbrev QCG:IL:=[jh 2 2 0,jt 4 4,jq 5]
abbrev QCH:IL:=[jc 6 0]
abbrev QCI:IL:=[ja 7 6,jb 8 5 2,je 9 8,jp 10 1 9,jv 11 7 10]
abbrev QCJ:IL:=[jb 14 5 2,je 15 14,ja 16 6,jr 17 8 15 16,jb 18 0 17,je 19 18,ja 20 1,zh 21 19 20]
abbrev QCK:IL:=[jb 22 5 2,je 23 22,ja 24 6,jr 25 8 23 24,jb 26 1 25,jd 27 7 26,jf 7 4 27,yi 5]
abbrev QCL:IL:=[ja 12 6,jw 13 12 1,ja 6 13]
abbrev QCM:RC:=.seq (jQ QCI (jX 11 0)) (.seq (.block 1 (jQ QCJ (.cond (.t 21) (jQ QCK (.ret)) (.skip)))) (.reg QCL))
abbrev QCN:IL:=[yh 28,jf 7 4 28,jq 5]
abbrev r39:RC:=jQ QCG (.seq (jQ QCH (.block 0 (.loop QCM))) (jQ QCN (.ret)))
abbrev o39:List RR:=[.cell 4 (some 7),.tmp 5]
theorem k39:CT 39 29 r39 o39:=ck Tryz.func39 Tryz.ntmps39 (by decide +kernel)
abbrev QCO:IL:=[jh 3 3 0,jh 5 5 2,jq 6]
abbrev QCP:IL:=[jc 7 0]
abbrev QCQ:IL:=[ja 11 7,jb 12 0 3,je 13 12,ja 14 1,jr 15 3 13 14,jb 16 1 15,je 17 16,jp 18 1 17,jv 19 11 18]
abbrev QCR:IL:=[jb 22 0 3,je 23 22,ja 24 1,jr 25 3 23 24,jb 26 1 25,je 27 26,ja 28 7,jr 29 8 27 28,jd 30 8 29,zd 8 8,jf 8 8 30]
abbrev QCS:IL:=[jd 32 7 5,jb 33 0 8,je 34 33,ju 35 39 32 34,ja 31 35,jg 36 31 0,jg 37 31 1,jt 9 9,jf 7 9 36,ja 10 37]
abbrev QCT:IL:=[ja 38 10,yd 39 38,ja 40 39,jo 41 3 8 40,jx 42 41 40,yo 43 42 1 40,jm 44 40 43,ja 45 44,yc 46 10 45,yc 47 46 45,yy 48 2 3 47,yy 49 8 8 47,yy 50 7 9 47,⟨some 51,.call (.f 40) [(.t 48),(.t 49),(.t 50)],(some (47,true))⟩,F0 52 47 51 45,ya 53 45 52]
abbrev QCU:IL:=[yi 6]
abbrev QCV:IL:=[ja 20 7,jw 21 20 1,ja 7 21]
abbrev QCW:RC:=.gho (.drop 9) (.gho (.drop 8) (.seq (jQ QCQ (jX 19 0)) (.seq (.block 1 (jQ QCR (jQ QCS (jQ QCT (.cond (.t 53) (jQ QCU (.ret)) (.skip)))))) (.reg QCV))))
abbrev QCX:IL:=[jq 6]
abbrev r17:RC:=jQ QCO (.seq (jQ QCP (.block 0 (.loop QCW))) (jQ QCX (.ret)))
abbrev o17:List RR:=[.tmp 6]
theorem k17:CT 17 54 r17 o17:=ck Tryz.func17 Tryz.ntmps17 (by decide +kernel)
abbrev QCY:IL:=[jh 5 5 0,jh 7 7 2,jh 9 9 4,jt 10 10,jc 11 0]
abbrev QCZ:IL:=[jd 19 2 5,ja 20 1,ju 21 16 19 20,ja 18 21,jg 22 18 0,jg 23 18 1,ja 12 22,ja 13 23]
abbrev QC0:IL:=[ja 24 13,yd 25 24]
abbrev QC1:IL:=[yh 26,jf 7 10 26,jc 11 10]
abbrev QC2:IL:=[jb 27 0 7,je 28 27,js 29 28 10]
abbrev QC3:IL:=[yh 30,jf 7 10 30,jc 11 12]
abbrev QC4:IL:=[ja 32 3,jd 33 4 9,ju 34 20 32 33,ja 31 34,jg 35 31 0,jg 36 31 1,jy 14 14,jf 6 14 35,ja 15 36]
abbrev QC5:IL:=[ja 37 15,js 38 37 0]
abbrev QC6:IL:=[yh 39,ja 40 15,jf 7 10 39,ja 11 40]
abbrev QC7:IL:=[jb 41 3 14,je 42 41,ym 43 42 1]
abbrev Qql:IL:=[yh 44,jf 7 10 44,jc 11 17]
abbrev Qqm:IL:=[jb 45 3 14,je 46 45,WS 47 46 1,jb 48 3 14,jf 1 48 47]
abbrev Qqn:IL:=[jd 50 6 14,zj 51 21 50 1,ja 49 51,jg 52 49 0,jg 53 49 1,jf 6 14 52,ja 15 53]
abbrev Qqo:IL:=[ja 54 15,js 55 54 0]
abbrev Qqp:IL:=[yh 56,ja 57 15,jf 7 10 56,ja 11 57]
abbrev Qqq:IL:=[jd 59 2 5,ja 60 12,jd 61 7 7,jd 62 6 14,⟨some 63,.callR (.f 22) [(.t 59),(.t 60),(.t 61),(.t 62)],none⟩,ja 58 63,jg 64 58 0,jg 65 58 1,jg 66 58 2,jt 16 16,jy 17 17,jf 7 16 64,jf 6 17 65,ja 15 66]
abbrev Qqr:IL:=[ja 67 15,js 68 67 0]
abbrev Qqs:IL:=[yh 69,ja 70 15,jf 7 10 69,ja 11 70]
abbrev Qqt:IL:=[jd 71 2 5,ja 72 12,jd 73 7 16,yp 74 23 71 72 73,jf 7 10 74,jc 11 0]
abbrev r10:RC:=jQ QCY (jQ QCZ (.seq (jQ QC0 (.cond (.t 25) (jQ QC1 (.ret)) (.skip))) (.seq (jQ QC2 (.cond (.t 29) (jQ QC3 (.ret)) (.skip))) (jQ QC4 (.seq (jQ QC5 (.cond (.t 38) (jQ QC6 (.ret)) (.skip))) (.seq (jQ QC7 (.cond (.t 43) (jQ Qql (.ret)) (.skip))) (jQ Qqm (jQ Qqn (.seq (jQ Qqo (.cond (.t 55) (jQ Qqp (.ret)) (.skip))) (jQ Qqq (.seq (jQ Qqr (.cond (.t 68) (jQ Qqs (.ret)) (.skip))) (jQ Qqt (.ret)))))))))))))
abbrev o10:List RR:=[.cell 10 (some 7),.tmp 11]
theorem Pj:CT 10 75 r10 o10:=ck Tryz.func10 Tryz.ntmps10 (by decide +kernel)
abbrev Qqu:IL:=[jh 3 3 0,jh 4 4 1,jh 5 5 2,jt 6 6,jc 7 0]
abbrev Qqv:IL:=[jb 9 5 4,je 10 9,jl 11 118 10,yd 12 11]
abbrev Qqw:IL:=[yh 13,jf 7 6 13,jc 7 12]
abbrev Qqx:IL:=[jb 14 1 5,yg 15 0 5 14,ji 16 0 4 8 4,jl 17 81 16,yx 18 15 17]
abbrev Qqy:IL:=[yh 19,jf 7 6 19,jc 7 13]
abbrev Qqz:IL:=[jb 20 5 4,je 21 20,M1 22 0 1 21,jt 8 8,jf 7 8 22]
abbrev QqA:IL:=[jb 23 1 5,je 24 23]
abbrev QqB:IL:=[jn 29 24 3,ja 28 29]
abbrev QqC:IL:=[jb 30 5 4,je 31 30,jn 32 31 7,ja 33 32,jo 34 3 5 33,jx 35 34 33,za 36 115 35 33,zt 37 36 33,jm 38 33 37]
abbrev Lv:IL:=[yh 39,jf 7 6 39,jc 7 7]
abbrev Lw:IL:=[jb 40 3 5,je 41 40,jb 42 2 8,jf 1 42 41]
abbrev Lx:IL:=[jd 43 7 8,jf 7 6 43,jc 7 0]
abbrev Ly:IL:=[jn 45 24 1,ja 44 45]
abbrev Lz:IL:=[jb 46 2 5,je 47 46,jl 48 179 47,zp 49 48,jb 50 1 8,jf 1 50 49]
abbrev QqD:IL:=[jb 25 2 5,je 26 25,jb 27 1 8,jf 1 27 26]
abbrev LA:IL:=[jb 51 5 4,je 52 51,jd 53 7 8,ju 54 169 52 53,yd 55 54]
abbrev LB:IL:=[yh 56,jf 7 6 56,jc 7 6]
abbrev LC:IL:=[jb 57 5 4,je 58 57,jn 59 58 9,ja 60 59,yy 61 2 3 60,jo 62 6 4 60,jx 63 62 60,jo 64 1 8 60,jx 65 64 60,⟨some 66,.call (.f 180) [(.t 61),(.t 63),(.t 65)],(some (60,true))⟩,zt 67 66 60,jm 68 60 67]
abbrev LD:IL:=[yh 69,jf 7 6 69,jc 7 16]
abbrev LE:IL:=[jd 70 7 8,jl 71 86 70,jf 7 6 71,jc 7 0]
abbrev QJK:RC:=jQ Qqu (.seq (jQ Qqv (.cond (.t 12) (jQ Qqw (.ret)) (.skip))) (.seq (jD Qqx (.cond (.t 18) (jQ Qqy (.ret)) (.skip))) (jQ Qqz (.seq (jQ QqA (.block 0 (jQ QqB (.cond (.t 28) (.seq (jQ QqC (.cond (.t 38) (jQ Lv (.ret)) (.skip))) (jQ Lw (jQ Lx (.ret)))) (jQ Ly (.cond (.t 44) (.reg Lz) (.reg QqD))))))) (.seq (jQ LA (.cond (.t 55) (jQ LB (.ret)) (.skip))) (.seq (jQ LC (.cond (.t 68) (jQ LD (.ret)) (.skip))) (jQ LE (.ret))))))))
abbrev QJL:List RR:=[.cell 6 (some 7),.tmp 7]
theorem QJM:CT 136 72 QJK QJL:=ck Tryz.func136 Tryz.ntmps136 (by decide +kernel)
abbrev QC8:IL:=[jh 1 1 0,jc 2 0]
abbrev QC9:IL:=[jd 3 8 1,jl 4 132 3,jl 5 131 4,ja 2 5]
abbrev r81:RC:=jQ QC8 (jQ QC9 (.ret))
abbrev o81:List RR:=[.tmp 2]
theorem k81:CT 81 6 r81 o81:=ck Tryz.func81 Tryz.ntmps81 (by decide +kernel)
abbrev QDa:IL:=[jh 2 2 0,jh 3 3 1,jt 4 4]
abbrev QDb:IL:=[zx 5 5 4,⟨some 6,.val (.faddv 6 (.t 2)),none⟩,yg 7 0 2 6,yj 8 4 40 86 5 7,ji 9 0 3 4 3,⟨some 10,.bsl 4 1 [.int .i64 0,.int .i64 0,.int .u64 0,.str []] [(0,4,(.t 9))],none⟩,yj 11 4 40 86 8 10,⟨some 12,.val (.faddv 6 (.t 2)),none⟩,jj 0 2 1 12 11]
abbrev QDc:IL:=[jd 13 7 2,jf 7 4 13]
abbrev r77:RC:=jQ QDa (jD QDb (jQ QDc (.ret)))
abbrev o77:List RR:=[.cell 4 (some 7)]
theorem k77:CT 77 14 r77 o77:=ck Tryz.func77 Tryz.ntmps77 (by decide +kernel)
abbrev QqE:IL:=[jh 2 2 0,jh 3 3 1,jy 4 4]
abbrev QqF:IL:=[jb 5 2 3,je 6 5,jb 7 1 2,jf 1 7 6]
abbrev QqG:IL:=[jb 8 4 3,je 9 8,jb 10 4 2,jf 1 10 9]
abbrev QqH:IL:=[jd 11 6 2,jf 6 4 11]
abbrev QJN:RC:=jQ QqE (jQ QqF (jQ QqG (jQ QqH (.ret))))
abbrev QJO:List RR:=[.cell 4 (some 6)]
theorem QJP:CT 129 12 QJN QJO:=ck Tryz.func129 Tryz.ntmps129 (by decide +kernel)
abbrev QqI:IL:=[jh 3 3 1,ze 4 4,jy 5 5,jc 6 0]
abbrev QqJ:IL:=[ja 17 0]
abbrev QqK:IL:=[jn 19 17 2,ja 18 19]
abbrev QqL:IL:=[jd 21 6 3,jl 22 174 21,ja 20 22,jg 23 20 0,jg 24 20 1,jg 25 20 2,jy 8 8,ja 7 23,jf 6 8 24,ja 9 25]
abbrev QqM:IL:=[ja 26 0,ja 27 7,M0 28 1 1 26 2 1 27,ji 29 0 8 6 8,ja 30 9,jj 0 4 4 4 28,jj 0 5 6 5 29,ja 6 30]
abbrev QqN:IL:=[jn 32 17 3,ja 31 32]
abbrev QqO:IL:=[jd 34 6 3,jl 35 124 34,ja 33 35,jg 36 33 0,jg 37 33 1,jg 38 33 2,jy 11 11,ja 10 36,jf 6 11 37,ja 12 38]
abbrev QqP:IL:=[ja 39 12,js 40 39 0]
abbrev QqQ:IL:=[F3 41,ji 42 0 3 6 3,ja 43 12,jj 0 4 4 4 41,jj 0 5 6 5 42,ja 6 43]
abbrev QqR:IL:=[jd 45 6 11,ja 46 10,ju 47 178 45 46,ja 44 47,jg 48 44 0,jg 49 44 1,jg 50 44 2,ja 13 48,jf 6 11 49,ja 12 50]
abbrev LF:IL:=[ja 51 0,ja 52 13,M0 53 1 1 51 3 1 52,ji 54 0 11 6 11,ja 55 12,jj 0 4 4 4 53,jj 0 5 6 5 54,ja 6 55]
abbrev LG:IL:=[jd 57 6 3,jl 58 122 57,ja 56 58,jg 59 56 0,jg 60 56 1,jg 61 56 2,jy 15 15,ja 14 59,jf 6 15 60,ja 16 61]
abbrev LH:IL:=[ja 62 0,ja 63 14,M0 64 1 1 62 2 1 63,ji 65 0 15 6 15,ja 66 16,jj 0 4 4 4 64,jj 0 5 6 5 65,ja 6 66]
abbrev QJQ:RC:=jQ QqI (.seq (jQ QqJ (.block 0 (jQ QqK (.cond (.t 18) (jQ QqL (jD QqM (.ret))) (jQ QqN (.cond (.t 31) (jQ QqO (.seq (jQ QqP (.cond (.t 40) (jD QqQ (.ret)) (.skip))) (jQ QqR (jD LF (.ret))))) (.skip))))))) (jQ LG (jD LH (.ret))))
abbrev QJR:List RR:=[.cell 4 (some 4),.cell 5 (some 6),.tmp 6]
theorem RF:CT 135 67 QJQ QJR:=ck Tryz.func135 Tryz.ntmps135 (by decide +kernel)
abbrev QqS:IL:=[jh 1 1 0,jt 2 2]
abbrev QqT:IL:=[jb 3 5 1,je 4 3,M1 5 0 1 4,jf 7 2 5]
abbrev QJS:RC:=jQ QqS (jQ QqT (.ret))
abbrev QJT:List RR:=[.cell 2 (some 7)]
theorem QJU:CT 126 6 QJS QJT:=ck Tryz.func126 Tryz.ntmps126 (by decide +kernel)
abbrev QDd:IL:=[jh 5 5 0,jh 6 6 1,jh 7 7 2,jh 8 8 3,jh 9 9 4,jt 10 10,jy 11 11,jc 12 0]
abbrev QDe:IL:=[jd 28 6 9,jl 29 124 28,ja 27 29,jg 30 27 0,jg 31 27 1,jg 32 27 2,jy 14 14,ja 13 30,jf 6 14 31,ja 15 32]
abbrev QDf:IL:=[ja 33 15,js 34 33 0]
abbrev QDg:IL:=[ji 35 0 7 7 7,ji 36 0 9 6 9,ja 37 15,jj 0 10 7 10 35,jj 0 11 6 11 36,ja 12 37]
abbrev QDh:IL:=[jd 39 7 7,jb 40 0 8,je 41 40,ju 42 39 39 41,ja 38 42,jg 43 38 0,jg 44 38 1,jt 16 16,jf 7 16 43,ja 17 44]
abbrev QDi:IL:=[jc 18 3]
abbrev QDj:IL:=[ja 45 17]
abbrev QDk:IL:=[jc 18 2]
abbrev QDl:IL:=[jd 47 6 14,ja 48 13,ju 49 125 47 48,ja 50 18,ju 51 21 49 50,ja 46 51,jg 52 46 0,jg 53 46 1,jy 19 19,jf 6 19 52,ja 15 53]
abbrev QDm:IL:=[ja 54 15,js 55 54 0]
abbrev QqU:IL:=[ji 56 0 7 7 7,ji 57 0 9 6 9,ja 58 15,jj 0 10 7 10 56,jj 0 11 6 11 57,ja 12 58]
abbrev QqV:IL:=[jb 59 4 8,yg 60 0 8 59,M1 61 0 1 60,ji 62 0 8 8 8,jl 63 126 62,⟨some 64,.val (.build [.int .i64 0,.int .u64 0,.str [],.nils,.nils,.nils,.nils,.int .i64 0,.int .u64 0,.str [],.nils,.nils,.nils,.nils] [(0,7,(.t 61)),(7,7,(.t 63))]),none⟩,NT 20 20,jj 0 20 14 20 64]
abbrev QqW:IL:=[⟨some 65,.bslv 65 1 3 [.bool false] [(0,1,(.c (.bool false))),(1,1,(.c (.bool false))),(2,1,(.c (.bool false)))],none⟩,ja 21 65]
abbrev QqX:IL:=[jd 66 6 19,jl 67 42 66,zi 68 67 0]
abbrev QqY:IL:=[jd 70 6 19,jl 71 74 70,ja 69 71,jg 72 69 0,jg 73 69 1,jg 74 69 2,jg 75 69 3,jy 24 24,ja 22 72,ja 23 73,jf 6 24 74,ja 25 75]
abbrev QqZ:IL:=[ja 77 25,js 78 77 0,ja 76 78]
abbrev Qq0:IL:=[ji 79 0 7 7 7,ji 80 0 9 6 9,ja 81 25,jj 0 10 7 10 79,jj 0 11 6 11 80,ja 12 81]
abbrev Qq1:IL:=[ja 83 22,js 84 83 1,ja 85 84,jk 86 22 85,M2 87 86 2 85,jm 88 85 87,ja 82 88]
abbrev Qq2:IL:=[ji 89 0 7 7 7,ji 90 0 9 6 9,jj 0 10 7 10 89,jj 0 11 6 11 90,jc 12 18]
abbrev Qq3:IL:=[ja 92 21,ja 93 22,jr 94 1 92 93,je 95 94,ja 91 95]
abbrev Qq4:IL:=[ji 96 0 7 7 7,ji 97 0 9 6 9,jj 0 10 7 10 96,jj 0 11 6 11 97,jc 12 9]
abbrev Qq5:IL:=[ja 98 21,ja 99 22,jr 100 1 98 99,⟨none,.store 1 (.t 100) (.c (.bool true)),none⟩]
abbrev Qq6:IL:=[jd 102 2 5,jd 103 8 8,jd 104 14 20,ja 105 22,ja 106 23,jd 107 6 24,⟨some 108,.callR (.f 127) [(.t 102),(.t 103),(.t 104),(.t 105),(.t 106),(.t 107)],none⟩,ja 101 108,jg 109 101 0,jg 110 101 1,jg 111 101 2,jf 14 20 109,jf 6 19 110,ja 25 111]
abbrev Qq7:IL:=[ja 112 25,js 113 112 0]
abbrev Qq8:IL:=[ji 114 0 7 7 7,ji 115 0 9 6 9,ja 116 25,jj 0 10 7 10 114,jj 0 11 6 11 115,ja 12 116]
abbrev Tv:RC:=.gho (.drop 24) (.seq (jQ QqX (jX 68 0)) (.block 1 (jQ QqY (.seq (.block 2 (jQ QqZ (.cond (.t 76) (jD Qq0 (.ret)) (jQ Qq1 (.cond (.t 82) (jD Qq2 (.ret)) (jQ Qq3 (.cond (.t 91) (jD Qq4 (.ret)) (.skip)))))))) (jQ Qq5 (jQ Qq6 (jQ Qq7 (.cond (.t 113) (jD Qq8 (.ret)) (.skip)))))))))
abbrev Qq9:IL:=[zx 117 117 14,⟨some 118,.val (.faddv 4 (.t 16)),none⟩,yg 119 0 16 118,yj 120 14 256 113 117 119,ji 121 0 20 14 20,MZ 122 14 1 0 14 121,yj 123 14 256 113 120 122,ja 26 123]
abbrev Qra:IL:=[ji 124 0 6 3 6,ji 125 0 7 7 7,ji 126 0 8 8 8,ja 127 26,jl 128 85 127,⟨some 129,.val (.build [.int .i64 0,.int .u64 0,.str [],.nils,.nils,.nils,.nils] [(0,1,(.c (.int .i64 12))),(4,1,(.t 128))]),none⟩,zb 130 128 124 125 126 129,ji 131 0 14 6 14,ji 132 0 19 6 19,ju 133 129 131 132,jj 0 10 7 10 130,jj 0 11 6 11 133,jc 12 0]
abbrev r78:RC:=jQ QDd (jQ QDe (.seq (jQ QDf (.cond (.t 34) (jD QDg (.ret)) (.skip))) (jQ QDh (jQ QDi (.seq (jQ QDj (.cond (.t 45) (.reg QDk) (.skip))) (jQ QDl (.seq (jQ QDm (.cond (.t 55) (jD QqU (.ret)) (.skip))) (jD QqV (jQ QqW (.seq (.block 0 (.loop Tv)) (jD Qq9 (.gho (.pub 26 117) (jD Qra (.ret))))))))))))))
abbrev o78:List RR:=[.cell 10 (some 7),.cell 11 (some 6),.tmp 12]
theorem k78:CT 78 134 r78 o78:=ck Tryz.func78 Tryz.ntmps78 (by decide +kernel)
abbrev Qrb:IL:=[jh 6 6 0,jh 7 7 1,jh 8 8 2,jh 11 11 5,NT 12 12,jy 13 13,jc 14 0]
abbrev Qrc:IL:=[jd 23 8 7,jl 24 132 23,zd 15 15,jf 8 15 24]
abbrev Qrd:IL:=[ja 25 3,jn 26 25 1]
abbrev Qre:IL:=[jb 27 4 7,je 28 27,⟨some 29,.val (.build [.int .i64 0,.str [],.str [],.int .i64 0,.int .i64 0,.int .i64 0,.int .i64 0,.int .i64 0] [(3,1,(.c (.int .i64 2))),(5,1,(.t 28)),(6,1,(.c (.int .i64 (-1)))),(7,1,(.c (.int .i64 (-1))))]),none⟩,jf 8 15 29]
abbrev Qrf:IL:=[ja 30 4,jd 31 8 15,jl 32 81 31,yx 33 30 32]
abbrev Qrg:IL:=[ji 34 0 8 14 8,ji 35 0 11 6 11,jj 0 12 14 12 34,jj 0 13 6 13 35,jc 14 13]
abbrev Qrh:IL:=[ja 36 3,jn 37 36 2,ja 38 37,jo 39 5 7 38,jx 40 39 38,yo 41 40 10 38,jm 42 38 41]
abbrev Qri:IL:=[ji 44 0 6 2 6,ji 45 0 7 8 7,ji 46 0 7 8 7,jl 47 126 46,ji 48 0 11 6 11,⟨some 49,.call (.f 133) [(.t 44),(.t 45),(.t 47),(.c (.int .i64 0)),(.t 48)],none⟩,ja 43 49,jg 50 43 0,jg 51 43 1,jg 52 43 2,jt 16 16,jy 17 17,jj 0 16 7 16 50,jj 0 17 6 17 51,ja 18 52]
abbrev Qrj:IL:=[jd 53 7 16,jb 54 7 8,jf 7 54 53]
abbrev Qrk:IL:=[ji 55 0 8 14 8,ji 56 0 17 6 17,ja 57 18,jj 0 12 14 12 55,jj 0 13 6 13 56,ja 14 57]
abbrev LI:IL:=[ja 59 4,jd 60 6 11,ju 61 135 59 60,ja 58 61,jg 62 58 0,jg 63 58 1,jg 64 58 2,ze 19 19,jy 20 20,jf 4 19 62,jf 6 20 63,ja 21 64]
abbrev LJ:IL:=[ja 65 21,js 66 65 0]
abbrev LK:IL:=[ji 67 0 8 14 8,ji 68 0 11 6 11,ja 69 21,jj 0 12 14 12 67,jj 0 13 6 13 68,ja 14 69]
abbrev LL:IL:=[jd 71 2 6,jd 72 8 15,jd 73 4 19,yp 74 136 71 72 73,ja 70 74,jg 75 70 0,jg 76 70 1,jt 22 22,jf 7 22 75,ja 21 76]
abbrev LM:IL:=[ja 77 3,jn 78 77 1]
abbrev LN:IL:=[jd 79 7 22,jb 80 0 8,jf 7 80 79]
abbrev LO:IL:=[jd 81 7 22,jb 82 7 8,jf 7 82 81]
abbrev LP:IL:=[ji 83 0 8 14 8,ji 84 0 20 6 20,ja 85 21,jj 0 12 14 12 83,jj 0 13 6 13 84,ja 14 85]
abbrev QJV:RC:=jQ Qrb (jQ Qrc (.seq (jQ Qrd (.cond (.t 26) (.reg Qre) (.skip))) (.seq (jQ Qrf (.cond (.t 33) (jD Qrg (.ret)) (.skip))) (.seq (jQ Qrh (.cond (.t 42) (jD Qri (jQ Qrj (jD Qrk (.ret)))) (.skip))) (jQ LI (.seq (jQ LJ (.cond (.t 66) (jD LK (.ret)) (.skip))) (jQ LL (.seq (jQ LM (.cond (.t 78) (.reg LN) (.reg LO))) (jD LP (.ret))))))))))
abbrev QJW:List RR:=[.cell 12 (some 14),.cell 13 (some 6),.tmp 14]
theorem HH:CT 127 86 QJV QJW:=ck Tryz.func127 Tryz.ntmps127 (by decide +kernel)
abbrev QDn:IL:=[jh 4 4 0,jh 5 5 1,jh 6 6 2,jh 7 7 3,jt 8 8,jy 9 9,jc 10 0]
abbrev QDo:IL:=[jd 21 6 7,jl 22 74 21,ja 20 22,jg 23 20 0,jg 24 20 1,jg 25 20 2,jg 26 20 3,jy 13 13,ja 11 23,ja 12 24,jf 6 13 25,ja 14 26]
abbrev QDp:IL:=[ja 27 14,js 28 27 0]
abbrev QDq:IL:=[ji 29 0 6 7 6,ji 30 0 7 6 7,ja 31 14,jj 0 8 7 8 29,jj 0 9 6 9 30,ja 10 31]
abbrev QDr:IL:=[jd 33 3 5,ja 34 11,ju 35 75 33 34,ja 32 35,jg 36 32 0,jg 37 32 1,zd 15 15,jf 8 15 36,ja 16 37]
abbrev QDs:IL:=[ja 39 16,yd 40 39,ja 38 40]
abbrev QDt:IL:=[jd 42 6 7,jl 43 76 42,ja 41 43,jg 44 41 0,jg 45 41 1,jg 46 41 2,ze 17 17,jy 18 18,jf 4 17 44,jf 6 18 45,ja 19 46]
abbrev QDu:IL:=[ja 47 19,js 48 47 0]
abbrev QDv:IL:=[ji 49 0 6 7 6,ji 50 0 7 6 7,ja 51 19,jj 0 8 7 8 49,jj 0 9 6 9 50,ja 10 51]
abbrev QDw:IL:=[ji 52 0 6 7 6,ji 53 0 17 4 17,ju 54 77 52 53,ji 55 0 18 6 18,jj 0 8 7 8 54,jj 0 9 6 9 55,jc 10 0]
abbrev Qrl:IL:=[jb 57 3 15,je 58 57,jn 59 58 5,ja 60 59,jk 61 12 60,yo 62 61 6 60,jm 63 60 62,ja 56 63]
abbrev Qrm:IL:=[jd 64 2 4,jd 65 3 5,jd 66 7 6,jd 67 8 15,jd 68 6 13,zl 69 78 64 65 66 67 68,jg 70 69 0,jg 71 69 1,jg 72 69 2,jf 7 8 70,jf 6 9 71,ja 10 72]
abbrev Qrn:IL:=[jd 74 8 15,jl 75 79 74,ja 76 75,jk 77 12 76,yo 78 77 5 76,jm 79 76 78,ja 73 79]
abbrev Qro:IL:=[jd 80 2 4,jd 81 3 5,jd 82 7 6,jd 83 8 15,jd 84 6 13,zl 85 80 80 81 82 83 84,jg 86 85 0,jg 87 85 1,jg 88 85 2,jf 7 8 86,jf 6 9 87,ja 10 88]
abbrev Qrp:IL:=[jb 90 3 15,je 91 90,jn 92 91 5,ja 93 92,yc 94 12 93,NK 95 8 15 93,zs 96 81 95 93,NR 97 94 96 93,ya 98 93 97,ja 89 98]
abbrev Qrq:IL:=[ji 99 0 6 7 6,ji 100 0 7 6 7,jj 0 8 7 8 99,jj 0 9 6 9 100,jc 10 13]
abbrev Qrr:IL:=[jb 102 5 15,je 103 102,jn 104 103 10,ja 101 104]
abbrev Qrs:IL:=[jd 105 2 4,jd 106 3 5,jd 107 7 6,jd 108 8 15,jd 109 6 13,zl 110 82 105 106 107 108 109,jg 111 110 0,jg 112 110 1,jg 113 110 2,jf 7 8 111,jf 6 9 112,ja 10 113]
abbrev Qrt:IL:=[jd 114 2 4,jd 115 3 5,jd 116 7 6,jd 117 8 15,jd 118 6 13,zl 119 83 114 115 116 117 118,jg 120 119 0,jg 121 119 1,jg 122 119 2,jf 7 8 120,jf 6 9 121,ja 10 122]
abbrev r43:RC:=jQ QDn (jQ QDo (.seq (jQ QDp (.cond (.t 28) (jD QDq (.ret)) (.skip))) (jQ QDr (.seq (.block 0 (jQ QDs (.cond (.t 38) (jQ QDt (.seq (jQ QDu (.cond (.t 48) (jD QDv (.ret)) (.skip))) (jD QDw (.ret)))) (jQ Qrl (.cond (.t 56) (jQ Qrm (.ret)) (jQ Qrn (.cond (.t 73) (jQ Qro (.ret)) (jQ Qrp (.cond (.t 89) (jD Qrq (.ret)) (jQ Qrr (.cond (.t 101) (jQ Qrs (.ret)) (.skip)))))))))))) (jQ Qrt (.ret))))))
abbrev o43:List RR:=[.cell 8 (some 7),.cell 9 (some 6),.tmp 10]
theorem k43:CT 43 123 r43 o43:=ck Tryz.func43 Tryz.ntmps43 (by decide +kernel)
abbrev Qrv:IL:=[jh 5 5 0,jh 6 6 1,jh 7 7 2,jh 9 9 4,jt 10 10,jy 11 11,jc 12 0]
abbrev Qrw:IL:=[jd 19 6 9,jl 20 124 19,ja 18 20,jg 21 18 0,jg 22 18 1,jg 23 18 2,jy 14 14,ja 13 21,jf 6 14 22,ja 15 23]
abbrev Qrx:IL:=[ja 24 15,js 25 24 0]
abbrev Qry:IL:=[ji 26 0 7 7 7,ji 27 0 9 6 9,ja 28 15,jj 0 10 7 10 26,jj 0 11 6 11 27,ja 12 28]
abbrev Qrz:IL:=[jd 30 6 14,ja 31 13,ju 32 176 30 31,ja 29 32,jg 33 29 0,jg 34 29 1,jy 16 16,jf 6 16 33,ja 15 34]
abbrev QrA:IL:=[ja 35 15,js 36 35 0]
abbrev QrB:IL:=[ji 37 0 7 7 7,ji 38 0 9 6 9,ja 39 15,jj 0 10 7 10 37,jj 0 11 6 11 38,ja 12 39]
abbrev QrC:IL:=[jd 41 6 16,ja 42 3,ju 43 21 41 42,ja 40 43,jg 44 40 0,jg 45 40 1,jf 6 16 44,ja 15 45]
abbrev QrD:IL:=[ja 46 15,js 47 46 0]
abbrev QrE:IL:=[ji 48 0 7 7 7,ji 49 0 9 6 9,ja 50 15,jj 0 10 7 10 48,jj 0 11 6 11 49,ja 12 50]
abbrev LQ:IL:=[jd 52 2 5,jb 53 6 6,je 54 53,jd 55 7 7,jd 56 6 16,⟨some 57,.callR (.f 22) [(.t 52),(.t 54),(.t 55),(.t 56)],none⟩,ja 51 57,jg 58 51 0,jg 59 51 1,jg 60 51 2,jt 17 17,jf 7 17 58,jf 6 16 59,ja 15 60]
abbrev LR:IL:=[ja 61 15,js 62 61 0]
abbrev LS:IL:=[ji 63 0 7 7 7,ji 64 0 9 6 9,ja 65 15,jj 0 10 7 10 63,jj 0 11 6 11 64,ja 12 65]
abbrev LT:IL:=[ji 66 0 17 7 17,ji 67 0 14 6 14,ji 68 0 16 6 16,ju 69 177 67 68,jj 0 10 7 10 66,jj 0 11 6 11 69,jc 12 0]
abbrev QJX:RC:=jQ Qrv (jQ Qrw (.seq (jQ Qrx (.cond (.t 25) (jD Qry (.ret)) (.skip))) (jQ Qrz (.seq (jQ QrA (.cond (.t 36) (jD QrB (.ret)) (.skip))) (jQ QrC (.seq (jQ QrD (.cond (.t 47) (jD QrE (.ret)) (.skip))) (jQ LQ (.seq (jQ LR (.cond (.t 62) (jD LS (.ret)) (.skip))) (jD LT (.ret))))))))))
abbrev QJY:List RR:=[.cell 10 (some 7),.cell 11 (some 6),.tmp 12]
theorem QrF:CT 133 70 QJX QJY:=ck Tryz.func133 Tryz.ntmps133 (by decide +kernel)
abbrev QDx:IL:=[jh 3 3 0,jh 4 4 1,jh 5 5 2,jq 6]
abbrev QDy:IL:=[jb 9 5 4,je 10 9,js 11 10 10]
abbrev QDz:IL:=[jq 6]
abbrev QDA:IL:=[jb 12 0 5,je 13 12,jn 14 13 10]
abbrev QDB:IL:=[jd 15 2 3,jb 16 6 4,je 17 16,jd 18 7 5,yp 19 17 15 17 18,ja 6 19]
abbrev QDC:IL:=[jc 7 0]
abbrev QDD:IL:=[ja 20 7,jb 21 3 5,je 22 21,jp 23 1 22,jv 24 20 23]
abbrev QDE:IL:=[ji 27 0 3 2 3,ji 28 0 4 8 4,jb 29 3 5,yg 30 0 5 29,ja 31 7,jr 32 7 30 31,yn 33 7 32,yp 34 40 27 28 33]
abbrev QDF:IL:=[yi 6]
abbrev QDG:IL:=[ja 25 7,jw 26 25 1,ja 7 26]
abbrev Tw:RC:=.seq (jQ QDD (jX 24 0)) (.seq (.block 1 (jD QDE (.cond (.t 34) (jQ QDF (.ret)) (.skip)))) (.reg QDG))
abbrev QrG:IL:=[jc 8 0]
abbrev QrH:IL:=[ja 35 8,jb 36 4 5,je 37 36,jp 38 1 37,jv 39 35 38]
abbrev QrI:IL:=[ji 42 0 3 2 3,ji 43 0 4 8 4,jb 44 4 5,yg 45 0 5 44,ja 46 8,jr 47 14 45 46,jb 48 7 47,yn 49 7 48,yp 50 40 42 43 49]
abbrev QrJ:IL:=[yi 6]
abbrev QrK:IL:=[ja 40 8,jw 41 40 1,ja 8 41]
abbrev Tx:RC:=.seq (jQ QrH (jX 39 2)) (.seq (.block 3 (jD QrI (.cond (.t 50) (jQ QrJ (.ret)) (.skip)))) (.reg QrK))
abbrev QrL:IL:=[jq 6]
abbrev r40:RC:=jQ QDx (.seq (jQ QDy (.cond (.t 11) (jQ QDz (.ret)) (.skip))) (.seq (jQ QDA (.cond (.t 14) (jQ QDB (.ret)) (.skip))) (.seq (jQ QDC (.block 0 (.loop Tw))) (.seq (jQ QrG (.block 2 (.loop Tx))) (jQ QrL (.ret))))))
abbrev o40:List RR:=[.tmp 6]
theorem k40:CT 40 51 r40 o40:=ck Tryz.func40 Tryz.ntmps40 (by decide +kernel)
abbrev QrN:IL:=[jh 1 1 0,jc 2 0,jy 3 3,jc 4 0]
abbrev QrO:IL:=[jd 9 6 1,jl 10 122 9,ja 8 10,jg 11 8 0,jg 12 8 1,jg 13 8 2,jy 6 6,ja 5 11,jf 6 6 12,ja 7 13]
abbrev QrP:IL:=[ja 14 7,js 15 14 0]
abbrev QrQ:IL:=[ji 16 0 1 6 1,ja 17 7,jc 2 0,jj 0 3 6 3 16,ja 4 17]
abbrev QrR:IL:=[ja 18 5,jd 19 6 6,jl 20 42 19,zp 21 20,yr 22 18 21]
abbrev QrS:IL:=[ji 23 0 1 6 1,jc 2 0,jj 0 3 6 3 23,jc 4 4]
abbrev QrT:IL:=[ja 24 5,yv 25 24,ji 26 0 6 6 6,ja 2 25,jj 0 3 6 3 26,jc 4 0]
abbrev QJZ:RC:=jQ QrN (jQ QrO (.seq (jQ QrP (.cond (.t 15) (jD QrQ (.ret)) (.skip))) (.seq (jQ QrR (.cond (.t 22) (jD QrS (.ret)) (.skip))) (jD QrT (.ret)))))
abbrev QJ0:List RR:=[.tmp 2,.cell 3 (some 6),.tmp 4]
theorem QJ1:CT 124 27 QJZ QJ0:=ck Tryz.func124 Tryz.ntmps124 (by decide +kernel)
abbrev QDH:IL:=[jh 4 4 0,jh 6 6 2,jh 7 7 3,jt 8 8,jy 9 9,jc 10 0]
abbrev QDI:IL:=[jd 14 6 7,jl 15 42 14,zi 16 15 0]
abbrev QDJ:IL:=[ji 18 0 4 2 4,jb 19 0 4,yg 20 0 4 19,ja 21 1,jr 22 3 20 21,yn 23 3 22,ji 24 0 6 7 6,ji 25 0 7 6 7,zb 26 43 18 23 24 25,ja 17 26,jg 27 17 0,jg 28 17 1,jg 29 17 2,jt 11 11,jy 12 12,jj 0 11 7 11 27,jj 0 12 6 12 28,ja 13 29]
abbrev QDK:IL:=[ja 30 13,js 31 30 0]
abbrev QDL:IL:=[ji 32 0 6 7 6,ji 33 0 7 6 7,ja 34 13,jj 0 8 7 8 32,jj 0 9 6 9 33,ja 10 34]
abbrev QDM:IL:=[ji 35 0 11 7 11,ji 36 0 12 6 12,jj 0 6 7 6 35,jj 0 7 6 7 36]
abbrev TA:RC:=.gho (.drop 12) (.gho (.drop 11) (.seq (jQ QDI (jX 16 0)) (.block 1 (jD QDJ (.seq (jQ QDK (.cond (.t 31) (jD QDL (.ret)) (.skip))) (.draw QDM))))))
abbrev QDN:IL:=[ji 37 0 6 7 6,ji 38 0 7 6 7,jj 0 8 7 8 37,jj 0 9 6 9 38,jc 10 0]
abbrev r22:RC:=jQ QDH (.seq (.block 0 (.loop TA)) (jD QDN (.ret)))
abbrev o22:List RR:=[.cell 8 (some 7),.cell 9 (some 6),.tmp 10]
theorem k22:CT 22 39 r22 o22:=ck Tryz.func22 Tryz.ntmps22 (by decide +kernel)
abbrev QDO:IL:=[jh 5 5 0,jh 6 6 1,jh 7 7 2,jh 8 8 3,jh 9 9 4,jt 10 10,jy 11 11,jc 12 0]
abbrev QDP:IL:=[jd 20 7 7,jb 21 0 8,je 22 21,ju 23 39 20 22,ja 19 23,jg 24 19 0,jg 25 19 1,jt 13 13,jf 7 13 24,ja 14 25]
abbrev QDQ:IL:=[NJ 26,jt 15 15,jf 7 15 26,jc 16 1]
abbrev QDR:IL:=[jb 27 3 8,je 28 27,jn 29 28 4,ja 30 29,jk 31 14 30,zt 32 31 30,jm 33 30 32]
abbrev QDS:IL:=[jc 16 2]
abbrev QDT:IL:=[jb 34 3 8,je 35 34,js 36 35 4,ja 37 36,jk 38 14 37,jm 39 37 38]
abbrev QDU:IL:=[jd 40 7 13,jf 7 15 40]
abbrev QDV:IL:=[jd 42 2 5,jd 43 8 8,jd 44 7 15,ja 45 16,jd 46 6 9,zl 47 133 42 43 44 45 46,ja 41 47,jg 48 41 0,jg 49 41 1,jg 50 41 2,jt 17 17,jf 7 17 48,jf 6 9 49,ja 18 50]
abbrev QDW:IL:=[ja 51 18,js 52 51 0]
abbrev QDX:IL:=[ji 53 0 7 7 7,ji 54 0 9 6 9,ja 55 18,jj 0 10 7 10 53,jj 0 11 6 11 54,ja 12 55]
abbrev QrU:IL:=[jb 56 3 8,je 57 56,jn 58 57 4]
abbrev QrV:IL:=[ji 59 0 6 3 6,ji 60 0 7 7 7,ji 61 0 8 8 8,ji 62 0 17 7 17,zb 63 134 59 60 61 62,ji 64 0 9 6 9,jj 0 10 7 10 63,jj 0 11 6 11 64,jc 12 0]
abbrev QrW:IL:=[ji 65 0 6 3 6,ji 66 0 7 7 7,ji 67 0 8 8 8,ji 68 0 17 7 17,zb 69 128 65 66 67 68,ji 70 0 9 6 9,jj 0 10 7 10 69,jj 0 11 6 11 70,jc 12 0]
abbrev r82:RC:=jQ QDO (jQ QDP (jQ QDQ (.seq (jQ QDR (.cond (.t 33) (.reg QDS) (.skip))) (.seq (jQ QDT (.cond (.t 39) (.reg QDU) (.skip))) (jQ QDV (.seq (jQ QDW (.cond (.t 52) (jD QDX (.ret)) (.skip))) (.seq (jQ QrU (.cond (.t 58) (jD QrV (.ret)) (.skip))) (jD QrW (.ret)))))))))
abbrev o82:List RR:=[.cell 10 (some 7),.cell 11 (some 6),.tmp 12]
theorem k82:CT 82 71 r82 o82:=ck Tryz.func82 Tryz.ntmps82 (by decide +kernel)
abbrev QDY:IL:=[jh 5 5 0,jh 6 6 1,jh 7 7 2,jh 8 8 3,jh 9 9 4,jt 10 10,jy 11 11,jc 12 0]
abbrev QDZ:IL:=[jd 21 6 9,jl 22 124 21,ja 20 22,jg 23 20 0,jg 24 20 1,jg 25 20 2,jy 14 14,ja 13 23,jf 6 14 24,ja 15 25]
abbrev QD0:IL:=[ja 26 15,js 27 26 0]
abbrev QD1:IL:=[ji 28 0 7 7 7,ji 29 0 9 6 9,ja 30 15,jj 0 10 7 10 28,jj 0 11 6 11 29,ja 12 30]
abbrev QD2:IL:=[jd 32 6 14,ja 33 13,ju 34 125 32 33,jl 35 130 34,ja 31 35,jg 36 31 0,jg 37 31 1,jg 38 31 2,jy 17 17,ja 16 36,jf 6 17 37,ja 15 38]
abbrev QD3:IL:=[ja 39 15,js 40 39 0]
abbrev QD4:IL:=[ji 41 0 7 7 7,ji 42 0 9 6 9,ja 43 15,jj 0 10 7 10 41,jj 0 11 6 11 42,ja 12 43]
abbrev QD5:IL:=[ja 44 16,yv 45 44,jd 46 8 8,jl 47 81 46,yx 48 45 47]
abbrev QD6:IL:=[ji 49 0 7 7 7,ji 50 0 9 6 9,jj 0 10 7 10 49,jj 0 11 6 11 50,jc 12 13]
abbrev QD7:IL:=[jd 52 7 7,jb 53 0 8,je 54 53,ju 55 39 52 54,ja 51 55,jg 56 51 0,jg 57 51 1,jt 18 18,jf 7 18 56,ja 19 57]
abbrev QrX:IL:=[ja 58 19,yd 59 58]
abbrev QrY:IL:=[jd 61 6 17,zj 62 21 61 1,ja 60 62,jg 63 60 0,jg 64 60 1,jf 6 17 63,ja 15 64]
abbrev QrZ:IL:=[ja 65 15,js 66 65 0]
abbrev Qr0:IL:=[ji 67 0 7 7 7,ji 68 0 9 6 9,ja 69 15,jj 0 10 7 10 67,jj 0 11 6 11 68,ja 12 69]
abbrev Qr1:IL:=[jd 70 3 6,jd 71 7 7,jd 72 8 8,⟨some 73,.val (.build [.int .i64 0,.int .u64 0,.str [],.nils,.nils,.nils,.nils] [(0,1,(.c (.int .i64 11)))]),none⟩,zb 74 128 70 71 72 73,jf 7 7 74]
abbrev Qr2:IL:=[jd 75 6 17,jl 76 42 75,zi 77 76 0]
abbrev Qr3:IL:=[jd 79 2 5,jd 80 3 6,jd 81 7 7,jd 82 8 8,jd 83 6 17,zl 84 83 79 80 81 82 83,ja 78 84,jg 85 78 0,jg 86 78 1,jg 87 78 2,jf 7 7 85,jf 6 17 86,ja 15 87]
abbrev Qr4:IL:=[ja 88 15,js 89 88 0]
abbrev Qr5:IL:=[ji 90 0 7 7 7,ji 91 0 9 6 9,ja 92 15,jj 0 10 7 10 90,jj 0 11 6 11 91,ja 12 92]
abbrev TB:RC:=.seq (jQ Qr2 (jX 77 0)) (.block 1 (jQ Qr3 (jQ Qr4 (.cond (.t 89) (jD Qr5 (.ret)) (.skip)))))
abbrev Qr6:IL:=[ji 93 0 7 7 7,ji 94 0 14 6 14,ji 95 0 17 6 17,ju 96 129 94 95,jj 0 10 7 10 93,jj 0 11 6 11 96,jc 12 0]
abbrev r80:RC:=jQ QDY (jQ QDZ (.seq (jQ QD0 (.cond (.t 27) (jD QD1 (.ret)) (.skip))) (jQ QD2 (.seq (jQ QD3 (.cond (.t 40) (jD QD4 (.ret)) (.skip))) (.seq (jQ QD5 (.cond (.t 48) (jD QD6 (.ret)) (.skip))) (.seq (jQ QD7 (jQ QrX (.cond (.t 59) (jQ QrY (.seq (jQ QrZ (.cond (.t 66) (jD Qr0 (.ret)) (.skip))) (.reg Qr1))) (.skip)))) (.seq (.block 0 (.loop TB)) (jD Qr6 (.ret)))))))))
abbrev o80:List RR:=[.cell 10 (some 7),.cell 11 (some 6),.tmp 12]
theorem k80:CT 80 97 r80 o80:=ck Tryz.func80 Tryz.ntmps80 (by decide +kernel)
abbrev Qr7:IL:=[jh 2 2 0,jy 4 4]
abbrev Qr8:IL:=[jb 5 1 2,je 6 5,ja 7 1,yk 8 6 7,jb 9 2 2,jf 1 9 8]
abbrev Qr9:IL:=[jd 10 6 2,jf 6 4 10]
abbrev QJ2:RC:=jQ Qr7 (jQ Qr8 (jQ Qr9 (.ret)))
abbrev QJ3:List RR:=[.cell 4 (some 6)]
theorem QJ4:CT 125 11 QJ2 QJ3:=ck Tryz.func125 Tryz.ntmps125 (by decide +kernel)
abbrev Qsa:IL:=[jh 4 4 0,jh 5 5 1,jh 6 6 2,jh 7 7 3,jt 8 8]
abbrev Qsb:IL:=[jb 13 6 5,je 14 13,⟨some 15,.val (.build [.int .i64 0,.int .u64 0,.str [],.nils,.nils,.nils,.nils] [(0,1,(.c (.int .i64 10))),(6,1,(.t 14))]),none⟩,jt 9 9,jf 7 9 15]
abbrev Qsc:IL:=[jc 10 0]
abbrev Qsd:IL:=[ja 16 10,jb 17 5 5,je 18 17,jp 19 1 18,jv 20 16 19]
abbrev Qse:IL:=[ji 24 0 4 3 4,jb 25 5 5,yg 26 0 5 25,ja 27 10,jr 28 8 26 27,jb 29 0 28,M4 30 29,ju 31 75 24 30,ja 23 31,jg 32 23 0,jg 33 23 1,zd 11 11,jj 0 11 8 11 32,ja 12 33]
abbrev Qsf:IL:=[jb 34 5 5,yg 35 0 5 34,ja 36 10,jr 37 8 35 36,jb 38 0 37,M4 39 38,jb 40 0 6,yg 41 0 6 40,yx 42 39 41,ja 43 42,jo 44 7 6 43,zk 45 0 6 44 43,yo 46 45 (-1) 43,jk 47 46 43,jz 48 7 11 47,zu 49 0 11 48 47,jz 50 7 6 47,zu 51 0 6 50 47,NR 52 49 51 47,zf 53 47 52 43,jm 54 43 53]
abbrev Qsg:IL:=[jb 55 5 9,yg 56 0 9 55,jb 57 5 5,yg 58 0 5 57,ja 59 10,jr 60 8 58 59,yn 61 8 60,FY 62 8 1 0 8 61,yj 63 8 136 56 56 62,jb 64 5 9,jj 0 9 1 64 63]
abbrev Qsh:IL:=[ja 21 10,jw 22 21 1,ja 10 22]
abbrev Qsi:RC:=.gho (.drop 11) (.seq (jQ Qsd (jX 20 0)) (.seq (.block 1 (jD Qse (jD Qsf (.cond (.t 54) (.draw Qsg) (.skip))))) (.reg Qsh)))
abbrev Qsj:IL:=[jb 65 5 9,je 66 65,jb 67 0 6,je 68 67,jd 69 7 7,⟨some 70,.val (.build [.int .i64 0,.int .i64 0,.int .u64 0,.str [],.nils,.nils,.nils,.nils] [(0,1,(.t 68)),(1,7,(.t 69))]),none⟩,FY 71 8 1 0 8 70,yj 72 8 136 56 66 71,jb 73 5 9,jf 1 73 72]
abbrev Qsk:IL:=[jd 74 7 9,jf 7 8 74]
abbrev QJ5:RC:=jQ Qsa (jQ Qsb (.gho (.vecc 9 5 1100 8) (.seq (jQ Qsc (.block 0 (.loop Qsi))) (jQ Qsj (jQ Qsk (.ret))))))
abbrev QJ6:List RR:=[.cell 8 (some 7)]
theorem QJ7:CT 128 75 QJ5 QJ6:=ck Tryz.func128 Tryz.ntmps128 (by decide +kernel)
abbrev QD8:IL:=[jh 5 5 0,jh 6 6 1,jh 7 7 2,jh 8 8 3,jh 9 9 4,jt 10 10,jy 11 11,jc 12 0]
abbrev QD9:IL:=[jd 19 6 9,zj 20 21 19 1,ja 18 20,jg 21 18 0,jg 22 18 1,jf 6 9 21,ja 13 22]
abbrev QEa:IL:=[ja 23 13,js 24 23 0]
abbrev QEb:IL:=[ji 25 0 7 7 7,ji 26 0 9 6 9,ja 27 13,jj 0 10 7 10 25,jj 0 11 6 11 26,ja 12 27]
abbrev QEc:IL:=[ji 29 0 8 8 8,jl 30 81 29,ji 31 0 9 6 9,ju 32 135 30 31,ja 28 32,jg 33 28 0,jg 34 28 1,jg 35 28 2,ze 14 14,jj 0 14 4 14 33,jj 0 9 6 9 34,ja 13 35]
abbrev QEd:IL:=[ja 36 13,js 37 36 0]
abbrev QEe:IL:=[ji 38 0 7 7 7,ji 39 0 9 6 9,ja 40 13,jj 0 10 7 10 38,jj 0 11 6 11 39,ja 12 40]
abbrev QEf:IL:=[jd 42 2 5,jd 43 8 8,jd 44 4 14,yp 45 136 42 43 44,ja 41 45,jg 46 41 0,jg 47 41 1,jt 15 15,jf 7 15 46,ja 13 47]
abbrev QEg:IL:=[ja 48 13,jn 49 48 16]
abbrev QEh:IL:=[ji 50 0 7 7 7,jb 51 0 8,yg 52 0 8 51,jb 53 2 14,yg 54 0 14 53,⟨some 55,.val (.build [.int .i64 0,.int .i64 0,.int .u64 0,.str []] [(0,1,(.t 52)),(1,1,(.c (.int .i64 0))),(2,1,(.t 54))]),none⟩,ju 56 77 50 55,ji 57 0 9 6 9,jj 0 10 7 10 56,jj 0 11 6 11 57,jc 12 0]
abbrev Qsl:IL:=[ja 58 13,js 59 58 0]
abbrev Qsm:IL:=[ji 60 0 7 7 7,ji 61 0 9 6 9,ja 62 13,jj 0 10 7 10 60,jj 0 11 6 11 61,ja 12 62]
abbrev Qsn:IL:=[jb 63 3 8,je 64 63,js 65 64 4]
abbrev Qso:IL:=[ji 66 0 6 3 6,ji 67 0 7 7 7,ji 68 0 8 8 8,ji 69 0 15 7 15,zb 70 128 66 67 68 69,ji 71 0 9 6 9,jj 0 10 7 10 70,jj 0 11 6 11 71,jc 12 0]
abbrev Qsp:IL:=[jd 73 7 7,jb 74 0 8,je 75 74,ju 76 39 73 75,ja 72 76,jg 77 72 0,jg 78 72 1,jt 16 16,jf 7 16 77,ja 17 78]
abbrev Qsq:IL:=[ja 79 17,yd 80 79]
abbrev Qsr:IL:=[jd 82 6 9,zj 83 21 82 1,ja 81 83,jg 84 81 0,jg 85 81 1,jf 6 9 84,ja 13 85]
abbrev Qss:IL:=[ja 86 13,js 87 86 0]
abbrev Qst:IL:=[ji 88 0 7 7 7,ji 89 0 9 6 9,ja 90 13,jj 0 10 7 10 88,jj 0 11 6 11 89,ja 12 90]
abbrev Qsu:IL:=[ji 91 0 6 3 6,ji 92 0 7 7 7,ji 93 0 8 8 8,ji 94 0 15 7 15,zb 95 134 91 92 93 94,ji 96 0 9 6 9,jj 0 10 7 10 95,jj 0 11 6 11 96,jc 12 0]
abbrev r83:RC:=jQ QD8 (jQ QD9 (.seq (jQ QEa (.cond (.t 24) (jD QEb (.ret)) (.skip))) (jD QEc (.seq (jQ QEd (.cond (.t 37) (jD QEe (.ret)) (.skip))) (jQ QEf (.seq (jQ QEg (.cond (.t 49) (jD QEh (.ret)) (.skip))) (.seq (jQ Qsl (.cond (.t 59) (jD Qsm (.ret)) (.skip))) (.seq (jQ Qsn (.cond (.t 65) (jD Qso (.ret)) (.skip))) (.seq (jQ Qsp (jQ Qsq (.cond (.t 80) (jQ Qsr (jQ Qss (.cond (.t 87) (jD Qst (.ret)) (.skip)))) (.skip)))) (jD Qsu (.ret)))))))))))
abbrev o83:List RR:=[.cell 10 (some 7),.cell 11 (some 6),.tmp 12]
theorem k83:CT 83 97 r83 o83:=ck Tryz.func83 Tryz.ntmps83 (by decide +kernel)
abbrev Qsw:IL:=[jh 1 1 0,zd 2 2]
abbrev Qsx:IL:=[jb 3 3 1,⟨none,.store 1 (.t 3) (.c (.int .i64 2)),none⟩]
abbrev Qsy:IL:=[jd 4 8 1,jf 8 2 4]
abbrev QJ8:RC:=jQ Qsw (jQ Qsx (jQ Qsy (.ret)))
abbrev QJ9:List RR:=[.cell 2 (some 8)]
theorem QKa:CT 132 5 QJ8 QJ9:=ck Tryz.func132 Tryz.ntmps132 (by decide +kernel)
abbrev Qsz:IL:=[jh 4 4 0,jh 5 5 1,jh 6 6 2,jh 7 7 3,jt 8 8]
abbrev QsA:IL:=[jd 12 7 5,jb 13 0 6,je 14 13,ju 15 39 12 14,ja 11 15,jg 16 11 0,jg 17 11 1,jt 9 9,jf 7 9 16,ja 10 17]
abbrev QsB:IL:=[ji 18 0 4 3 4,ji 19 0 5 7 5,ji 20 0 6 8 6,zx 21 21 7,⟨some 22,.val (.faddv 3 (.t 9)),none⟩,yg 23 0 9 22,yj 24 7 128 35 21 23,ji 25 0 7 7 7,NS 26 7 1 0 7 25,⟨some 27,.appl 7 128 35 (.t 24) (.t 26),none⟩,⟨some 28,.val (.build [.int .i64 0,.int .u64 0,.str [],.nils,.nils,.nils,.nils] [(0,1,(.c (.int .i64 11))),(3,1,(.t 27))]),none⟩,zb 29 128 18 19 20 28,jj 0 8 7 8 29]
abbrev QKb:RC:=jQ Qsz (jQ QsA (jD QsB (.ret)))
abbrev QKc:List RR:=[.cell 8 (some 7)]
theorem QKd:CT 134 30 QKb QKc:=ck Tryz.func134 Tryz.ntmps134 (by decide +kernel)
end Go.Proofs.YtfgchfdkiomfpaaGreat.Rc

namespace Go.Proofs.YtfgchfdkiomfpaaGreat.Bt
open Go

theorem XY (n:Int):IntKind.u64.wrap n=n % 18446744073709551616:=by simp[IntKind.wrap,IntKind.bits,IntKind.signed]
theorem QB (n:Int):IntKind.i64.wrap n=(n+9223372036854775808) % 18446744073709551616-9223372036854775808:=IntKind.wrap_i64 n

theorem Yg {n:Nat}(h:n<18446744073709551616):(BitVec.ofInt 64 (n:Int)).toNat=n:=by
 simp;omega

theorem Dp (a b:Nat)(ha:a<18446744073709551616)(hb:b<18446744073709551616):bits .and .u64 (a:Int) (b:Int)=((a &&& b:Nat):Int):=by
 have hx:a &&& b<2 ^ 64:=Nat.and_lt_two_pow _ (by omega);show IntKind.u64.wrap ((BitVec.ofInt 64 (a:Int) &&& BitVec.ofInt 64 (b:Int)).toNat:Int)=_;rw[BitVec.toNat_and,Yg ha,Yg hb,XY];omega
theorem Pk (a b:Nat)(ha:a<18446744073709551616)(hb:b<18446744073709551616):bits .or .u64 (a:Int) (b:Int)=((a ||| b:Nat):Int):=by
 have hx:a ||| b<2 ^ 64:=Nat.or_lt_two_pow (by omega) (by omega)
 show IntKind.u64.wrap ((BitVec.ofInt 64 (a:Int) ||| BitVec.ofInt 64 (b:Int)).toNat:Int)=_;rw[BitVec.toNat_or,Yg ha,Yg hb,XY];omega

theorem Bc (a:Nat)(ha:a<18446744073709551616):a ^^^ 18446744073709551615=18446744073709551615-a:=by
 have h1:(BitVec.ofNat 64 a ^^^ BitVec.allOnes 64).toNat=a ^^^ 18446744073709551615:=by
  rw[BitVec.toNat_xor,BitVec.toNat_ofNat,BitVec.toNat_allOnes,QQ0 (by omega)]
 rw[←h1,BitVec.xor_allOnes,BitVec.toNat_not,BitVec.toNat_ofNat,QQ0 (by omega)]

theorem Np (a:Int)(h0:0≤a)(h1:a<18446744073709551616):bits .and .u64 a 1=a % 2:=by
 obtain⟨n,rfl⟩:=QRh h0;have:=Dp n 1 (by omega) (by omega);rw[Nat.and_one_is_mod]at this;rw[show((1:Nat):Int)=1 from rfl]at this;rw[this];omega
theorem Bd (a:Int)(h0 : -9223372036854775808≤a)(h1:a<9223372036854775808):bits .xor .i64 a 0=a:=by
 show IntKind.i64.wrap ((BitVec.ofInt 64 a ^^^ BitVec.ofInt 64 0).toNat:Int)=_;rw[BitVec.toNat_xor,show(BitVec.ofInt 64 0).toNat=0 from rfl,Nat.xor_zero,BitVec.toNat_ofInt,QB];omega
theorem Be (a:Int)(h0 : -9223372036854775808≤a)(h1:a<9223372036854775808):bits .xor .i64 a (-1) = -1-a:=by
 show IntKind.i64.wrap ((BitVec.ofInt 64 a ^^^ BitVec.ofInt 64 (-1)).toNat:Int)=_;rw[BitVec.toNat_xor,show(BitVec.ofInt 64 (-1)).toNat=18446744073709551615 from rfl,BitVec.toNat_ofInt,Bc _ (by omega),QB];omega

end Go.Proofs.YtfgchfdkiomfpaaGreat.Bt

set_option linter.unusedSimpArgs false
namespace Go.Proofs.YtfgchfdkiomfpaaGreat.Va
open Go Am Rc Bt

def RB (v:AV):Prop:=∃b,v=.bool b
theorem rb (b:Bool):RB (.bool b)=True:=eq_true ⟨b,rfl⟩
theorem RB.rf {v:AV}{l:List AV}(h:RB v):v.rf=true∧(AV.rfL l=true∨v.nl=true):=by
 obtain⟨b,rfl⟩:=h;exact⟨rfl,.inr rfl⟩

def isk (k:Int):Bool:=decide (k≥1)&&decide (k≤9)
def XZ (k:Int):Bool:=k==7||k==8
def wk (k:Int):Int:=if k=1∨k=4∨k=5∨k=9 then 0 else if k=2∨k=3 then 1 else if k=6 then 2 else if k=7∨k=8 then 3 else if k=10 then 4 else -1

theorem Dq (k:Int):Qh Tryz.prog 118 [.int .i64 k] (.bool (isk k)):=by
 refine QH3.fn (by simp) ?_;simp only[isk,Qb,seval];cases h:decide (k≥1)<;>simp only[QRf,QQ5,Qb,seval]

theorem Bf (k:Int):Qh Tryz.prog 163 [.int .i64 k] (.bool (isk k)):=by
 refine Qft.fn (by simp) ?_;simp only[isk,Qb,seval];cases h:decide (k≥1)<;>simp only[QRf,QQ5,Qb,seval]

theorem Wo (k:Int):Qh Tryz.prog 119 [.int .i64 k] (.bool (XZ k)):=by
 refine QH9.fn (by simp) ?_;simp only[XZ,Qb,seval];cases h:(k==7)<;>simp only[QRi,QRj,Qb,seval]

theorem QsC (k:Int):Qh Tryz.prog 202 [.int .i64 k] (.bool (XZ k)):=by
 refine Qgh.fn (by simp) ?_;simp only[XZ,Qb,seval];cases h:(k==7)<;>simp only[QRi,QRj,Qb,seval]

def oc (n:Int)(s a:List UInt8)(c k kd t u:Int):AV:=.agg [.int .i64 n,.str s,.str a,.int .i64 c,.int .i64 k,.int .i64 kd,.int .i64 t,.int .i64 u]

def pk (c kd:Int):Bool:=c==4&&((decide (kd≥1)&&decide (kd≤6))||kd==9)
def Ho (c kd:Int):Int:=if c=5 then 6 else if pk c kd=true then 5 else wk kd

section
variable (n:Int)(s a:List UInt8)(c k kd t u:Int)

theorem y91:Qh Tryz.prog 91 [oc n s a c k kd t u] (.bool (pk c kd)):=by
 refine k91.fn (by simp) ?_;simp only[oc,pk,eE,seval];cases h0:(c==4)<;>cases h1:decide (kd≥1)<;>cases h2:decide (kd≤6)<;>simp only[h1,h2,QRf,QQ5,QRi,QRj,eE,seval]

theorem y79:Qh Tryz.prog 79 [oc n s a c k kd t u] (.bool (pk c kd)):=by
 refine k79.fn (by simp) ?_;simp only[oc,pk,eE,seval];cases h0:(c==4)<;>cases h1:decide (kd≥1)<;>cases h2:decide (kd≤6)<;>simp only[h1,h2,QRf,QQ5,QRi,QRj,eE,seval]

theorem QKe:Qh Tryz.prog 148 [oc n s a c k kd t u] (.int .i64 (Ho c kd)):=by
 have hP:=y91 n s a c k kd t u;simp only[oc]at hP;refine Qee.fn (by simp) ?_;simp only[oc,eE,seval];by_cases hc:c=5
 ·have b0:(c==5)=true:=by simp[hc]
  simp only[b0,Ho,QP5 hc,Qb,seval]
 ·have b0:(c==5)=false:=by simp[hc]
  simp only[b0,Ho,QPO hc,eE,seval];refine Qa hP rfl rfl rfl (.inl rfl) ?_;cases pk c kd
  ·simp only[QPT,eE,seval]
   repeat' (first|(refine QK (fun h=>?_) (fun h=>?_)<;>simp only[h,Qb,seval])|(refine Xo (fun h=>?_) (fun h=>?_)<;>simp only[h,Qk,eE,seval])|(refine Xp (fun h=>?_) (fun h=>?_)<;>simp only[h,Qk,eE,seval]))
   all_goals((try simp only[QP1,QRk,ne_eq]at *)<;>unfold wk<;>(repeat' split)<;>first|rfl|(exfalso;omega))
  ·simp only[Qb,seval]

theorem QKf:Qh Tryz.prog 131 [oc n s a c k kd t u] (.int .i64 (Ho c kd)):=by
 have hP:=y79 n s a c k kd t u;simp only[oc]at hP;refine QJD.fn (by simp) ?_;simp only[oc,eE,seval];by_cases hc:c=5
 ·have b0:(c==5)=true:=by simp[hc]
  simp only[b0,Ho,QP5 hc,Qb,seval]
 ·have b0:(c==5)=false:=by simp[hc]
  simp only[b0,Ho,QPO hc,eE,seval];refine Qa hP rfl rfl rfl (.inl rfl) ?_;cases pk c kd
  ·simp only[QPT,eE,seval]
   repeat' (first|(refine QK (fun h=>?_) (fun h=>?_)<;>simp only[h,Qb,seval])|(refine Xo (fun h=>?_) (fun h=>?_)<;>simp only[h,Qk,eE,seval])|(refine Xp (fun h=>?_) (fun h=>?_)<;>simp only[h,Qk,eE,seval]))
   all_goals((try simp only[QP1,QRk,ne_eq]at *)<;>unfold wk<;>(repeat' split)<;>first|rfl|(exfalso;omega))
  ·simp only[Qb,seval]

end

theorem Qw (i:Nat)(n:Nat)(h:i<n)(hn:n≤maxLen):IntKind.i64.wrap ((i:Int)+1)=((i+1:Nat):Int):=by
 simp only[maxLen]at hn;rw[QB];omega

theorem Qr {i n:Nat}(h:i<n):decide ((i:Int)<(n:Int))=true:=by simp;omega
theorem QO {i n:Nat}(h:¬i<n):decide ((i:Int)<(n:Int))=false:=by simp;omega
theorem Qm (i:Nat):(0≤(i:Int))=True:=by simp

end Go.Proofs.YtfgchfdkiomfpaaGreat.Va

namespace Go.Proofs.YtfgchfdkiomfpaaGreat.Br
open Go Am Go.RowKit Go.WideShapes Go.ChangeShapes Go.ChangeAt Go.Joins Go.Deep Go.WideElems Go.Maps

section
variable {H:Type}{enc:TypeId×Value→H}{P:Program}{W:World}{base:Nat}{sp:Nat→Bool}{held:Bool}

theorem RG {r:Reach}{b0:Nat}{t ti:TypeId}{f0 f1 f2 f3:Field}{v:Value}{d:DataW H}{p:List MemPlace}(hs:P.underlying t=some (.struct #[f0,f1,f2,f3]))(hone:oneCellFields P #[f0,f1,f2,f3]=true)(hC:P.cellsOf t=4)
  (hti:P.underlying ti=some (.int .i64)) (hf:f0.type=ti∧f1.type=ti∧f2.type=ti∧f3.type=ti)
  (hv:Value.okWide P W r b0 t v) (h:DataW.Trod enc P W base sp held t v d p) :
  ∃(a b c e:Int),v=.agg #[.int .i64 a,.int .i64 b,.int .i64 c,.int .i64 e]∧d=.agg [.lit (.int .i64 a),.lit (.int .i64 b),.lit (.int .i64 c),.lit (.int .i64 e)]∧p=[]∧
   (Lit.int .i64 a).wf=true∧(Lit.int .i64 b).wf=true∧(Lit.int .i64 c).wf=true∧(Lit.int .i64 e).wf=true:=by
 obtain⟨v0,v1,v2,v3,y0,y1,y2,y3,n,rfl,rfl,rfl,h0,h1,h2,h3⟩:=open_agg4 hs hone hC hv h;obtain⟨t0,t1,t2,t3⟩:=hf;rw[t0]at h0;rw[t1]at h1;rw[t2]at h2;rw[t3]at h3;obtain⟨a,e0,rfl,w0⟩:=DataW.trod_int hti h0;obtain⟨b,e1,rfl,w1⟩:=DataW.trod_int hti h1;obtain⟨c,e2,rfl,w2⟩:=DataW.trod_int hti h2;obtain⟨e,e3,rfl,w3⟩:=DataW.trod_int hti h3;simp at e0 e1 e2 e3;subst e0 e1 e2 e3;exact⟨a,b,c,e,rfl,rfl,rfl,w0,w1,w2,w3⟩

theorem RH {t ti:TypeId}{f0 f1 f2 f3:Field}(hs:P.underlying t=some (.struct #[f0,f1,f2,f3]))(hone:oneCellFields P #[f0,f1,f2,f3]=true)(hC:P.cellsOf t=4)
  (hti:P.underlying ti=some (.int .i64)) (hf:f0.type=ti∧f1.type=ti∧f2.type=ti∧f3.type=ti) {a b c e:Int} (w1:(Lit.int .i64 a).wf=true) (w2:(Lit.int .i64 b).wf=true) (w3:(Lit.int .i64 c).wf=true) (w4:(Lit.int .i64 e).wf=true) :
  DataW.Trod enc P W base sp held t (.agg #[.int .i64 a,.int .i64 b,.int .i64 c,.int .i64 e]) (.agg [.lit (.int .i64 a),.lit (.int .i64 b),.lit (.int .i64 c),.lit (.int .i64 e)]) []:=by
 have hint:∀n:Int,(Lit.int .i64 n).wf=true→∃m,DataW.trod enc P W base sp held m ti [.int .i64 n]=some (.lit (.int .i64 n),[]):=fun n hn=>⟨1,by simp[DataW.trod,hti,hn]⟩
 obtain⟨t0,t1,t2,t3⟩:=hf;have:=shut_agg4 (enc:=enc) (w:=W) (base:=base) (spare:=sp) (held:=held) (y0:=(.lit (.int .i64 a),[])) (y1:=(.lit (.int .i64 b),[])) (y2:=(.lit (.int .i64 c),[])) (y3:=(.lit (.int .i64 e),[])) hs hone hC
  (by rw[t0];exact hint _ w1) (by rw[t1];exact hint _ w2) (by rw[t2];exact hint _ w3) (by rw[t3];exact hint _ w4)
 simpa using this

theorem LU {G:Gh}(a b c e:Int):Rep G (.agg [.int .i64 a,.int .i64 b,.int .i64 c,.int .i64 e]) (.agg #[.int .i64 a,.int .i64 b,.int .i64 c,.int .i64 e]) :=
 .agg (.cons (.int _ _) (.cons (.int _ _) (.cons (.int _ _) (.cons (.int _ _) .nil))))

end

theorem Hp {X α:Type}{f:X→List α}{sz:Nat}(hsz:0<sz)(hf:∀x,(f x).length=sz):∀(xs:List X) (j:Nat),(xs.flatMap f)[j]? = (xs[j / sz]?).bind fun x=>(f x)[j % sz]?
 | [],j=>by simp
 |x :: xs,j=>by
  rw[QQ4];by_cases hj:j<sz
  ·rw[QQZ (by rw[hf];exact hj),Nat.div_eq_of_lt hj,QQ0 hj];rfl
  ·obtain⟨i,rfl⟩:∃i,j=sz+i:=⟨j-sz,by omega⟩;rw[QQ1 (by rw[hf];omega),hf,Hp hsz hf xs,show sz+i-sz=i by omega,show(sz+i) / sz=i / sz+1 by rw[Nat.add_div_left _ hsz],Nat.add_mod_left];rfl

section
variable {H:Type}{enc:TypeId×Value→H}{P:Program}{W:World}

structure El (enc:TypeId×Value→H)(P:Program)(e:TypeId)(sz:Nat)(X:Type) where
 av:X→AV
 vals:X→List Value
 Wf:X→DataW H
 ok:X→Prop
 pos:0<sz
 len:∀x,(vals x).length=sz
 cells:∀x,(av x).cells.length=sz
 rfl':∀x,AV.rfL (av x).cells=true
 leaf:∀x,(av x).cells.all AV.leaf=true
 rep:∀(G:Gh) x,RepL G (av x).cells (vals x)
 opened:∀ {W:World} {n:Nat} {cs:List Value} {d:DataW H} {pl:List MemPlace},cs.length=sz→DataW.trod enc P W 0 (fun _=>true) true n e cs=some (d,pl)→∃x,ok x∧cs=vals x∧d=Wf x∧pl=[]
 shut:∀(W:World) (sp:Nat→Bool) x,ok x→∃n,DataW.trod enc P W 0 sp true n e (vals x)=some (Wf x,[])

end

def ZN:List AV→AV
 | [x]=>x
 |l=>.agg l

def Gw (P:Program):Nat→List Field→Nat→Bool
 |o,[],n=>Nat.beq o n
 |o,f :: fs,n=>Nat.beq f.offset o&&Gw P (o+P.cellsOf f.type) fs n

def Pl (P:Program)(ts:List TypeId)(t:TypeId):Bool :=
 match P.underlying t with
 |some (.int _)|some .bool|some .string=>P.cellsOf t==1
 |some (.struct fs)=>Gw P 0 fs.toList (P.cellsOf t)&&fs.toList.all fun f=>ts.contains f.type
 |some (.slice e)=>P.cellsOf t==1&&(decide (0<P.cellsOf e)&&decide (0<P.bytesOf e))&&ts.contains e
 |_=>false
def Pm (P:Program)(ts:List TypeId):Bool:=ts.all (Pl P ts)

def XB (P:Program)(M:Nat):Nat→TypeId→List AV→Prop
 |0,_,_=>False
 |k+1,t,cs=>match P.underlying t with
  |some (.int ik)=>∃n,cs=[.int ik n]∧(Lit.int ik n).wf=true
  |some .bool=>∃b,cs=[.bool b]
  |some .string=>∃s,cs=[.str s]∧s.length≤M
  |some (.struct fs)=>HasL (XB P M k) fs.toList cs
  |some (.slice e)=>∃l:List (List AV),cs=[.list (l.map ZN)]∧(l.length≤maxLen∧(M=reachBytes→l.length*P.bytesOf e≤M))∧(∀c∈l,XB P M k e c)∧l.length≤M
  |_=>False
where
 HasL (h:TypeId→List AV→Prop):List Field→List AV→Prop
  | [],cs=>cs=[]
  |f :: fs,cs=>∃a b,cs=a++b∧h f.type a∧HasL h fs b

theorem Hq {l:List AV}(h:l.all AV.leaf=true):(ZN l).cells=l:=by
 match l,h with
 | [],_=>rfl
 | [x],h=>cases x<;>first|rfl|simp[AV.leaf]at h
 |_ :: _ :: _,_=>rfl

mutual
def wt:AV→Nat
 |.list l=>1+J5 l
 |.agg l=>J5 l
 |_=>1
def J5:List AV→Nat
 | []=>0
 |x :: l=>wt x+J5 l
end
theorem N6 (a b:List AV):J5 (a++b)=J5 a+J5 b:=by
 induction a with
 |nil=>simp[J5]
 |cons x a ih=>simp only[QPW,J5,ih];omega
theorem RI:∀l:List AV,wt (ZN l)=J5 l
 | []=>by simp[ZN,wt]
 | [x]=>by simp[ZN,J5]
 |_ :: _ :: _=>by simp[ZN,wt]

theorem UA {G:Gh}:∀ {ls:List (List AV)} {cs:List (List Value)},ls.length=cs.length→(∀i (h1:i<ls.length) (h2:i<cs.length),RepL G ls[i] cs[i])→RepL G ls.flatten cs.flatten
 | [],[],_,_=>.nil
 |l :: ls,c :: cs,hn,h=>by
  rw[List.flatten_cons,List.flatten_cons];exact RepL.append (h 0 (by simp) (by simp)) (UA (by simpa using hn) fun i h1 h2=>h (i+1) (by simpa using h1) (by simpa using h2))
 | [],_ :: _,hn,_=>by simp at hn
 |_ :: _,[],hn,_=>by simp at hn

section
variable {H:Type}{enc:TypeId×Value→H}{P:Program}{W:World}{M:Nat}

theorem HI {d:DataW H}:∀ {l:List (DataW H)},d∈l→Rows.uptoBulk d≤Rows.uptoBulkAll l
 | [],h=>by cases h
 |x :: l,h=>by
  rw[Rows.uptoBulkAll];rcases QQV.1 h with rfl|h
  ·omega
  ·have:=HI h;omega

theorem RJ (d:DataW H):1≤Rows.uptoBulk d:=by unfold Rows.uptoBulk;split<;>omega
theorem Gx {x:AV}(h:wt x=1)(d:DataW H):J5 [x]≤Rows.uptoBulk d:=by
 have:=RJ d;rw[J5,J5,h];exact this
theorem RK (a b:List (DataW H)):Rows.uptoBulkAll (a++b)=Rows.uptoBulkAll a+Rows.uptoBulkAll b:=by
 induction a with
 |nil=>simp[Rows.uptoBulkAll]
 |cons x a ih=>simp only[QPW,Rows.uptoBulkAll,ih];omega
theorem Bg (F:Nat→List AV)(xs:List (DataW H))(h:∀i d,xs[i]? = some d→J5 (F i)≤Rows.uptoBulk d):∀n,n≤xs.length→J5 (((List.range n).map F).map ZN)≤Rows.uptoBulkAll (xs.take n)
 |0,_=>QPJ _
 |n+1,hn=>by
  have hx:xs[n]? = some xs[n]:=QPE (by omega);have:=Bg F xs h n (by omega);have h1:=h n _ hx;rw[List.range_succ,QRl,QRl,N6,QRm,hx,RK];simp only[QP8,QQB,J5,RI,Option.toList_some,Rows.uptoBulkAll];omega

def TC (P:Program)(M:Nat)(t:TypeId)(d:DataW H):Prop:=M=maxLen∨(M≠reachBytes∧Rows.uptoBulk d≤M)∨(d.weights P t).all (·≤M)=true

theorem Gy {t:TypeId}{d:DataW H}:∀ {ts:List TypeId} {ds:List (DataW H)} (i:Nat),(DataW.weightsEach P ts ds).all (·≤M)=true→ts[i]? = some t→ds[i]? = some d→(d.weights P t).all (·≤M)=true
 | [],_,_,_,h,_=>by simp at h
 |_ :: _,[],_,_,_,h=>by simp at h
 |t' :: ts,d' :: ds,0,h,h1,h2=>by
  rw[DataW.weightsEach,QQR,QPY]at h;cases h1;cases h2;exact h.1
 |t' :: ts,d' :: ds,i+1,h,h1,h2=>by
  rw[DataW.weightsEach,QQR,QPY]at h;exact Gy i h.2 (by simpa using h1) (by simpa using h2)

theorem YA {e:TypeId}{d:DataW H}:∀ {ds:List (DataW H)},(DataW.weightsAll P e ds).all (·≤M)=true→d∈ds→(d.weights P e).all (·≤M)=true
 | [],_,h=>by cases h
 |d' :: ds,h,hd=>by
  rw[DataW.weightsAll,QQR,QPY]at h;rcases QQV.1 hd with rfl|hd
  ·exact h.1
  ·exact YA h.2 hd

def Opn (W:World)(h:List AV→Prop)(B n:Nat)(cs:List Value):Prop :=
 ∃XO,h XO∧RepL (Gh.bare fun b o=>sv W b o) XO cs∧XO.length=n∧AV.rfL XO=true∧XO.all AV.leaf=true∧J5 XO≤B

theorem Hr {h:TypeId→List AV→Prop}{cs:List Value}:∀(fs:List Field) (ds:List (DataW H)) (o:Nat),Gw P o fs cs.length=true→fs.length=ds.length→(∀(i:Nat) (f:Field) (d:DataW H),fs[i]? = some f→ds[i]? = some d→Opn W (h f.type) (Rows.uptoBulk d) (P.cellsOf f.type) ((cs.drop f.offset).take (P.cellsOf f.type)))→
  Opn W (XB.HasL h fs) (Rows.uptoBulkAll ds) (cs.length-o) (cs.drop o)
 | [],_,o,hc,_,_=>by
  have e:o=cs.length:=QPz hc;refine⟨[],rfl,?_,by simp[e],rfl,rfl,QPJ _⟩;rw[e,List.drop_length];exact .nil
 |_ :: _,[],_,_,hl,_=>by simp at hl
 |f :: fs,d :: ds,o,hc,hl,hf=>by
  simp only[Gw,QPY]at hc;have eo:f.offset=o:=QPz hc.1;obtain⟨a,a1,a2,a3,a4,a5,a6⟩:=hf 0 f d rfl rfl;obtain⟨b,b1,b2,b3,b4,b5,b6⟩:=Hr fs ds _ hc.2 (by simpa using hl) fun i g d hg hd=>hf (i+1) g d (by simpa using hg) (by simpa using hd)
  rw[eo]at a2;refine⟨a++b,⟨a,b,rfl,a1,b1⟩,?_,?_,by rw[Kw,a4,b4]<;>rfl,by rw[QQR,a5,b5]<;>rfl,by rw[N6,Rows.uptoBulkAll];omega⟩
  ·have:=RepL.append a2 b2
   rwa [←QP4,QQQ]at this
  ·have hlen:a.length=((cs.drop o).take (P.cellsOf f.type)).length:=(RepL.length a2).symm;rw[QQe,a3,b3];rw[a3,QQw,QQh]at hlen;omega

theorem UB {ts:List TypeId}(hP:Pm P ts=true):∀(k:Nat) (t:TypeId) (cs:List Value) (d:DataW H) (pl:List MemPlace),ts.contains t=true→DataW.trod enc P W 0 (fun _=>true) true k t cs=some (d,pl)→TC P M t d→
  Opn W (XB P M k t) (Rows.uptoBulk d) (P.cellsOf t) cs
 |0,_,_,_,_,_,h,_=>by simp[DataW.trod]at h
 |k+1,t,cs,d,pl,ht,h,hb=>by
  have hp:=QPM.1 hP t (by simpa using ht);unfold Pl at hp;split at hp
  ·rename_i ik hu;obtain⟨v,rfl,_,hw⟩:=DataW.trod_int hu h;refine⟨[.int ik v],?_,.cons (.int ik v) .nil,by rw[QP1]at hp;simp[hp],rfl,rfl,Gx rfl _⟩;simp only[XB,hu];exact⟨v,rfl,hw⟩
  ·rename_i hu;obtain⟨b,rfl,_⟩:=DataW.trod_bool hu h;refine⟨[.bool b],?_,.cons (.bool b) .nil,by rw[QP1]at hp;simp[hp],rfl,rfl,Gx rfl _⟩;simp only[XB,hu];exact⟨b,rfl⟩
  ·rename_i hu;obtain⟨⟨⟨s⟩⟩,rfl,e,hw⟩:=DataW.trod_string hu h;have hw:s.length≤M:=by
    cases e;rcases hb with rfl|hb|hb
    ·exact hw
    ·replace hb:=hb.2;rw[Rows.uptoBulk]at hb;exact QPC (Nat.le_succ _) hb
    ·rw[DataW.weights]at hb
     simpa using hb
   refine⟨[.str s],?_,.cons (.str s) .nil,by rw[QP1]at hp;simp[hp],rfl,rfl,Gx rfl _⟩;simp only[XB,hu];exact⟨s,rfl,hw⟩
  ·rename_i fs hu;simp only[QPY,QPM]at hp;obtain⟨xs,n',hk,e,hlen,hxl,hx⟩:=DataW.trod_struct hu h;obtain rfl:k=n':=by omega
   have hbx:∀(i:Nat) x (f:Field),xs[i]? = some x→fs[i]? = some f→TC P M f.type x.1:=fun i x f hx hf=>by
    cases e;refine hb.imp id fun hb=>hb.imp (fun hb=>⟨hb.1,?_⟩) fun hb=>?_
    ·replace hb:=hb.2;rw[Rows.uptoBulk]at hb;have:=HI (l:=xs.map (·.1)) (QQT.2 ⟨x,QPN hx,rfl⟩);omega
    ·rw[DataW.weights,hu]at hb;exact Gy i hb (by simp[hf]) (by simp[hx])
   have:=Hr (W:=W) (h:=XB P M k) (cs:=cs) fs.toList (xs.map (·.1)) 0 (by rw[hlen];exact hp.1) (by simp[hxl]) (fun i f d hi hd=>by
    have hi':fs[i]? = some f:=by simpa using hi
    have hf:f∈fs.toList:=QPN hi;obtain⟨x,hxi,rfl⟩:∃x,xs[i]? = some x∧x.1=d:=by
     rw[QQX]at hd;obtain⟨x,h1,h2⟩:=QPG.1 hd;exact⟨x,h1,h2⟩
    have h2:=hx i f hi';rw[hxi]at h2;exact UB hP k f.type _ _ _ (hp.2 f hf) h2 (hbx i _ f hxi hi'))
   rw[QQj,QQy,hlen]at this;obtain⟨XO,h1,h2,h3,h4,h5,h6⟩:=this;refine⟨XO,?_,h2,h3,h4,h5,by cases e;rw[Rows.uptoBulk];omega⟩;simp only[XB,hu];exact h1
  ·rename_i e hu;simp only[QPY,QQW,QP1]at hp;obtain⟨⟨h1,h0,hby⟩,hpe⟩:=hp;rcases DataW.trod_slice hu h with⟨rfl,_⟩|⟨a,len,cap,elems,rest,n',hk,rfl,e0,_,hl,hm,hln0,hel,_⟩
   ·refine⟨[.list []],?_,.cons (.list (cs:=[]) (sz:=0) .nil (by simp) rfl rfl (by simp) rfl (QPJ _) (QPJ _)) .nil,by simp[h1],rfl,rfl,Gx rfl _⟩;simp only[XB,hu];exact⟨[],rfl,⟨QPJ _,fun _=>by simp⟩,by simp,QPJ _⟩
   ·obtain rfl:k=n':=by omega
    have hbx:∀x∈elems,TC P M e x.1:=fun x hx=>by
     cases e0;refine hb.imp id fun hb=>hb.imp (fun hb=>⟨hb.1,?_⟩) fun hb=>?_
     ·replace hb:=hb.2;rw[Rows.uptoBulk]at hb;have:=HI (l:=elems.map (·.1)) (QQT.2 ⟨x,hx,rfl⟩);omega
     ·rw[DataW.weights,hu,QQL,QQR,QPY,QPY]at hb;exact YA hb.2.1 (QQT.2 ⟨x,hx,rfl⟩)
    have hlenM:len≤M:=by
     cases e0;rcases hb with rfl|hb|hb
     ·omega
     ·have key:∀l:List (DataW H),l.length≤Rows.uptoBulkAll l:=by
       intro l
       induction l with
       |nil=>simp
       |cons x l ih=>
        have:1≤Rows.uptoBulk x:=by unfold Rows.uptoBulk;split<;>omega
        rw[Rows.uptoBulkAll,QPP];omega
      replace hb:=hb.2;rw[Rows.uptoBulk]at hb;have:=key (elems.map (·.1));rw[QQu]at this;omega
     ·rw[DataW.weights,hu,QQL,QPY]at hb;have h5:=hb.1;simp only[QQW,QQu]at h5;have h6:elems.length*1≤(elems.length+rest.length)*P.bytesOf e:=Nat.mul_le_mul (Nat.le_add_right _ _) hby;omega
    have hlenB:M=reachBytes→len*P.bytesOf e≤M:=fun hM=>by
     cases e0;rcases hb with rfl|hb|hb
     ·exact absurd hM (by unfold maxLen reachBytes;omega)
     ·exact absurd hM hb.1
     ·rw[DataW.weights,hu,QQL,QPY]at hb;have h5:=hb.1;simp only[QQW,QQu]at h5;have h6:elems.length*P.bytesOf e≤(elems.length+rest.length)*P.bytesOf e:=Nat.mul_le_mul (Nat.le_add_right _ _) (QPB _);have h7:len*P.bytesOf e=elems.length*P.bytesOf e:=by rw[show len=elems.length by omega]
      omega
    haveI:Inhabited ({c:List Value // c.length=P.cellsOf e}×List AV):=⟨(⟨List.replicate (P.cellsOf e) (.bool false),by simp⟩,[])⟩
    obtain⟨F,hF⟩:=choose_lt (α:={c:List Value // c.length=P.cellsOf e}×List AV) (n:=len) (p:=fun i x=>W.cells? 0 (a.add (i*P.cellsOf e)) (P.cellsOf e)=some x.1.1∧XB P M k e x.2∧RepL (Gh.bare fun b o=>sv W b o) x.2 x.1.1∧x.2.length=P.cellsOf e∧AV.rfL x.2=true∧x.2.all AV.leaf=true∧∀d,elems[i]? = some d→J5 x.2≤Rows.uptoBulk d.1) (fun i hi=>by
     have hb:=hel i hi;rw[QPE (by omega)]at hb;obtain⟨cs',c1,c2⟩:=Option.bind_eq_some_iff.1 hb;obtain⟨_,hln,_⟩:=World.cells?_some c1;obtain⟨XO,o1,o2,o3,o4,o5,o6⟩:=UB hP k e cs' _ _ hpe c2 (hbx _ (QQs _));exact⟨(⟨cs',hln⟩,XO),c1,o1,o2,o3,o4,o5,fun d hd=>by
      rw[QPE (by omega)]at hd;cases hd;exact o6⟩)
    have cellAt:∀i j,i<len→j<P.cellsOf e→W.cell? (a.add (i*P.cellsOf e+j))=(F i).1.1[j]?:=by
     intro i j hi hj;obtain⟨_,_,h3⟩:=World.cells?_some (hF i hi).1;rw[←h3 j hj,add_add]
    have hspot:0<len→a.spot=none:=by
     intro hc;have:=cellAt 0 0 hc h0;rw[Nat.zero_mul,show a.add (0+0)=a from rfl,QPE (by rw[(F 0).1.2];exact h0)]at this;unfold World.cell? at this;split at this
     ·split at this
      ·cases this
      ·rename_i h;simpa using h
     ·cases this
    have hel':∀c∈(List.range len).map (fun i=>(F i).2),∃i,i<len∧c=(F i).2:=by
     intro c hc;obtain⟨i,hi,rfl⟩:=QQT.1 hc;exact⟨i,QQ8.1 hi,rfl⟩
    have hflat:∀L:List (List AV),(∀c∈L,c.all AV.leaf=true)→QS (L.map ZN)=L.flatten:=by
     intro L
     induction L with
     |nil=>intro _;rfl
     |cons c L ih=>
      intro hh;show(ZN c).cells++QS (L.map ZN)=c++L.flatten;rw[Hq (hh c (by simp)),ih fun x hx=>hh x (by simp[hx])]
    have hrf:∀L:List (List AV),(∀c∈L,AV.rfL c=true)→AV.rfL L.flatten=true:=by
     intro L
     induction L with
     |nil=>intro _;rfl
     |cons c L ih=>
      intro hh;rw[List.flatten_cons,Kw,hh c (by simp),ih fun x hx=>hh x (by simp[hx])]<;>rfl
    have hlf:∀L:List (List AV),(∀c∈L,c.all AV.leaf=true)→L.flatten.all AV.leaf=true:=by
     intro L
     induction L with
     |nil=>intro _;rfl
     |cons c L ih=>
      intro hh;rw[List.flatten_cons,QQR,hh c (by simp),ih fun x hx=>hh x (by simp[hx])]<;>rfl
    have hl1:∀c∈(List.range len).map (fun i=>(F i).2),c.all AV.leaf=true:=fun c hc=>by
     obtain⟨i,hi,rfl⟩:=hel' c hc;exact(hF i hi).2.2.2.2.2.1
    have hl2:∀c∈(List.range len).map (fun i=>(F i).2),AV.rfL c=true:=fun c hc=>by
     obtain⟨i,hi,rfl⟩:=hel' c hc;exact(hF i hi).2.2.2.2.1
    have hwt:J5 [.list (((List.range len).map fun i=>(F i).2).map ZN)]≤Rows.uptoBulk d:=by
     cases e0;have hw:=fun n hn=>Bg (fun i=>if i<len then(F i).2 else []) (elems.map (·.1)) (fun i d hd=>by
      rw[QQX]at hd;obtain⟨x,h1,rfl⟩:=QPG.1 hd;by_cases hi:i<len
      ·rw[QP5 hi];exact(hF i hi).2.2.2.2.2.2 x h1
      ·rw[QPO hi];exact QPJ _) n hn
     have h1:=hw len (by rw[QQu];omega);rw[QQa (by rw[QQu];omega)]at h1;have h2:(List.range len).map (fun i=>if i<len then(F i).2 else [])=(List.range len).map fun i=>(F i).2:=by
      refine List.map_congr_left fun i hi=>?_
      rw[QP5 (QQ8.1 hi)]
     rw[h2]at h1;rw[J5,J5,wt,Rows.uptoBulk];omega
    refine⟨[.list (((List.range len).map fun i=>(F i).2).map ZN)],?_,.cons (.list (cs:=((List.range len).map fun i=>(F i).1.1).flatten) (sz:=P.cellsOf e) ?_ ?_ ?_ ?_ ?_ (by simp) hl (by omega)) .nil,by simp[h1],rfl,rfl,hwt⟩
    ·simp only[XB,hu];refine⟨_,rfl,⟨by simp;omega,fun hM=>by simpa using hlenB hM⟩,?_,by simpa using hlenM⟩;intro c hc;obtain⟨i,hi,rfl⟩:=hel' c hc;exact(hF i hi).2.1
    ·rw[hflat _ hl1];refine UA (by simp) fun i g1 g2=>?_
     simp only[QQu,List.length_range]at g1;simp only[List.getElem_map,List.getElem_range];exact(hF i (by omega)).2.2.1
    ·intro x hx;obtain⟨c,hc,rfl⟩:=QQT.1 hx;rw[Hq (hl1 c hc)];obtain⟨i,hi,rfl⟩:=hel' c hc;exact(hF i hi).2.2.2.1
    ·rw[hflat _ hl1];exact hrf _ hl2
    ·rw[hflat _ hl1];exact hlf _ hl1
    ·intro j u hj;rw[←List.flatMap_def,Hp h0 (fun i=>(F i).1.2)]at hj;by_cases hi:j / P.cellsOf e<len
     ·rw[List.getElem?_range hi]at hj;have hj:(F (j / P.cellsOf e)).1.1[j % P.cellsOf e]? = some u:=hj;have hk:=cellAt (j / P.cellsOf e) (j % P.cellsOf e) (by omega) (Nat.mod_lt _ h0);rw[hj,Nat.div_add_mod']at hk;have hs:=hspot (Nat.lt_of_le_of_lt (QPJ _) hi);obtain⟨b,o,s⟩:=a;subst hs;refine⟨b,o,rfl,?_⟩;refine U4 ?_;show W.cell? ⟨b,o+j,none⟩=some u;rw[←hk];unfold Addr.add;split
      ·rename_i h;rw[h];rfl
      ·rfl
     ·rw[QQY (by simp;omega)]at hj;cases hj
  ·cases hp

theorem Ch {t:TypeId}{v:Value}{d:DataW H}{p:List MemPlace}(hl:laidOutB P=true)(hr:P.readableRec t=true)(hrow:t<P.types.size)(h:DataW.Trod enc P W 0 (fun _=>true) true t v d p) :
  ∀(W':World) (sp:Nat→Bool),Below W.heap.size W W'→(∀q∈p,sp q.block=true)→DataW.Trod enc P W' 0 sp true t v d p:=by
 intro W' sp hb hs;obtain⟨n,hn⟩:=h;exact Trod_stays hl hr hrow ⟨n,hn⟩ (fun x hx=>hb.same (DataW.trod_lt n _ _ _ hn x hx)) hs

theorem Nq {t:TypeId}{fs:Array Field}{ts:List TypeId}{r:Reach}{b0:Nat}{v:Value}{d:DataW H}{p:List MemPlace}(hP:Pm P ts=true)(ht:ts.contains t=true)(hs:P.underlying t=some (.struct fs))(hv:Value.okWide P W r b0 t v)
  (h:DataW.Trod enc P W 0 (fun _=>true) true t v d p) (hb:TC P M t d):∃k XO,XB P M k t XO∧Rep (Gh.bare fun b o=>sv W b o) (.agg XO) v:=by
 obtain⟨⟨cs⟩,rfl,_⟩:=okWide_struct hs hv;obtain⟨n,hn⟩:=h;obtain⟨XO,h1,h2,_⟩:=UB hP n t _ _ _ ht hn hb;exact⟨n,XO,h1,.agg h2⟩
theorem Ko {X:Type}{f:X→List AV}{ok:X→Prop}:∀ {l:List (List AV)},(∀c∈l,∃x,ok x∧c=f x)→∃xs:List X,l=xs.map f∧∀x∈xs,ok x
 | [],_=>⟨[],rfl,by simp⟩
 |c :: l,h=>by
  obtain⟨x,hx,rfl⟩:=h c (by simp);obtain⟨xs,rfl,hxs⟩:=Ko (l:=l) fun c hc=>h c (by simp[hc])
  exact⟨x :: xs,rfl,by simpa using ⟨hx,hxs⟩⟩

end

end Go.Proofs.YtfgchfdkiomfpaaGreat.Br

namespace Go.Proofs.YtfgchfdkiomfpaaGreat.Br
open Go Am

section
variable {P:Program}{M k:Nat}{t:TypeId}{cs:List AV}

theorem ZK {ik:IntKind}(hu:P.underlying t=some (.int ik))(h:XB P M k t cs):∃n,cs=[.int ik n]∧(Lit.int ik n).wf=true:=by
 cases k with
 |zero=>cases h
 |succ k=>simpa only [XB,hu]using h

theorem RL (hu:P.underlying t=some .bool)(h:XB P M k t cs):∃b,cs=[.bool b]:=by
 cases k with
 |zero=>cases h
 |succ k=>simpa only [XB,hu]using h

theorem KX (hu:P.underlying t=some .string)(h:XB P M k t cs):∃s,cs=[.str s]∧s.length≤M:=by
 cases k with
 |zero=>cases h
 |succ k=>simpa only [XB,hu]using h

theorem JD {e:TypeId}(hu:P.underlying t=some (.slice e))(h:XB P M k t cs):∃(k':Nat) (l:List (List AV)),cs=[.list (l.map ZN)]∧l.length≤maxLen∧∀c∈l,XB P M k' e c:=by
 cases k with
 |zero=>cases h
 |succ k=>
  simp only[XB,hu]at h;obtain⟨l,h1,h2,h3,_⟩:=h;exact⟨k,l,h1,h2.1,h3⟩

theorem WB {e:TypeId}(hu:P.underlying t=some (.slice e))(h:XB P M k t cs):∃(k':Nat) (l:List (List AV)),cs=[.list (l.map ZN)]∧l.length≤M∧∀c∈l,XB P M k' e c:=by
 cases k with
 |zero=>cases h
 |succ k=>
  simp only[XB,hu]at h;obtain⟨l,h1,_,h3,h4⟩:=h;exact⟨k,l,h1,h4,h3⟩

theorem ZO {fs:Array Field}(hu:P.underlying t=some (.struct fs))(h:XB P M k t cs):∃k',XB.HasL (XB P M k') fs.toList cs:=by
 cases k with
 |zero=>cases h
 |succ k=>
  simp only[XB,hu]at h;exact⟨k,h⟩

end

structure PO where
 num:Int
 name:List UInt8
 alias:List UInt8
 card:Int
 key:Int
 kind:Int
 target:Int
 union:Int

def PO.cells (o:PO):List AV:=[.int .i64 o.num,.str o.name,.str o.alias,.int .i64 o.card,.int .i64 o.key,.int .i64 o.kind,.int .i64 o.target,.int .i64 o.union]

structure PO.ok (M:Nat)(o:PO):Prop where
 num:(Lit.int .i64 o.num).wf=true
 name:o.name.length≤M
 alias:o.alias.length≤M
 card:(Lit.int .i64 o.card).wf=true
 key:(Lit.int .i64 o.key).wf=true
 kind:(Lit.int .i64 o.kind).wf=true
 target:(Lit.int .i64 o.target).wf=true
 union:(Lit.int .i64 o.union).wf=true

theorem QsE {M k:Nat}{cs:List AV}(h:XB Tryz.prog M k 51 cs):∃o:PO,o.ok M∧cs=o.cells:=by
 obtain⟨k,h⟩:=ZO Tryz.underlying51 h;simp only[XB.HasL]at h;obtain⟨_,_,rfl,h0,_,_,rfl,h1,_,_,rfl,h2,_,_,rfl,h3,_,_,rfl,h4,_,_,rfl,h5,_,_,rfl,h6,_,_,rfl,h7,rfl⟩:=h;obtain⟨a0,rfl,w0⟩:=ZK Tryz.underlying3 h0;obtain⟨a1,rfl,w1⟩:=KX Tryz.underlying9 h1;obtain⟨a2,rfl,w2⟩:=KX Tryz.underlying9 h2;obtain⟨a3,rfl,w3⟩:=ZK Tryz.underlying3 h3;obtain⟨a4,rfl,w4⟩:=ZK Tryz.underlying3 h4;obtain⟨a5,rfl,w5⟩:=ZK Tryz.underlying3 h5;obtain⟨a6,rfl,w6⟩:=ZK Tryz.underlying3 h6;obtain⟨a7,rfl,w7⟩:=ZK Tryz.underlying3 h7;exact⟨⟨a0,a1,a2,a3,a4,a5,a6,a7⟩,⟨w0,w1,w2,w3,w4,w5,w6,w7⟩,rfl⟩

structure PG where
 name:List UInt8
 ops:List PO
 unions:Int

def PG.cells (g:PG):List AV:=[.str g.name,.list (g.ops.map fun o=>.agg o.cells),.int .i64 g.unions]

structure PG.ok (M:Nat)(g:PG):Prop where
 name:g.name.length≤M
 len:g.ops.length≤maxLen
 ops:∀o∈g.ops,o.ok M
 unions:(Lit.int .i64 g.unions).wf=true

theorem RM {M k:Nat}{cs:List AV}(h:XB Tryz.prog M k 54 cs):∃g:PG,g.ok M∧cs=g.cells:=by
 obtain⟨k,h⟩:=ZO Tryz.underlying54 h;simp only[XB.HasL]at h;obtain⟨_,_,rfl,h0,_,_,rfl,h1,_,_,rfl,h2,rfl⟩:=h;obtain⟨a0,rfl,w0⟩:=KX Tryz.underlying9 h0;obtain⟨k',l,rfl,w1,hl⟩:=JD Tryz.underlying52 h1;obtain⟨a2,rfl,w2⟩:=ZK Tryz.underlying3 h2;obtain⟨ops,rfl,hok⟩:=Ko (f:=PO.cells) (ok:=PO.ok M) fun c hc=>QsE (hl c hc)
 refine⟨⟨a0,ops,a2⟩,⟨w0,by simpa using w1,hok,w2⟩,?_⟩;simp only[PG.cells,List.map_map,QPW,QPX];rfl

structure PS where
 lo:Int
 hi:Int

def PS.cells (x:PS):List AV:=[.int .i64 x.lo,.int .i64 x.hi]
def PS.ok (x:PS):Prop:=(Lit.int .i64 x.lo).wf=true∧(Lit.int .i64 x.hi).wf=true

theorem RN {M k:Nat}{cs:List AV}(h:XB Tryz.prog M k 106 cs):∃x:PS,x.ok∧cs=x.cells:=by
 obtain⟨k,h⟩:=ZO Tryz.underlying106 h;simp only[XB.HasL]at h;obtain⟨_,_,rfl,h0,_,_,rfl,h1,rfl⟩:=h;obtain⟨a0,rfl,w0⟩:=ZK Tryz.underlying3 h0;obtain⟨a1,rfl,w1⟩:=ZK Tryz.underlying3 h1;exact⟨⟨a0,a1⟩,⟨w0,w1⟩,rfl⟩

structure PN where
 name:List UInt8
 val:List AV

def PN.cells (x:PN):List AV:=.str x.name :: x.val
def PN.ok (P:Program)(M:Nat)(t:TypeId)(x:PN):Prop:=x.name.length≤M∧∃k,XB P M k t x.val

theorem Bh {M k:Nat}{cs:List AV}(h:XB Tryz.prog M k 108 cs):∃x:PN,x.ok Tryz.prog M 35∧cs=x.cells:=by
 obtain⟨k,h⟩:=ZO Tryz.underlying108 h;simp only[XB.HasL]at h;obtain⟨_,_,rfl,h0,a1,_,rfl,h1,rfl⟩:=h;obtain⟨a0,rfl,w0⟩:=KX Tryz.underlying9 h0;exact⟨⟨a0,a1⟩,⟨w0,k,h1⟩,by simp[PN.cells]⟩

structure PI where
 name:List UInt8
 num:Int
 notes:List PN

def PI.cells (x:PI):List AV:=[.str x.name,.int .i64 x.num,.list (x.notes.map fun n=>ZN n.cells)]

structure PI.ok (M:Nat)(x:PI):Prop where
 name:x.name.length≤M
 num:(Lit.int .i64 x.num).wf=true
 len:x.notes.length≤maxLen
 notes:∀n∈x.notes,n.ok Tryz.prog M 35

theorem RP {M k:Nat}{cs:List AV}(h:XB Tryz.prog M k 103 cs):∃x:PI,x.ok M∧cs=x.cells:=by
 obtain⟨k,h⟩:=ZO Tryz.underlying103 h;simp only[XB.HasL]at h;obtain⟨_,_,rfl,h0,_,_,rfl,h1,_,_,rfl,h2,rfl⟩:=h;obtain⟨a0,rfl,w0⟩:=KX Tryz.underlying9 h0;obtain⟨a1,rfl,w1⟩:=ZK Tryz.underlying3 h1;obtain⟨k',l,rfl,w2,hl⟩:=JD Tryz.underlying98 h2;obtain⟨ns,rfl,hok⟩:=Ko (f:=PN.cells) (ok:=PN.ok Tryz.prog M 35) fun c hc=>Bh (hl c hc)
 refine⟨⟨a0,a1,ns⟩,⟨w0,w1,by simpa using w2,hok⟩,?_⟩;simp only[PI.cells,List.map_map,QPW,QPX];rfl

structure PE where
 name:List UInt8
 opn:Bool
 items:List PI
 free:List PS
 notes:List PN

def PE.cells (x:PE):List AV:=[.str x.name,.bool x.opn,.list (x.items.map fun n=>.agg n.cells),.list (x.free.map fun n=>.agg n.cells),.list (x.notes.map fun n=>ZN n.cells)]

structure PE.ok (M:Nat)(x:PE):Prop where
 name:x.name.length≤M
 len1:x.items.length≤maxLen
 items:∀n∈x.items,n.ok M
 len2:x.free.length≤maxLen
 free:∀n∈x.free,n.ok
 len3:x.notes.length≤maxLen
 notes:∀n∈x.notes,n.ok Tryz.prog M 35

theorem RQ {M k:Nat}{cs:List AV}(h:XB Tryz.prog M k 100 cs):∃x:PE,x.ok M∧cs=x.cells:=by
 obtain⟨k,h⟩:=ZO Tryz.underlying100 h;simp only[XB.HasL]at h;obtain⟨_,_,rfl,h0,_,_,rfl,h1,_,_,rfl,h2,_,_,rfl,h3,_,_,rfl,h4,rfl⟩:=h;obtain⟨a0,rfl,w0⟩:=KX Tryz.underlying9 h0;obtain⟨a1,rfl⟩:=RL Tryz.underlying4 h1;obtain⟨k2,l2,rfl,w2,hl2⟩:=JD Tryz.underlying96 h2;obtain⟨k3,l3,rfl,w3,hl3⟩:=JD Tryz.underlying97 h3;obtain⟨k4,l4,rfl,w4,hl4⟩:=JD Tryz.underlying98 h4;obtain⟨x2,rfl,o2⟩:=Ko (f:=PI.cells) (ok:=PI.ok M) fun c hc=>RP (hl2 c hc)
 obtain⟨x3,rfl,o3⟩:=Ko (f:=PS.cells) (ok:=PS.ok) fun c hc=>RN (hl3 c hc)
 obtain⟨x4,rfl,o4⟩:=Ko (f:=PN.cells) (ok:=PN.ok Tryz.prog M 35) fun c hc=>Bh (hl4 c hc)
 refine⟨⟨a0,a1,x2,x3,x4⟩,⟨w0,by simpa using w2,o2,by simpa using w3,o3,by simpa using w4,o4⟩,?_⟩;simp only[PE.cells,List.map_map,QPW,QPX];rfl

structure PL where
 progs:List PG
 enums:List PE

def PL.av (p:PL):AV:=.agg [.list (p.progs.map fun n=>.agg n.cells),.list (p.enums.map fun n=>.agg n.cells)]

structure PL.ok (M:Nat)(x:PL):Prop where
 len1:x.progs.length≤maxLen
 progs:∀n∈x.progs,n.ok M
 len2:x.enums.length≤maxLen
 enums:∀n∈x.enums,n.ok M

theorem RS {M k:Nat}{cs:List AV}(h:XB Tryz.prog M k 25 cs):∃x:PL,x.ok M∧.agg cs=x.av:=by
 obtain⟨k,h⟩:=ZO Tryz.underlying25 h;simp only[XB.HasL]at h;obtain⟨_,_,rfl,h0,_,_,rfl,h1,rfl⟩:=h;obtain⟨k2,l2,rfl,w2,hl2⟩:=JD Tryz.underlying22 h0;obtain⟨k3,l3,rfl,w3,hl3⟩:=JD Tryz.underlying23 h1;obtain⟨x2,rfl,o2⟩:=Ko (f:=PG.cells) (ok:=PG.ok M) fun c hc=>RM (hl2 c hc)
 obtain⟨x3,rfl,o3⟩:=Ko (f:=PE.cells) (ok:=PE.ok M) fun c hc=>RQ (hl3 c hc)
 refine⟨⟨x2,x3⟩,⟨by simpa using w2,o2,by simpa using w3,o3⟩,?_⟩;simp only[PL.av,List.map_map,QPW,QPX];rfl

end Go.Proofs.YtfgchfdkiomfpaaGreat.Br

namespace Go.Proofs.YtfgchfdkiomfpaaGreat.Va
open Go Am Rc Bt Br

def Zr {α:Type}(p:α→Bool):List α→Nat→Int
 | [],_=>-1
 |x :: l,i=>if p x=true then(i:Int)else Zr p l (i+1)

theorem YX {α:Type}(p:α→Bool):∀(l:List α) (i:Nat),(Zr p l i = -1∧l.find? p=none)∨∃k o,Zr p l i=((i+k:Nat):Int)∧l[k]? = some o∧l.find? p=some o
 | [],_=>.inl ⟨rfl,rfl⟩
 |x :: l,i=>by
  unfold Zr;rw[QRn];cases h:p x with
  |true=>exact .inr ⟨0,x,by simp,rfl,rfl⟩
  |false=>
   simp only[QPT,if_false];rcases YX p l (i+1)with h'|⟨k,o,h1,h2,h3⟩
   ·exact .inl h'
   ·exact .inr ⟨k+1,o,by rw[h1];congr 1;omega,by simpa using h2,h3⟩

theorem YY {α:Type}(p:α→Bool){l:List α}{i:Nat}{x:α}(hx:l[i]? = some x):Zr p (l.drop i) i=if p x=true then(i:Int)else Zr p (l.drop (i+1)) (i+1):=by
 have hlt:i<l.length:=(QPD.1 hx).1;rw[QQk hlt,show l[i]=x from(QPD.1 hx).2];rfl

def Qv (o:PO):AV:=.agg o.cells
def Qp (g:PG):AV:=.agg g.cells
def UC (x:PI):AV:=.agg x.cells
def QW (x:PE):AV:=.agg x.cells

section ops
variable (L:List PO)(hl:L.length≤maxLen)(p:PO→Bool)(c:Nat)(cap:AV)(m:Qj)

def IxO (k:Nat)(st:St):Prop :=
 ∃f i,st=⟨f,QE :: m,[]⟩∧k=L.length-i∧Zr p L 0=Zr p (L.drop i) i∧f 0=.list (L.map Qv)∧f 1=.fn (.func c) [] [cap.sh]∧f 7=.int .i64 (L.length:Nat)∧f 8=.int .i64 (i:Nat)

include hl in
theorem QKg (hc:∀o∈L,Qx Tryz.prog c [Qv o,cap.sh] (QE :: m) fun y m1=>y=.bool (p o)∧m1=QE :: m) :
  Qx Tryz.prog 156 [.list (L.map Qv),.fn (.func c) [] [cap]] m fun y m1=>y=.int .i64 (Zr p L 0)∧m1=m:=by
 refine Qfb.go (by simp) ?_;simp only[QQu,Qb,seval];refine Qg (IxO L p c cap m) _ ⟨_,0,rfl,rfl,rfl,(by rfl),(by rfl),(by rfl),(by rfl)⟩ ?_;rintro _ st ⟨f,i,rfl,rfl,hx,h0,h1,h7,h8⟩;simp only[h7,h8,Qb,seval];by_cases hlt:i<L.length
 ·obtain⟨x,hi⟩:∃x,L[i]? = some x:=⟨L[i],QPE hlt⟩;have hcl:=hc x (QPN hi);have hg:(L.map Qv)[i]? = some (Qv x):=by simp[hi]
  have e1:=Qw i _ hlt hl;simp only[Qv,PO.cells]at hcl;simp only[Qr hlt,Qm,QQ2,Qf,hg,Qv,PO.cells,h0,h1,h8,eE,seval];refine YW (fa:=[]) (fb:=[cap.sh]) (by rfl) hcl (by simp only[QP8,QQB,QPX,QPW,Qb,seval]) ?_;rw[YY p hi]at hx;cases hp:p x
  ·rw[hp]at hx;simp only[QPT,if_false]at hx;simp only[h8,e1,Qb,seval];exact⟨L.length-(i+1),by omega,_,i+1,rfl,rfl,hx,(by exact h0),(by exact h1),(by exact h7),(by rfl)⟩
  ·rw[hp]at hx;simp only[if_true]at hx;simp only[hx,Qb,seval]
 ·have hx':Zr p L 0 = -1:=by rw[hx,QQd (by omega)];rfl
  simp only[QO hlt,hx',Qb,seval]

end ops

def N7:PO:=⟨0,[],[],0,0,0,0,0⟩
def Gz (p:PO→Bool)(L:List PO):AV:=.tup [Qv ((L.find? p).getD N7),.bool (L.find? p).isSome]

theorem QKh (g:PG)(hl:g.ops.length≤maxLen)(p:PO→Bool)(c:Nat)(cap:AV)(m:Qj)(hc:∀fr,∀o∈g.ops,Qx Tryz.prog c [Qv o,cap.sh.sh] (QE :: fr :: m) fun y m1=>y=.bool (p o)∧m1=QE :: fr :: m) :
  Qx Tryz.prog 101 [.agg [.fn (.func c) [] [cap]],Qp g] m fun y m1=>y=Gz p g.ops∧m1=m:=by
 refine Qcz.go (by simp) ?_;simp only[Qp,PG.cells,eE,seval];refine QU (QKg g.ops hl p c cap.sh _ fun o ho=>hc _ o ho) (by simp only[QP8,QQB,Qb,seval];rfl) ?_;rcases YX p g.ops 0 with⟨h1,h2⟩|⟨j,o,h1,h2,h3⟩
 ·simp only[h1,Gz,h2,QRc,QQq,N7,Qv,PO.cells,splice,QQI,QPX,QQc,QQj,QQO,QQD,QPP,QQv,QQL,QQM,AV.leaf,eE,seval]
 ·have hj:(g.ops.map fun o=>AV.agg o.cells)[j]? = some (.agg o.cells):=by simp[h2]
  have d:decide ((j:Int)<0)=false:=QRo (by omega);rw[QQi]at h1;simp only[PO.cells]at hj;simp only[h1,d,Qm,QQ2,Qf,QQi,hj,Gz,h3,QQK,QRp,Qv,PO.cells,splice,QQI,QPX,QQc,QQj,QQO,QQD,QPP,QQv,QQL,QQM,AV.leaf,eE,seval]

section
variable (o:PO)(fr frO:Nat→Ob)

theorem QKi (n:Int)(hf:frO 3=.cells [.int .i64 n]):Qx Tryz.prog 100 [Qv o,.ptr 2 3 0] [QE,fr,frO] fun y m1=>y=.bool (o.num==n)∧m1=[QE,fr,frO]:=by
 refine Qcr.go (by simp) ?_;simp only[hf,Qv,PO.cells,eE,seval]

end

theorem y55 (g:PG)(hl:g.ops.length≤maxLen)(n:Int):Qh Tryz.prog 55 [Qp g,.int .i64 n] (Gz (fun o=>o.num==n) g.ops):=by
 refine k55.fn (by simp) ?_;simp only[Qp,PG.cells,eE,seval];refine QU (QKh g hl (fun o=>o.num==n) 100 (.ptr 0 3 0) _ fun fr o _=>QKi o fr _ n (by rfl)) (by simp only[QP8,QQB,Qp,PG.cells,Qb,seval]) ?_;simp only[Gz,Qv,PO.cells,splice,QQI,QPX,QQc,QQj,QQO,QQD,QPP,QQv,QQL,QQM,AV.leaf,eE,seval]

def QP (p:Nat→Bool):Nat→Bool
 |0=>true
 |n+1=>QP p n&&p n

theorem ZU {p:Nat→Bool}{n:Nat}:QP p n=true↔∀i,i<n→p i=true:=by
 induction n with
 |zero=>simp[QP]
 |succ n ih=>
  simp only[QP,QPY,ih]
  constructor
  ·rintro⟨h1,h2⟩ i hi;rcases Nat.lt_succ_iff_lt_or_eq.1 hi with h|rfl
   ·exact h1 i h
   ·exact h2
  ·intro h;exact⟨fun i hi=>h i (by omega),h n (by omega)⟩

theorem HJ {p q:Nat→Bool}{n:Nat}:QP (fun i=>p i&&q i) n=(QP p n&&QP q n):=by
 induction n with
 |zero=>rfl
 |succ n ih=>
  simp only[QP,ih];cases QP p n<;>cases QP q n<;>cases p n<;>cases q n<;>rfl

def Hs {α:Type}(l:List α)(q:α→Bool)(i:Nat):Bool:=match l[i]? with
 |some x=>q x
 |none=>true

theorem UD {α:Type}{l:List α}{q:α→Bool}{i:Nat}{x:α}(h:l[i]? = some x):Hs l q i=q x:=by
 unfold Hs;rw[h]

theorem HK {α:Type}(l:List α)(q:α→Bool):QP (Hs l q) l.length=l.all q:=by
 rw[QRq,ZU,QPM]
 constructor
 ·intro h x hx;obtain⟨i,hi⟩:=QPL.1 hx;have:=h i (QPD.1 hi).1
  rwa [UD hi]at this
 ·intro h i hi;rw[UD (QPE hi)];exact h _ (QQs _)

def Zb {α:Type}(l:List α)(lt:α→α→Bool)(i:Nat):Bool:=match i with
 |0=>true
 |k+1=>match l[k]?,l[k+1]? with
  |some x,some y=>lt x y
  |_,_=>true

theorem YB {α:Type}{l:List α}{lt:α→α→Bool}{k:Nat}{x y:α}(h:l[k]? = some x)(h':l[k+1]? = some y):Zb l lt (k+1)=lt x y:=by
 unfold Zb;simp only[h,h']
theorem HL {α:Type}{l:List α}{lt:α→α→Bool}:Zb l lt 0=true:=rfl

def JV {α:Type}(l:List α)(lt:α→α→Bool):Bool:=QP (Zb l lt) l.length

def uniq {α:Type}(l:List α)(nm:α→List UInt8)(i:Nat):Bool:=match l[i]? with
 |some x=>(l.take i).all fun y=>!(nm y==nm x)
 |none=>true
theorem N8 {α:Type}{l:List α}{nm:α→List UInt8}{i:Nat}{x:α}(h:l[i]? = some x):uniq l nm i=(l.take i).all fun y=>!(nm y==nm x):=by
 unfold uniq;rw[h]
def Dr {α:Type}(l:List α)(nm:α→List UInt8):Bool:=QP (uniq l nm) l.length

theorem Xm {α:Type}{l:List α}{q:α→Bool}{i:Nat}{x:α}(h:l[i]? = some x):(l.take (i+1)).all q=((l.take i).all q&&q x):=by
 rw[QRm,h];simp
theorem RT {α:Type}{l:List α}{q:α→Bool}{i:Nat}{x:α}(h:l[i]? = some x):(l.take (i+1)).any q=((l.take i).any q||q x):=by
 rw[QRm,h];simp
def YC (c:UInt8):Bool:=(decide (97≤c.toNat)&&decide (c.toNat≤122))||(decide (65≤c.toNat)&&decide (c.toNat≤90))
def WC (c:UInt8):Bool:=YC c||c.toNat==95||(decide (48≤c.toNat)&&decide (c.toNat≤57))
def XK:List UInt8→Bool
 | []=>false
 |c :: t=>decide ((c :: t).length≤40)&&YC c&&t.all WC
def Ci:List (List UInt8):=[[109,101,115,115,97,103,101],[101,110,117,109],[115,101,114,118,105,99,101],[117,110,105,111,110],[109,97,112],[108,105,115,116],[114,101,113,117,105,114,101,100],[111,112,116,105,111,110,97,108],[112,108,97,105,110],[100,101,102,97,117,108,116],[114,101,115,101,114,118,101,100],
 [105,109,112,111,114,116],[115,112,97,99,101],[114,112,99],[115,116,114,101,97,109],[114,101,116,117,114,110,115],[111,112,101,110],[116,114,117,101],[102,97,108,115,101],[110,97,110],[105,110,102]]
def J6 (s:List UInt8):Bool:=Ci.any fun w=>s==w
def Zv (s:List UInt8):Bool:=XK s && !J6 s
def QM:List UInt8→List (List UInt8)
 | []=>[[]]
 |c :: t=>if c=46 then [] :: QM t else match QM t with
  | []=>[[c]]
  |p :: ps=>(c :: p) :: ps
def Yq (s:List UInt8):Bool:=decide (s.length≤120)&&(QM s).all XK && !(QM s).any J6

theorem HM:∀s:List UInt8,QM s≠[]
 | []=>by simp[QM]
 |c :: t=>by
  unfold QM;split
  ·simp
  ·split<;>simp

theorem DU (a:List UInt8):∀s:List UInt8,(∀c∈a,c≠46)→QM (a++s)=match QM s with
  | []=>[a]
  |p :: ps=>(a++p) :: ps:=by
 induction a with
 |nil=>intro s _;cases h:QM s with
  |nil=>exact absurd h (HM s)
  |cons p ps=>simp[h]
 |cons c a ih=>
  intro s h;have hc:c≠46:=h c (by simp);rw[QPW,QM,QPO hc,ih s fun x hx=>h x (by simp[hx])];cases hs:QM s with
  |nil=>exact absurd hs (HM s)
  |cons p ps=>rfl

theorem UE {s:List UInt8}(h:∀c∈s,c≠46):QM s=[s]:=by
 have:=DU s [] h
 simpa [QM]using this

theorem Cj {a t:List UInt8}(h:∀c∈a,c≠46):QM (a++46 :: t)=a :: QM t:=by
 rw[DU a _ h,QM,QP5 rfl];simp

theorem GA {a t:List UInt8}(h:∀c∈t,c≠46):QM (a++46 :: t)=QM a++[t]:=by
 induction a with
 |nil=>
  show QM (46 :: t)=[[]]++[t];rw[show QM (46 :: t)=[] :: QM t from by rw[QM,QP5 rfl],UE h];rfl
 |cons c a ih=>
  rw[QPW,QM,QM,ih];split
  ·rfl
  ·cases hs:QM a with
   |nil=>exact absurd hs (HM a)
   |cons p ps=>rfl

def KY (g:PG):Bool:=decide (g.ops.length≤64)
def KZ (e:PE):Bool:=decide (1≤e.items.length)&&decide (e.items.length≤64)&&decide (e.free.length≤16)
def Bi (P:PL):Bool:=decide (P.progs.length≤64)&&decide (P.enums.length≤64)&&P.progs.all KY&&P.enums.all KZ
def YZ (g:PG):Bool:=Yq g.name&&g.ops.all fun o=>Zv o.name
def Y0 (e:PE):Bool:=Yq e.name&&e.items.all fun o=>Zv o.name
def TD (P:PL):Bool:=P.progs.all YZ&&P.enums.all Y0
def Ju {α:Type}(f:α→Int)(x y:α):Bool:=decide (f x<f y)
def ZH {α:Type}(f:α→List UInt8)(x y:α):Bool:=Op.bytesLess (f x) (f y)
def K0 (g:PG):Bool:=JV g.ops (Ju PO.num)
def Wp (e:PE):Bool:=JV e.items (Ju PI.num)
def Bj (P:PL):Bool:=JV P.progs (ZH PG.name)&&JV P.enums (ZH PE.name)&&P.progs.all K0&&P.enums.all Wp
def UF (P:PL)(g:PG):Bool:=(P.enums.all fun e=>!(e.name==g.name))&&Dr g.ops PO.name
def UG (e:PE):Bool:=Dr e.items PI.name
def TF (P:PL):Bool:=P.progs.all (UF P)&&P.enums.all UG
def J0 (o:PO):Bool:=decide (o.num≥1)&&decide (o.num≤65535)
def N9 (x:PS):Bool:=decide (x.lo≥0)&&decide (x.hi≤2147483647)&&decide (x.lo≤x.hi)
def GB (x y:PS):Bool:=decide (y.lo > x.hi)
def kept (l:List PS)(n:Int):Bool:=l.any fun x=>decide (x.lo≤n)&&decide (n≤x.hi)
def Ds (e:PE)(x:PI):Bool:=decide (x.num≤2147483647) && !kept e.free x.num
def HN (e:PE):Bool:=match e.items with
 | []=>true
 |x :: _=>x.num==0
def WT (e:PE):Bool:=e.free.all N9&&JV e.free GB&&HN e&&e.items.all (Ds e)
def TG (P:PL):Bool:=P.progs.all (fun g=>g.ops.all J0)&&P.enums.all WT

def HO (x:PS):AV:=.agg x.cells
theorem Dt (k n:Nat)(h:k+1<n)(hn:n≤maxLen):IntKind.i64.wrap (((k+1:Nat):Int)-1)=(k:Int):=by
 rw[QB];simp only[maxLen]at hn;omega

section
variable (L:List PG)(hl:L.length≤maxLen)(p:PG→Bool)(c:Nat)(cs:List AV)(m:Qj)

end

section
variable (L:List PO)(hl:L.length≤maxLen)(p:PO→Bool)(c:Nat)(cs:List AV)(m:Qj)

end

section
variable (L:List PE)(hl:L.length≤maxLen)(p:PE→Bool)(c:Nat)(cs:List AV)(m:Qj)

end

section
variable (L:List PI)(hl:L.length≤maxLen)(p:PI→Bool)(c:Nat)(cs:List AV)(m:Qj)

end

section
variable (L:List PS)(hl:L.length≤maxLen)(p:PS→Bool)(c:Nat)(cs:List AV)(m:Qj)

end

section
variable (L:List (List UInt8))(hl:L.length≤maxLen)(p:(List UInt8)→Bool)(c:Nat)(cs:List AV)(m:Qj)

end

section
variable (L:List PG)(hl:L.length≤maxLen)(lt:PG→PG→Bool)(c:Nat)(cs:List AV)(m:Qj)

end

section
variable (L:List PO)(hl:L.length≤maxLen)(lt:PO→PO→Bool)(c:Nat)(cs:List AV)(m:Qj)

end

section
variable (L:List PE)(hl:L.length≤maxLen)(lt:PE→PE→Bool)(c:Nat)(cs:List AV)(m:Qj)

end

section
variable (L:List PI)(hl:L.length≤maxLen)(lt:PI→PI→Bool)(c:Nat)(cs:List AV)(m:Qj)

end

def cl (c:Nat):Int:=if 97≤c∧c≤122 then 1 else if 65≤c∧c≤90 then 2 else if 48≤c∧c≤57 then 3 else if c=95 then 4 else 0

def pq (s:List UInt8)(j:Nat):Bool:=match s[j]? with
 |some c=>if j=0 then YC c else WC c
 |none=>true
theorem U8 {s:List UInt8}{j:Nat}{c:UInt8}(h:s[j]? = some c):pq s j=if j=0 then YC c else WC c:=by
 unfold pq;rw[h]

theorem UH (s:List UInt8):XK s=(decide (1≤s.length)&&decide (s.length≤40)&&QP (pq s) s.length):=by
 cases s with
 |nil=>rfl
 |cons c t=>
  have h1:decide (1≤(c :: t).length)=true:=by simp
  rw[h1,QRf];show(decide ((c :: t).length≤40)&&YC c&&t.all WC)=_;rw[QQm];congr 1
  rw[QRq,QPY,ZU,QPM]
  constructor
  ·rintro⟨h2,h3⟩ i hi;cases i with
   |zero=>rw[U8 (c:=c) rfl,QP5 rfl];exact h2
   |succ i=>
    have hlt:i<t.length:=by simpa using hi
    rw[U8 (c:=t[i]) (by simp[QPE hlt]),QPO (by omega)];exact h3 _ (QQs _)
  ·intro h;refine⟨?_,fun x hx=>?_⟩
   ·have:=h 0 (by simp)
    rwa [U8 (c:=c) rfl,QP5 rfl]at this
   ·obtain⟨i,hi⟩:=QPL.1 hx;have hlt:=(QPD.1 hi).1;have:=h (i+1) (by simpa using hlt)
    rwa [U8 (c:=x) (by simpa using hi),QPO (by omega)]at this

def Bk (c:UInt8):Bool:=decide (97≤c.toNat)&&decide (c.toNat≤122)
def Bl (c:UInt8):Bool:=decide (65≤c.toNat)&&decide (c.toNat≤90)

theorem QsF (c:UInt8):Qh Tryz.prog 167 [.int .u8 (c.toNat:Nat)] (.bool (Bk c)):=by
 refine QIr.fn (by simp) ?_;have e1:decide ((c.toNat:Int)≥97)=decide (97≤c.toNat):=by rw[decide_eq_decide];omega
 have e2:decide ((c.toNat:Int)≤122)=decide (c.toNat≤122):=by rw[decide_eq_decide];omega
 simp only[e1,Bk,Qb,seval];cases h:decide (97≤c.toNat)<;>simp only[e2,QRf,QQ5,Qb,seval]

theorem QsG (c:UInt8):Qh Tryz.prog 168 [.int .u8 (c.toNat:Nat)] (.bool (Bl c)):=by
 refine QIo.fn (by simp) ?_;have e1:decide ((c.toNat:Int)≥65)=decide (65≤c.toNat):=by rw[decide_eq_decide];omega
 have e2:decide ((c.toNat:Int)≤90)=decide (c.toNat≤90):=by rw[decide_eq_decide];omega
 simp only[e1,Bl,Qb,seval];cases h:decide (65≤c.toNat)<;>simp only[e2,QRf,QQ5,Qb,seval]

theorem RU (c:UInt8):WC c=(Bk c||Bl c || !((c.toNat:Int) != 95) || !(decide ((c.toNat:Int)<48)||decide ((c.toNat:Int) > 57))):=by
 unfold WC YC Bk Bl;generalize c.toNat=x;rw[QRq];simp only[QQz,QPY,QQW,QP1,QQx,bne_eq_false_iff_eq,QQt,QRr];omega

def PrI (s:List UInt8)(k:Nat)(st:St):Prop :=
 ∃f i,st=⟨f,[QE],[]⟩∧k=s.length-i∧1≤i∧QP (pq s) i=true∧f 0=.str s∧f 3=.int .i64 (i:Nat)

theorem RV (s:List UInt8):Qh Tryz.prog 111 [.str s] (.bool (XK s)):=by
 refine QIf.fn (by simp) ?_;simp only[Qb,seval];by_cases hl:s.length=0
 ·have d0:((s.length:Int)==0)=true:=by rw[hl];rfl
  have e:XK s=false:=by rw[UH,hl];rfl
  simp only[d0,e,Qb,seval]
 have d0:((s.length:Int)==0)=false:=by rw[QRk];omega
 by_cases hm:s.length≤40
 case neg=>
  have d1:decide ((s.length:Int) > 40)=true:=QRs (by omega);have e:XK s=false:=by rw[UH,QRo hm,QRt,QQ5]
  simp only[d0,d1,e,Qb,seval]
 have d1:decide ((s.length:Int) > 40)=false:=QRo (by omega);have hp:XK s=QP (pq s) s.length:=by rw[UH,QRs hm,QRs (by omega:1≤s.length)];rfl
 obtain⟨c,hc⟩:∃c,s[0]? = some c:=⟨s[0]'(by omega),QPE (by omega)⟩;have hq0:QP (pq s) 1=(Bk c||Bl c):=by
  show(true&&pq s 0)=_;rw[U8 hc,QP5 rfl];rfl
 have h1:=QsF c;have h2:=QsG c;have hn:QP (pq s) 1=false→XK s=false:=fun h=>by
  rw[hp,Bool.eq_false_iff];intro h';rw[ZU.2 fun k hk=>ZU.1 h' k (by omega)]at h;cases h
 have z1:Int.toNat 0=0:=rfl;have go:QP (pq s) 1=true→∀(f:Fr),f 0=.str s→f 3=.int .i64 1→∀Q:Exit→St→Prop,(∀f,QP (pq s) s.length=true→Q (.exit 0) ⟨f,[QE],[]⟩)→(∀f,f 2=.bool false→QP (pq s) s.length=false→Q .ret ⟨f,[QE],[]⟩)→QH Tryz.prog (.loop Pi) ⟨f,[QE],[]⟩ Q:=by
  intro hq1 f h0 h3 Q hx hr;refine Qg (PrI s) _ ⟨_,1,rfl,rfl,QPB _,hq1,h0,h3⟩ ?_;clear h0 h3 hc hq0 h1 h2 hn;rintro _ st ⟨f,i,rfl,rfl,h1i,hx1,h0,h3⟩;simp only[h0,h3,Qb,seval];by_cases hlt:i<s.length
  ·obtain⟨c,hc⟩:∃c,s[i]? = some c:=⟨s[i],QPE hlt⟩;have e1:=Qw i _ hlt (by simp only[maxLen];omega);have hs1:=QsF c;have hs2:=QsG c;have hstep:QP (pq s) (i+1)=WC c:=by
    rw[QP,hx1,QRf,U8 hc,QPO (by omega)]
   have hend:WC c=false→QP (pq s) s.length=false:=fun h=>by
    rw[Bool.eq_false_iff];intro h';rw[ZU.2 fun k hk=>ZU.1 h' k (by omega)]at hstep;rw[h]at hstep;cases hstep
   have fin:∀f':Fr,WC c=true→f' 0=.str s→f' 3=.int .i64 ((i+1:Nat):Int)→∃k,k<s.length-i∧PrI s k ⟨f',[QE],[]⟩:=by
    intro f' hp h0 h3;exact⟨s.length-(i+1),by omega,f',i+1,rfl,rfl,by omega,by rw[hstep,hp],h0,h3⟩
   have hpc:=RU c;simp only[Qr hlt,Qm,QQ2,hc,h0,h3,Qb,seval];refine Qa hs1 rfl rfl rfl (.inl rfl) ?_;cases a1:Bk c
   ·simp only[Qm,QQ2,hc,h0,h3,QQH,Qb,seval];refine Qa hs2 rfl rfl rfl (.inl rfl) ?_;cases a2:Bl c
    ·cases a3:((c.toNat:Int) != 95)
     ·rw[a1,a2,a3]at hpc;simp only[a3,Qm,QQ2,hc,h0,h3,e1,QQH,Qb,seval];exact fin _ (by rw[hpc];rfl) (by exact h0) (by rfl)
     ·cases a4:decide ((c.toNat:Int)<48)
      ·cases a5:decide ((c.toNat:Int) > 57)
       ·rw[a1,a2,a3,a4,a5]at hpc;simp only[a3,a4,a5,Qm,QQ2,hc,h0,h3,e1,QQH,Qb,seval];exact fin _ (by rw[hpc];rfl) (by exact h0) (by rfl)
       ·rw[a1,a2,a3,a4,a5]at hpc;simp only[a3,a4,a5,Qm,QQ2,hc,h0,h3,QQH,Qb,seval];exact hr _ (by rfl) (hend (by rw[hpc];rfl))
      ·rw[a1,a2,a3,a4]at hpc;simp only[a3,a4,Qm,QQ2,hc,h0,h3,QQH,Qb,seval];exact hr _ (by rfl) (hend (by rw[hpc];rfl))
    ·rw[a1,a2]at hpc;simp only[h3,e1,QRg,Qb,seval];exact fin _ (by rw[hpc];rfl) (by exact h0) (by rfl)
   ·rw[a1]at hpc;simp only[h3,e1,QRg,Qb,seval];exact fin _ (by rw[hpc];rfl) (by exact h0) (by rfl)
  ·simp only[QO hlt,Qb,seval];exact hx _ (ZU.2 fun k hk=>ZU.1 hx1 k (by omega))
 simp only[d0,d1,z1,hc,Qb,seval];refine Qa h1 rfl rfl rfl (.inl rfl) ?_;cases a1:Bk c
 ·simp only[z1,hc,QQH,Qb,seval];refine Qa h2 rfl rfl rfl (.inl rfl) ?_;cases a2:Bl c
  ·rw[a1,a2]at hq0;simp only[hn hq0,QQH,Qb,seval]
  ·rw[a1,a2]at hq0;simp only[QRg,Qb,seval];refine go hq0 _ (by rfl) (by rfl) _ (fun f h=>?_) (fun f h2 h=>?_)
   ·simp only[hp,h,Qb,seval]
   ·simp only[hp,h,h2,Qb,seval]
 ·rw[a1,QRi]at hq0;simp only[QRg,Qb,seval];refine go hq0 _ (by rfl) (by rfl) _ (fun f h=>?_) (fun f h2 h=>?_)
  ·simp only[hp,h,Qb,seval]
  ·simp only[hp,h,h2,Qb,seval]

theorem QsH (s:List UInt8):Qh Tryz.prog 110 [.str s] (.bool (J6 s)):=by
 refine QIi.fn (by simp) ?_;simp only[Q5,Qb,seval];have e:J6 s=Ci.any fun w=>s==w:=rfl
 simp only[Ci,List.any_cons,List.any_nil,QRu]at e
 repeat' (first|(refine QK (fun h=>?_) (fun h=>?_)<;>simp only[h,Q5,Qb,seval])|(refine Xo (fun h=>?_) (fun h=>?_)<;>simp only[h,Qk,Q5,eE,seval])|(refine Xp (fun h=>?_) (fun h=>?_)<;>simp only[h,Qk,Q5,eE,seval]))
 all_goals(simp only[*,QRi,Bool.or_true,QRu]at e;simp only[e])

theorem z62 (s:List UInt8):Qh Tryz.prog 62 [.str s] (.bool (Zv s)):=by
 refine k62.fn (by simp) ?_;simp only[Zv,Qb,seval];refine Qa (RV s) rfl rfl rfl (.inl rfl) ?_;cases XK s
 ·simp only[QQ5,Qb,seval]
 ·simp only[QRf,Qb,seval];refine Qa (QsH s) rfl rfl rfl (.inl rfl) ?_;simp only[Qb,seval]

def FuI (s:List UInt8)(k:Nat)(st:St):Prop :=
 ∃f i p,st=⟨f,[QE],[]⟩∧k=s.length-i∧i≤s.length∧p.length≤i∧(∀c∈p,c≠(46:UInt8))∧(QM s).all XK=(QM (p++s.drop i)).all XK∧f 0=.str s∧f 3=.str p∧f 4=.int .i64 (i:Nat)

theorem QKj (s:List UInt8):Qh Tryz.prog 108 [.str s] (.bool (decide (s.length≤120)&&(QM s).all XK)):=by
 refine QIc.fn (by simp) ?_;simp only[Qb,seval];by_cases hm:s.length≤120
 case neg=>
  have d1:decide ((s.length:Int) > 120)=true:=QRs (by omega);simp only[d1,QRo hm,QQ5,Qb,seval]
 have d1:decide ((s.length:Int) > 120)=false:=QRo (by omega);simp only[d1,QRs hm,QRf,Qb,seval];refine Qg (FuI s) _ ⟨_,0,[],rfl,rfl,QPJ _,QPB _,by simp,rfl,(by rfl),(by rfl),(by rfl)⟩ ?_;rintro _ st ⟨f,i,p,rfl,rfl,hi,hpl,hpd,hx,h0,h3,h4⟩;simp only[h0,h4,Qb,seval];by_cases hlt:i<s.length
 ·obtain⟨c,hc⟩:∃c,s[i]? = some c:=⟨s[i],QPE hlt⟩;have e1:=Qw i _ hlt (by simp only[maxLen];omega);have hd:s.drop i=c :: s.drop (i+1):=by
   rw[QQk hlt];congr 1
   exact(QPD.1 hc).2
  have hts:(s.drop i).take (i+1-i)=[c]:=by
   rw[hd,show i+1-i=1 by omega];rfl
  simp only[Qr hlt,Qm,QQ2,hc,h0,h4,Qb,seval];by_cases hdot:c=46
  ·subst hdot;have b0:((((46:UInt8).toNat:Nat):Int) != 46)=false:=rfl;have hs:(QM s).all XK=(XK p&&(QM (s.drop (i+1))).all XK):=by
    rw[hx,hd,Cj hpd];rfl
   simp only[h3,Qb,seval];refine Qa (RV p) rfl rfl rfl (.inl rfl) ?_;cases hp:XK p
   ·rw[hp,QQ5]at hs;simp only[hs,QQH,Qb,seval]
   ·rw[hp,QRf]at hs;simp only[h4,e1,QRg,Qb,seval];exact⟨s.length-(i+1),by omega,_,i+1,[],rfl,rfl,by omega,QPJ _,by simp,by rw[hs];rfl,(by exact h0),(by rfl),(by rfl)⟩
  ·have b0:(((c.toNat:Nat):Int) != 46)=true:=by
    rw[QP2];intro h
    apply hdot
    rw[←UInt8.toNat_inj];have:c.toNat=46:=by omega
    rw[this];rfl
   have hle:(i≤i+1∧i+1≤s.length)=True:=eq_true ⟨by omega,by omega⟩;have hsum:(p.length≤9223372036854775806)=True:=eq_true (by omega);simp only[b0,h0,h3,h4,e1,Jk,Jt,Xj,Qm,QQ2,hle,hts,Q5,hsum,Qb,seval];exact⟨s.length-(i+1),by omega,_,i+1,p++[c],rfl,rfl,by omega,by simp;omega,fun x hx=>by
    rcases QQS.1 hx with h|h
    ·exact hpd x h
    ·simp at h;subst h;exact hdot,by rw[hx,hd];simp,(by exact h0),(by rfl),(by rfl)⟩
 ·have hx':(QM s).all XK=XK p:=by
   rw[hx,QQd (by omega),QQD,UE hpd];simp
  simp only[QO hlt,h3,hx',Qb,seval];refine Qa (RV p) rfl rfl rfl (.inl rfl) ?_;simp only[Qb,seval]

def Yr (s:List UInt8):Nat→Option Nat
 |0=>none
 |j+1=>if s[j]? = some 46 then some j else Yr s j

theorem UI (s:List UInt8):∀n,match Yr s n with
  |none=>∀k,k<n→s[k]?≠some 46
  |some j=>j<n∧s[j]? = some 46∧∀k,j<k→k<n→s[k]?≠some 46
 |0=>by simp[Yr]
 |n+1=>by
  unfold Yr;split
  ·rename_i h;split at h
   ·cases h
   ·rename_i h';have:=UI s n;rw[h]at this;intro k hk;rcases Nat.lt_succ_iff_lt_or_eq.1 hk with h1|rfl
    ·exact this k h1
    ·exact h'
  ·rename_i j h;split at h
   ·rename_i h';cases h;exact⟨by omega,h',fun k h1 h2=>by omega⟩
   ·rename_i h';have:=UI s n;rw[h]at this;exact⟨by omega,this.2.1,fun k h1 h2=>by
     rcases Nat.lt_succ_iff_lt_or_eq.1 h2 with h3|rfl
     ·exact this.2.2 k h1 h3
     ·exact h'⟩

def Ja (s:List UInt8):List UInt8×List UInt8:=match Yr s s.length with
 |none=>([],s)
 |some j=>(s.take j,s.drop (j+1))

theorem Bm (s:List UInt8):((Ja s).1=[]∧(Ja s).2=s∧∀c∈s,c≠46)∨(s=(Ja s).1++46 :: (Ja s).2∧∀c∈(Ja s).2,c≠46):=by
 have h:=UI s s.length;unfold Ja;cases hl:Yr s s.length with
 |none=>
  rw[hl]at h;refine .inl ⟨rfl,rfl,fun c hc e=>?_⟩;subst e;obtain⟨k,hk⟩:=QPL.1 hc;exact h k (QPD.1 hk).1 hk
 |some j=>
  rw[hl]at h;obtain⟨h1,h2,h3⟩:=h;refine .inr ⟨?_,fun c hc e=>?_⟩
  ·have:s[j]=46:=(QPD.1 h2).2;show s=s.take j++46 :: s.drop (j+1);rw[←this,←QQk h1,QQQ]
  ·subst e;obtain⟨k,hk⟩:=QPL.1 hc;rw[QQg]at hk;exact h3 (j+1+k) (by omega) (QPD.1 hk).1 hk

def SdI (s:List UInt8)(k:Nat)(st:St):Prop :=
 ∃f,st=⟨f,[QE],[]⟩∧k≤s.length∧Yr s s.length=Yr s k∧f 0=.str s∧f 4=.int .i64 ((k:Int)-1)

theorem QKk (s:List UInt8)(hs:s.length≤120):Qh Tryz.prog 109 [.str s] (.tup [.str (Ja s).1,.str (Ja s).2]):=by
 refine QIl.fn (by simp) ?_;have w0:IntKind.i64.wrap ((s.length:Int)-1)=(s.length:Int)-1:=by rw[QB];omega
 simp only[w0,Qb,seval];refine Qg (SdI s) _ ⟨_,rfl,QPB _,rfl,(by rfl),(by rfl)⟩ ?_;rintro k st ⟨f,rfl,hk,hx,h0,h4⟩;simp only[h4,Qb,seval];cases k with
 |zero=>
  have d0:decide (((0:Nat):Int)-1≥0)=false:=rfl;have e:Ja s=([],s):=by unfold Ja;rw[hx];rfl
  simp only[e,h0,Qb,seval]
 |succ j=>
  have j1:((j+1:Nat):Int)-1=(j:Int):=by omega
  have d0:decide (((j:Nat):Int)≥0)=true:=QRs (by omega);have w1:IntKind.i64.wrap ((j:Int)-1)=(j:Int)-1:=by rw[QB];omega
  have w2:IntKind.i64.wrap ((j:Int)+1)=((j+1:Nat):Int):=by rw[QB];omega
  obtain⟨c,hc⟩:∃c,s[j]? = some c:=⟨s[j]'(by omega),QPE (by omega)⟩;simp only[j1,Qm,QQ2,hc,h0,h4,Qb,seval];by_cases hdot:c=46
  ·subst hdot;have b0:((((46:UInt8).toNat:Nat):Int)==46)=true:=rfl;have e:Ja s=(s.take j,s.drop (j+1)):=by
    unfold Ja;rw[hx];show(match (if s[j]? = some 46 then some j else Yr s j)with|none=>([],s)|some j=>(s.take j,s.drop (j+1)))=_;rw[QP5 hc]
   have hle:(0≤j∧j≤s.length)=True:=eq_true ⟨by omega,by omega⟩;have hle2:(j+1≤s.length∧s.length≤s.length)=True:=eq_true ⟨by omega,QPB _⟩;have ht:((s.drop 0).take j)=s.take j:=by simp
   have ht2:((s.drop (j+1)).take (s.length-(j+1)))=s.drop (j+1):=QQa (by simp);simp only[w2,j1,e,Jk,Jt,Xj,QQy,Qm,QQ2,hle,hle2,ht2,h0,h4,Qb,seval]
  ·have b0:(((c.toNat:Nat):Int)==46)=false:=by
    rw[QRk];intro h
    apply hdot
    rw[←UInt8.toNat_inj];have:c.toNat=46:=by omega
    rw[this];rfl
   have hne:¬s[j]? = some 46:=fun h=>by rw[hc]at h;cases h;exact hdot rfl
   simp only[b0,j1,w1,h4,Qb,seval];exact⟨j,by omega,_,rfl,by omega,by rw[hx];show(if s[j]? = some 46 then some j else Yr s j)=_;rw[QPO hne],(by exact h0),(by rfl)⟩

def Pn (u:List UInt8):Bool:=if u=[]then false else(QM u).any J6

def DfI (s:List UInt8)(k:Nat)(st:St):Prop :=
 ∃f u,st=⟨f,[QE],[]⟩∧k=u.length∧u.length≤120∧(u≠[]→(QM u).all XK=true)∧(QM s).any J6=Pn u∧f 0=.str u

theorem z61 (s:List UInt8):Qh Tryz.prog 61 [.str s] (.bool (Yq s)):=by
 refine k61.fn (by simp) ?_;simp only[Yq,Qb,seval];refine Qa (QKj s) rfl rfl rfl (.inl rfl) ?_;cases hf:(decide (s.length≤120)&&(QM s).all XK)
 ·simp only[QQ5,QQH,Qb,seval]
 simp only[QRf,QRg,Qb,seval];obtain⟨hl,ha⟩:=QPF.1 hf;have hl:=of_decide_eq_true hl;have hne:s≠[]:=by
  rintro rfl;cases ha
 refine Qg (DfI s) _ ⟨_,s,rfl,rfl,hl,fun _=>ha,by unfold Pn;rw[QPO hne],(by rfl)⟩ ?_;rintro _ st ⟨f,u,rfl,rfl,hul,hua,hx,h0⟩;simp only[h0,Q5,Qb,seval];by_cases hu:u=[]
 ·subst hu;have b0:(!(([]:List UInt8)==[]))=false:=rfl;have e:(QM s).any J6=false:=hx;simp only[b0,e,QQH,Qb,seval]
 ·have b0:(!(u==[]))=true:=by simp[hu]
  simp only[b0,h0,Qb,seval];refine Qa (QKk u hul) rfl rfl rfl (.inl rfl) ?_;simp only[Qb,seval];refine Qa (QsH (Ja u).2) rfl rfl rfl (.inl rfl) ?_;have hw:Pn u=(Pn (Ja u).1||J6 (Ja u).2):=by
   unfold Pn;rw[QPO hu];rcases Bm u with⟨h1,h2,h3⟩|⟨h1,h2⟩
   ·rw[h1,h2,QP5 rfl,UE h3];simp
   ·have hp:QM u=QM (Ja u).1++[(Ja u).2]:=by
     conv=>lhs;rw[h1]
     exact GA h2
    have ha':=hua hu;rw[hp,QQR,QPY]at ha';have hn:(Ja u).1≠[]:=by
     intro h;rw[h]at ha';cases ha'.1
    rw[QPO hn,hp];simp
  cases hq:J6 (Ja u).2
  ·rw[hq,QRu]at hw;simp only[Qb,seval];have hlen:(Ja u).1.length<u.length∧((Ja u).1≠[]→(QM (Ja u).1).all XK=true):=by
    rcases Bm u with⟨h1,h2,h3⟩|⟨h1,h2⟩
    ·rw[h1];exact⟨QQU.2 hu,fun h=>absurd rfl h⟩
    ·have hp:QM u=QM (Ja u).1++[(Ja u).2]:=by
      conv=>lhs;rw[h1]
      exact GA h2
     have ha':=hua hu;rw[hp,QQR,QPY]at ha';refine⟨?_,fun _=>ha'.1⟩;have:=congrArg List.length h1;simp at this;omega
   exact⟨(Ja u).1.length,hlen.1,_,(Ja u).1,rfl,rfl,by omega,hlen.2,by rw[hx,hw],(by rfl)⟩
  ·rw[hq,Bool.or_true]at hw;have e:(QM s).any J6=true:=hx.trans hw;simp only[e,QRg,Qb,seval]

section
variable (m:Qj)

end

section
variable {M:Nat}(P:PL)(hP:P.ok M)(hM:M≤17592186044000)
include hP hM

end

section
variable (L:List PO)(hl:L.length≤maxLen)(nm:PO→List UInt8)(c:Nat)(m:Qj)

end

section
variable (L:List PI)(hl:L.length≤maxLen)(nm:PI→List UInt8)(c:Nat)(m:Qj)

end

section
variable {M:Nat}(P:PL)(hP:P.ok M)
include hP

end

def GC (l:List PS)(i:Nat):Bool:=Hs l N9 i&&Zb l GB i
theorem LV (l:List PS):QP (GC l) l.length=(l.all N9&&JV l GB):=by
 unfold GC JV;rw[HJ,HK]

end Go.Proofs.YtfgchfdkiomfpaaGreat.Va

namespace Go.Proofs.YtfgchfdkiomfpaaGreat.Va
open Go Am Rc Bt

def bt (s:List UInt8)(i lo hi:Nat):Bool :=
 match s[i]? with
 |some b=>decide (lo≤b.toNat)&&decide (b.toNat≤hi)
 |none=>false
def tl (s:List UInt8):Nat→Nat→Bool
 |_,0=>true
 |i,n+1=>bt s i 128 191&&tl s (i+1) n
def DV (s:List UInt8)(i b:Nat):Nat :=
 if b<128 then 1
 else if 194≤b∧b≤223∧tl s (i+1) 1=true then 2
 else if b=224∧bt s (i+1) 160 191=true∧tl s (i+2) 1=true then 3
 else if b=237∧bt s (i+1) 128 159=true∧tl s (i+2) 1=true then 3
 else if 225≤b∧b≤239∧b≠237∧tl s (i+1) 2=true then 3
 else if b=240∧bt s (i+1) 144 191=true∧tl s (i+2) 2=true then 4
 else if 241≤b∧b≤243∧tl s (i+1) 3=true then 4
 else if b=244∧bt s (i+1) 128 143=true∧tl s (i+2) 2=true then 4
 else 0
def sz (s:List UInt8)(i:Nat):Nat :=
 match s[i]? with
 |none=>0
 |some c=>DV s i c.toNat
def Yh (s:List UInt8):Nat→Nat→Int
 |0,_=>-1
 |k+1,i=>if i<s.length then(if sz s i=0 then(i:Int)else Yh s k (i+sz s i))else -1
def YD (s:List UInt8):Bool:=decide (Yh s s.length 0<0)

theorem QKl (c:UInt8)(n:Nat):decide ((c.toNat:Int)≥(n:Int))=decide (n≤c.toNat):=by simp
theorem QKm (c:UInt8)(n:Nat):decide ((c.toNat:Int)≤(n:Int))=decide (c.toNat≤n):=by simp

theorem Bn (s:List UInt8)(i lo hi:Nat):Qh Tryz.prog 218 [.str s,.int .i64 (i:Nat),.int .u8 (lo:Nat),.int .u8 (hi:Nat)] (.bool (bt s i lo hi)):=by
 refine QHV.fn (by simp) ?_;by_cases hlt:i<s.length
 ·obtain⟨c,hc⟩:∃c,s[i]? = some c:=⟨s[i],QPE hlt⟩;have hb:bt s i lo hi=(decide (lo≤c.toNat)&&decide (c.toNat≤hi)):=by simp only[bt,hc]
  simp only[Qr hlt,Qm,QQ2,hc,QKl,Qb,seval];by_cases h1:lo≤c.toNat
  ·have d1:decide (lo≤c.toNat)=true:=by simpa using h1
   simp only[d1,Qm,QQ2,hc,hb,QKm,QRf,Qb,seval]
  ·have d1:decide (lo≤c.toNat)=false:=by simpa using h1
   simp only[d1,hb,QQ5,Qb,seval]
 ·have hb:bt s i lo hi=false:=by simp only[bt,QQY (Nat.le_of_not_lt hlt)]
  simp only[QO hlt,hb,Qb,seval]

def QEi (s:List UInt8)(i n:Nat)(k:Nat)(st:St):Prop :=
 ∃f j,st=⟨f,[QE],[]⟩∧k=n-j∧j≤n∧tl s i n=tl s (i+j) (n-j)∧f 0=.str s∧f 1=.int .i64 (i:Nat)∧f 2=.int .i64 (n:Nat)∧f 7=.int .i64 (j:Nat)

theorem J1 (a b:Nat)(h:a+b≤maxLen):IntKind.i64.wrap ((a:Int)+(b:Int))=((a+b:Nat):Int):=by
 simp only[maxLen]at h;rw[QB];omega

theorem HP (s:List UInt8)(i n:Nat)(hi:i+n≤maxLen):Qh Tryz.prog 217 [.str s,.int .i64 (i:Nat),.int .i64 (n:Nat)] (.bool (tl s i n)):=by
 refine QHY.fn (by simp) ?_;simp only[Qb,seval];refine Qg (QEi s i n) _ ⟨_,0,rfl,rfl,QPJ _,rfl,rfl,rfl,rfl,rfl⟩ ?_;rintro _ st ⟨f,j,rfl,rfl,hj,ht,h0,h1,h2,h7⟩;simp only[h2,h7,Qb,seval];by_cases hlt:j<n
 ·have e0:=J1 i j (by omega);have e1:=Qw j _ hlt (by omega);simp only[Qr hlt,h0,h1,h7,e0,Qb,seval];refine Qa (Bn s (i+j) 128 191) rfl rfl rfl (.inl rfl) ?_;have hs:tl s i n=(bt s (i+j) 128 191&&tl s (i+(j+1)) (n-(j+1))):=by
   rw[ht];obtain⟨m,hm⟩:∃m,n-j=m+1:=⟨n-j-1,by omega⟩;rw[hm,show n-(j+1)=m by omega];rfl
  cases hb:bt s (i+j) 128 191
  ·rw[hb]at hs;simp only[hs,QQ5,Qb,seval]
  ·rw[hb,QRf]at hs;simp only[h7,e1,Qb,seval];exact⟨n-(j+1),by omega,_,j+1,rfl,rfl,by omega,hs,(by exact h0),(by exact h1),(by exact h2),(by rfl)⟩
 ·have hs:tl s i n=true:=by
   rw[ht,show n-j=0 by omega];rfl
  simp only[QO hlt,hs,Qb,seval]

def Bo (s:List UInt8)(i:Nat)(c:UInt8)(D:Nat)(cond:Prop)(g:List Am.Item):Prop :=
 ∀Q:St→Prop,(∀f' B,(B=true↔cond)→f' 0=.str s→f' 1=.int .i64 (i:Nat)→f' 5=.int .u8 (c.toNat:Nat)→f' D=.bool B→Q ⟨f',[QE],[]⟩)→
  ∀f,f 0=.str s→f 1=.int .i64 (i:Nat)→f 5=.int .u8 (c.toNat:Nat)→QD Tryz.prog g ⟨f,[QE],[]⟩ Q

section
variable {s:List UInt8}{i:Nat}{c:UInt8}(hi:i<s.length)(hs:s.length+8≤maxLen)
include hi hs

theorem QKn:Bo s i c 12 (194≤c.toNat∧c.toNat≤223∧tl s (i+1) 1=true) F9:=by
 intro Q hQ f h0 h1 h5;have e1:IntKind.i64.wrap ((i:Int)+1)=((i+1:Nat):Int):=J1 i 1 (by omega);have e2:IntKind.i64.wrap ((i:Int)+2)=((i+2:Nat):Int):=J1 i 2 (by omega);simp only[F9,h5,Qb,seval]
 repeat' (first|(refine QK (fun h=>?_) (fun h=>?_)<;>simp only[h,h0,h1,h5,e1,e2,eE,seval])|(refine Xo (fun h=>?_) (fun h=>?_)<;>simp only[h,Qk,h0,h1,h5,e1,Qb,seval])|(refine Xp (fun h=>?_) (fun h=>?_)<;>simp only[h,Qk,h0,h1,h5,e1,e2,eE,seval])|((with_reducible apply Qa (k:=217));(case hy=>rfl);(case h1=>rfl);(case hk=>exact HP s (i+1) 1 (by omega));(case h2=>rfl);(case h3=>first|exact .inl rfl|exact .inr rfl);simp only[Qb,seval]))
 all_goals(refine hQ _ _ ?_ (by exact h0) (by exact h1) (by exact h5) rfl)
 all_goals simp only[QQW,QRr]at *
 all_goals
  constructor
  ·intro hh
   first
    |cases hh
    |(refine⟨by omega,?_⟩;first|exact hh|(refine⟨by omega,?_⟩;first|exact hh|(refine⟨by omega,?_⟩;exact hh))|exact⟨by assumption,hh⟩)
  ·intro hh
   first
    |exact hh.2.2.2
    |exact hh.2.2
    |(exfalso;omega)
    |(exfalso;simp_all;done)

theorem QKo:Bo s i c 25 (c.toNat=224∧bt s (i+1) 160 191=true∧tl s (i+2) 1=true) Ba:=by
 intro Q hQ f h0 h1 h5;have e1:IntKind.i64.wrap ((i:Int)+1)=((i+1:Nat):Int):=J1 i 1 (by omega);have e2:IntKind.i64.wrap ((i:Int)+2)=((i+2:Nat):Int):=J1 i 2 (by omega);simp only[Ba,h5,Qb,seval]
 repeat' (first|(refine QK (fun h=>?_) (fun h=>?_)<;>simp only[h,h0,h1,h5,e1,e2,eE,seval])|(refine Xo (fun h=>?_) (fun h=>?_)<;>simp only[h,Qk,h0,h1,e1,e2,Qb,seval])|(refine Xp (fun h=>?_) (fun h=>?_)<;>simp only[h,Qk,h0,h1,h5,e1,e2,eE,seval])|((with_reducible apply Qa (k:=218));(case hy=>rfl);(case h1=>rfl);(case hk=>exact Bn s (i+1) 160 191);(case h2=>rfl);(case h3=>first|exact .inl rfl|exact .inr rfl);simp only[Qb,seval])|((with_reducible apply Qa (k:=217));(case hy=>rfl);(case h1=>rfl);(case hk=>exact HP s (i+2) 1 (by omega));(case h2=>rfl);(case h3=>first|exact .inl rfl|exact .inr rfl);simp only[Qb,seval]))
 all_goals(refine hQ _ _ ?_ (by exact h0) (by exact h1) (by exact h5) rfl)
 all_goals simp only[QP1,QRk,ne_eq]at *
 all_goals
  constructor
  ·intro hh
   first
    |cases hh
    |(refine⟨by omega,?_⟩;first|exact hh|(refine⟨by omega,?_⟩;first|exact hh|(refine⟨by omega,?_⟩;exact hh))|exact⟨by assumption,hh⟩)
  ·intro hh
   first
    |exact hh.2.2.2
    |exact hh.2.2
    |(exfalso;omega)
    |(exfalso;simp_all;done)

theorem QKp:Bo s i c 40 (c.toNat=237∧bt s (i+1) 128 159=true∧tl s (i+2) 1=true) Bb:=by
 intro Q hQ f h0 h1 h5;have e1:IntKind.i64.wrap ((i:Int)+1)=((i+1:Nat):Int):=J1 i 1 (by omega);have e2:IntKind.i64.wrap ((i:Int)+2)=((i+2:Nat):Int):=J1 i 2 (by omega);simp only[Bb,h5,Qb,seval]
 repeat' (first|(refine QK (fun h=>?_) (fun h=>?_)<;>simp only[h,h0,h1,h5,e1,e2,eE,seval])|(refine Xo (fun h=>?_) (fun h=>?_)<;>simp only[h,Qk,h0,h1,e1,e2,Qb,seval])|(refine Xp (fun h=>?_) (fun h=>?_)<;>simp only[h,Qk,h0,h1,h5,e1,e2,eE,seval])|((with_reducible apply Qa (k:=218));(case hy=>rfl);(case h1=>rfl);(case hk=>exact Bn s (i+1) 128 159);(case h2=>rfl);(case h3=>first|exact .inl rfl|exact .inr rfl);simp only[Qb,seval])|((with_reducible apply Qa (k:=217));(case hy=>rfl);(case h1=>rfl);(case hk=>exact HP s (i+2) 1 (by omega));(case h2=>rfl);(case h3=>first|exact .inl rfl|exact .inr rfl);simp only[Qb,seval]))
 all_goals(refine hQ _ _ ?_ (by exact h0) (by exact h1) (by exact h5) rfl)
 all_goals simp only[QP1,QRk,ne_eq]at *
 all_goals
  constructor
  ·intro hh
   first
    |cases hh
    |(refine⟨by omega,?_⟩;first|exact hh|(refine⟨by omega,?_⟩;first|exact hh|(refine⟨by omega,?_⟩;exact hh))|exact⟨by assumption,hh⟩)
  ·intro hh
   first
    |exact hh.2.2.2
    |exact hh.2.2
    |(exfalso;omega)
    |(exfalso;simp_all;done)

theorem QEj:Bo s i c 55 (225≤c.toNat∧c.toNat≤239∧c.toNat≠237∧tl s (i+1) 2=true) Dk:=by
 intro Q hQ f h0 h1 h5;have e1:IntKind.i64.wrap ((i:Int)+1)=((i+1:Nat):Int):=J1 i 1 (by omega);have e2:IntKind.i64.wrap ((i:Int)+2)=((i+2:Nat):Int):=J1 i 2 (by omega);simp only[Dk,h5,Qb,seval]
 repeat' (first|(refine QK (fun h=>?_) (fun h=>?_)<;>simp only[h,h0,h1,h5,e1,e2,eE,seval])|(refine Xo (fun h=>?_) (fun h=>?_)<;>simp only[h,Qk,h0,h1,h5,e1,Qb,seval])|(refine Xp (fun h=>?_) (fun h=>?_)<;>simp only[h,Qk,h0,h1,h5,e1,e2,eE,seval])|((with_reducible apply Qa (k:=217));(case hy=>rfl);(case h1=>rfl);(case hk=>exact HP s (i+1) 2 (by omega));(case h2=>rfl);(case h3=>first|exact .inl rfl|exact .inr rfl);simp only[Qb,seval]))
 all_goals(refine hQ _ _ ?_ (by exact h0) (by exact h1) (by exact h5) rfl)
 all_goals simp only[QQW,QRr,QP2,bne_eq_false_iff_eq,ne_eq]at *
 all_goals
  constructor
  ·intro hh
   first
    |cases hh
    |(refine⟨by omega,?_⟩;first|exact hh|(refine⟨by omega,?_⟩;first|exact hh|(refine⟨by omega,?_⟩;exact hh))|exact⟨by assumption,hh⟩)
  ·intro hh
   first
    |exact hh.2.2.2
    |exact hh.2.2
    |(exfalso;omega)
    |(exfalso;simp_all;done)

theorem QEk:Bo s i c 72 (c.toNat=240∧bt s (i+1) 144 191=true∧tl s (i+2) 2=true) Dl:=by
 intro Q hQ f h0 h1 h5;have e1:IntKind.i64.wrap ((i:Int)+1)=((i+1:Nat):Int):=J1 i 1 (by omega);have e2:IntKind.i64.wrap ((i:Int)+2)=((i+2:Nat):Int):=J1 i 2 (by omega);simp only[Dl,h5,Qb,seval]
 repeat' (first|(refine QK (fun h=>?_) (fun h=>?_)<;>simp only[h,h0,h1,h5,e1,e2,eE,seval])|(refine Xo (fun h=>?_) (fun h=>?_)<;>simp only[h,Qk,h0,h1,e1,e2,Qb,seval])|(refine Xp (fun h=>?_) (fun h=>?_)<;>simp only[h,Qk,h0,h1,h5,e1,e2,eE,seval])|((with_reducible apply Qa (k:=218));(case hy=>rfl);(case h1=>rfl);(case hk=>exact Bn s (i+1) 144 191);(case h2=>rfl);(case h3=>first|exact .inl rfl|exact .inr rfl);simp only[Qb,seval])|((with_reducible apply Qa (k:=217));(case hy=>rfl);(case h1=>rfl);(case hk=>exact HP s (i+2) 2 (by omega));(case h2=>rfl);(case h3=>first|exact .inl rfl|exact .inr rfl);simp only[Qb,seval]))
 all_goals(refine hQ _ _ ?_ (by exact h0) (by exact h1) (by exact h5) rfl)
 all_goals simp only[QP1,QRk,ne_eq]at *
 all_goals
  constructor
  ·intro hh
   first
    |cases hh
    |(refine⟨by omega,?_⟩;first|exact hh|(refine⟨by omega,?_⟩;first|exact hh|(refine⟨by omega,?_⟩;exact hh))|exact⟨by assumption,hh⟩)
  ·intro hh
   first
    |exact hh.2.2.2
    |exact hh.2.2
    |(exfalso;omega)
    |(exfalso;simp_all;done)

theorem QEl:Bo s i c 87 (241≤c.toNat∧c.toNat≤243∧tl s (i+1) 3=true) Dm:=by
 intro Q hQ f h0 h1 h5;have e1:IntKind.i64.wrap ((i:Int)+1)=((i+1:Nat):Int):=J1 i 1 (by omega);have e2:IntKind.i64.wrap ((i:Int)+2)=((i+2:Nat):Int):=J1 i 2 (by omega);simp only[Dm,h5,Qb,seval]
 repeat' (first|(refine QK (fun h=>?_) (fun h=>?_)<;>simp only[h,h0,h1,h5,e1,e2,eE,seval])|(refine Xo (fun h=>?_) (fun h=>?_)<;>simp only[h,Qk,h0,h1,h5,e1,Qb,seval])|(refine Xp (fun h=>?_) (fun h=>?_)<;>simp only[h,Qk,h0,h1,h5,e1,e2,eE,seval])|((with_reducible apply Qa (k:=217));(case hy=>rfl);(case h1=>rfl);(case hk=>exact HP s (i+1) 3 (by omega));(case h2=>rfl);(case h3=>first|exact .inl rfl|exact .inr rfl);simp only[Qb,seval]))
 all_goals(refine hQ _ _ ?_ (by exact h0) (by exact h1) (by exact h5) rfl)
 all_goals simp only[QQW,QRr]at *
 all_goals
  constructor
  ·intro hh
   first
    |cases hh
    |(refine⟨by omega,?_⟩;first|exact hh|(refine⟨by omega,?_⟩;first|exact hh|(refine⟨by omega,?_⟩;exact hh))|exact⟨by assumption,hh⟩)
  ·intro hh
   first
    |exact hh.2.2.2
    |exact hh.2.2
    |(exfalso;omega)
    |(exfalso;simp_all;done)

theorem QEm:Bo s i c 100 (c.toNat=244∧bt s (i+1) 128 143=true∧tl s (i+2) 2=true) Dn:=by
 intro Q hQ f h0 h1 h5;have e1:IntKind.i64.wrap ((i:Int)+1)=((i+1:Nat):Int):=J1 i 1 (by omega);have e2:IntKind.i64.wrap ((i:Int)+2)=((i+2:Nat):Int):=J1 i 2 (by omega);simp only[Dn,h5,Qb,seval]
 repeat' (first|(refine QK (fun h=>?_) (fun h=>?_)<;>simp only[h,h0,h1,h5,e1,e2,eE,seval])|(refine Xo (fun h=>?_) (fun h=>?_)<;>simp only[h,Qk,h0,h1,e1,e2,Qb,seval])|(refine Xp (fun h=>?_) (fun h=>?_)<;>simp only[h,Qk,h0,h1,h5,e1,e2,eE,seval])|((with_reducible apply Qa (k:=218));(case hy=>rfl);(case h1=>rfl);(case hk=>exact Bn s (i+1) 128 143);(case h2=>rfl);(case h3=>first|exact .inl rfl|exact .inr rfl);simp only[Qb,seval])|((with_reducible apply Qa (k:=217));(case hy=>rfl);(case h1=>rfl);(case hk=>exact HP s (i+2) 2 (by omega));(case h2=>rfl);(case h3=>first|exact .inl rfl|exact .inr rfl);simp only[Qb,seval]))
 all_goals(refine hQ _ _ ?_ (by exact h0) (by exact h1) (by exact h5) rfl)
 all_goals simp only[QP1,QRk,ne_eq]at *
 all_goals
  constructor
  ·intro hh
   first
    |cases hh
    |(refine⟨by omega,?_⟩;first|exact hh|(refine⟨by omega,?_⟩;first|exact hh|(refine⟨by omega,?_⟩;exact hh))|exact⟨by assumption,hh⟩)
  ·intro hh
   first
    |exact hh.2.2.2
    |exact hh.2.2
    |(exfalso;omega)
    |(exfalso;simp_all;done)

end

theorem QKq (s:List UInt8)(i:Nat)(hi:i<s.length)(hs:s.length+8≤maxLen):Qh Tryz.prog 204 [.str s,.int .i64 (i:Nat)] (.int .i64 (sz s i:Nat)):=by
 refine QHP.fn (by simp) ?_;obtain⟨c,hc⟩:∃c,s[i]? = some c:=⟨s[i],QPE hi⟩;have hz:sz s i=DV s i c.toNat:=by simp only[sz,hc]
 unfold DV at hz;simp only[M9,Pa,Pb,Pd,Pe,Pf,Ph,NZ,N0,N1,N2,N3,Qkt,Qku,Qm,QQ2,hc,Qb,seval];refine QK (fun h=>?_) (fun h=>?_)
 ·have h:c.toNat<128:=by simp at h;omega
  rw[hz,QP5 h];simp only[Qb,seval]
  try rfl
 have h:¬c.toNat<128:=by simp at h;omega
 rw[hz,QPO h];simp only[Qb,seval];refine QKn hi hs _ (fun f B hB h0 h1 h5 hd=>?_) _ (by rfl) (by rfl) (by rfl);by_cases hB1:B=true
 ·rw[QP5 (hB.1 hB1)];subst hB1;simp only[hd,Qb,seval]
  try rfl
 rw[QPO (fun hh=>hB1 (hB.2 hh))];have hB2:B=false:=by simpa using hB1
 subst hB2;simp only[hd,Qb,seval];refine QKo hi hs _ (fun f B hB h0 h1 h5 hd=>?_) _ (by exact h0) (by exact h1) (by exact h5);by_cases hB1:B=true
 ·rw[QP5 (hB.1 hB1)];subst hB1;simp only[hd,Qb,seval]
  try rfl
 rw[QPO (fun hh=>hB1 (hB.2 hh))];have hB2:B=false:=by simpa using hB1
 subst hB2;simp only[hd,Qb,seval];refine QKp hi hs _ (fun f B hB h0 h1 h5 hd=>?_) _ (by exact h0) (by exact h1) (by exact h5);by_cases hB1:B=true
 ·rw[QP5 (hB.1 hB1)];subst hB1;simp only[hd,Qb,seval]
  try rfl
 rw[QPO (fun hh=>hB1 (hB.2 hh))];have hB2:B=false:=by simpa using hB1
 subst hB2;simp only[hd,Qb,seval];refine QEj hi hs _ (fun f B hB h0 h1 h5 hd=>?_) _ (by exact h0) (by exact h1) (by exact h5);by_cases hB1:B=true
 ·rw[QP5 (hB.1 hB1)];subst hB1;simp only[hd,Qb,seval]
  try rfl
 rw[QPO (fun hh=>hB1 (hB.2 hh))];have hB2:B=false:=by simpa using hB1
 subst hB2;simp only[hd,Qb,seval];refine QEk hi hs _ (fun f B hB h0 h1 h5 hd=>?_) _ (by exact h0) (by exact h1) (by exact h5);by_cases hB1:B=true
 ·rw[QP5 (hB.1 hB1)];subst hB1;simp only[hd,Qb,seval]
  try rfl
 rw[QPO (fun hh=>hB1 (hB.2 hh))];have hB2:B=false:=by simpa using hB1
 subst hB2;simp only[hd,Qb,seval];refine QEl hi hs _ (fun f B hB h0 h1 h5 hd=>?_) _ (by exact h0) (by exact h1) (by exact h5);by_cases hB1:B=true
 ·rw[QP5 (hB.1 hB1)];subst hB1;simp only[hd,Qb,seval]
  try rfl
 rw[QPO (fun hh=>hB1 (hB.2 hh))];have hB2:B=false:=by simpa using hB1
 subst hB2;simp only[hd,Qb,seval];refine QEm hi hs _ (fun f B hB h0 h1 h5 hd=>?_) _ (by exact h0) (by exact h1) (by exact h5);by_cases hB1:B=true
 ·rw[QP5 (hB.1 hB1)];subst hB1;simp only[hd,Qb,seval]
  try rfl
 rw[QPO (fun hh=>hB1 (hB.2 hh))];have hB2:B=false:=by simpa using hB1
 subst hB2;simp only[hd,Qb,seval]
 try rfl

theorem TH (s:List UInt8)(i:Nat)(hi:i<s.length)(_h:sz s i≠0):i+sz s i≤s.length:=by
 have tl1:∀n j,tl s j n=true→n≠0→j+n≤s.length:=by
  intro n
  induction n with
  |zero=>intro j _ h;exact absurd rfl h
  |succ n ih=>
   intro j hj _;simp only[tl,QPY]at hj;have hb:j<s.length:=by
    have h1:=hj.1;unfold bt at h1;split at h1
    ·rename_i b hb;exact(QPD.1 hb).1
    ·cases h1
   by_cases h0:n=0
   ·subst h0;omega
   ·have:=ih (j+1) hj.2 h0;omega
 obtain⟨c,hc⟩:∃c,s[i]? = some c:=⟨s[i],QPE hi⟩;simp only[sz,hc]at _h ⊢;unfold DV at _h ⊢
 (repeat' split)<;>first
  |omega
  |(rename_i hh;have:=tl1 _ _ hh.2.2 (by decide);omega)
  |(rename_i hh;have:=tl1 _ _ hh.2.2.2 (by decide);omega)
  |simp_all

def QKr (s:List UInt8)(k:Nat)(st:St):Prop :=
 ∃f i,st=⟨f,[QE],[]⟩∧i≤s.length∧s.length-i≤k∧Yh s s.length 0=Yh s k i∧f 0=.str s∧f 3=.int .i64 (i:Nat)

theorem QKs (s:List UInt8)(hs:s.length+8≤maxLen):Qh Tryz.prog 170 [.str s] (.int .i64 (Yh s s.length 0)):=by
 refine QHO.fn (by simp) ?_;simp only[Qb,seval];refine Qg (QKr s) s.length ⟨_,0,rfl,QPJ _,QPB _,rfl,rfl,rfl⟩ ?_;rintro k st ⟨f,i,rfl,hi,hk,hb,h0,h3⟩;simp only[h0,h3,Qb,seval];by_cases hlt:i<s.length
 ·simp only[Qr hlt,h0,h3,Qb,seval];refine Qa (QKq s i hlt hs) rfl rfl rfl (.inl rfl) ?_;obtain⟨k,rfl⟩:∃n,k=n+1:=⟨k-1,by omega⟩;have hbk:Yh s (k+1) i=if sz s i=0 then(i:Int)else Yh s k (i+sz s i):=by
   show(if i<s.length then _ else _)=_;rw[QP5 hlt]
  by_cases hz:sz s i=0
  ·have b0:((sz s i:Int)==0)=true:=by simp[hz]
   simp only[b0,h3,hb,hbk,QP5 hz,Qb,seval]
  ·have b0:((sz s i:Int)==0)=false:=by simp;omega
   have hle:=TH s i hlt hz;have e0:=J1 i (sz s i) (by omega);simp only[b0,h3,e0,Qb,seval];exact⟨k,by omega,_,i+sz s i,rfl,hle,by omega,by rw[hb,hbk,QPO hz],(by exact h0),(by rfl)⟩
 ·have hbk:Yh s k i = -1:=by
   cases k with
   |zero=>rfl
   |succ k=>
    show(if i<s.length then _ else _)=_;rw[QPO hlt]
  simp only[QO hlt,hb,hbk,Qb,seval]

theorem Ck (s:List UInt8)(hs:s.length+8≤maxLen):Qh Tryz.prog 115 [.str s] (.bool (YD s)):=by
 refine QHS.fn (by simp) ?_;simp only[Qb,seval];refine Qa (QKs s hs) rfl rfl rfl (.inl rfl) ?_;simp only[Qb,seval]
 try rfl

def Wq (s:List UInt8)(i:Nat):Bool:=(s.drop i).take 3==[239,191,189]

theorem QKt (s t:List UInt8):Qh Tryz.prog 227 [.str s,.str t] (.bool (s.take t.length==t)):=by
 refine Qg5.fn (by simp) ?_;by_cases h:t.length≤s.length
 ·have d0:decide ((s.length:Int)≥(t.length:Int))=true:=by simp;omega
  have s1:(0≤t.length∧t.length≤s.length)=True:=by simp;omega
  simp only[d0,Qm,s1,QQ2,Q5,QQy,QQj,Qb,seval]
 ·have d0:decide ((s.length:Int)≥(t.length:Int))=false:=by simp;omega
  have e0:(s.take t.length==t)=false:=by
   rw[QRk];intro hh;have:=congrArg List.length hh;simp at this;omega
  simp only[d0,e0,Qb,seval]

theorem QKu (s t:List UInt8):Qh Tryz.prog 225 [.str s,.str t] (.bool (s.take t.length==t)):=by
 refine Qg0.fn (by simp) ?_;simp only[Qb,seval];refine Qa (QKt s t) rfl rfl rfl (.inl rfl) ?_;simp only[Qb,seval]

theorem QKv (s:List UInt8)(i:Nat)(hi:i≤s.length)(c:Nat):Qh Tryz.prog 219 [.str s,.int .i64 (i:Nat),.int .i32 (c:Nat)] (.bool (decide (c=65533) && !Wq s i)):=by
 refine QgJ.fn (by simp) ?_;by_cases hc:c=65533
 ·have b0:((c:Int)==65533)=true:=by simp[hc]
  have s1:(i≤s.length∧s.length≤s.length)=True:=by simp;omega
  simp only[b0,Qm,s1,QQ2,Qb,seval];refine Qa (QKu (List.take (s.length-i) (List.drop i s)) [239,191,189]) rfl rfl rfl (.inl rfl) ?_;have ht:List.take (s.length-i) (List.drop i s)=List.drop i s:=QQa (by simp);simp only[ht,Wq,hc,Qb,seval]
 ·have b0:((c:Int)==65533)=false:=by simp;omega
  simp only[b0,hc,Qb,seval];simp

end Go.Proofs.YtfgchfdkiomfpaaGreat.Va

namespace Go.Proofs.YtfgchfdkiomfpaaGreat.Vp

def Du:Nat→Nat→List UInt8
 |0,u=>[UInt8.ofNat u]
 |k+1,u=>if u<128 then [UInt8.ofNat u]else UInt8.ofNat (u % 128+128) :: Du k (u / 128)

def put (u:Nat):List UInt8:=Du 9 u

def JW:Nat→Nat→List UInt8→Nat×Nat×Nat
 |_,_,[]=>(0,0,4)
 |i,acc,c :: t=>
  if i=9∧1<c.toNat then(0,0,6)
  else if c.toNat<128 then(acc+c.toNat*128 ^ i,i+1,0)
  else JW (i+1) (acc+(c.toNat-128)*128 ^ i) t

def take (s:List UInt8):Nat×Nat×Nat:=JW 0 0 s

theorem toNat_ofNat (n:Nat)(h:n<256):(UInt8.ofNat n).toNat=n:=by
 simp[UInt8.toNat_ofNat'];omega

theorem RX (k u:Nat):1≤(Du k u).length∧(Du k u).length≤k+1:=by
 induction k generalizing u with
 |zero=>simp[Du]
 |succ k ih=>
  unfold Du;split
  ·simp
  ·have:=ih (u / 128);simp;omega

theorem put_len (u:Nat):1≤(put u).length∧(put u).length≤10:=RX 9 u

theorem Cm (i acc:Nat)(s:List UInt8)(hi:i≤9)(ha:acc<128 ^ i)(h:(JW i acc s).2.2=0) :
  i<(JW i acc s).2.1∧(JW i acc s).2.1≤i+s.length∧(JW i acc s).2.1≤10∧(JW i acc s).1<2 ^ 64:=by
 induction s generalizing i acc with
 |nil=>simp[JW]at h
 |cons c t ih=>
  unfold JW at h ⊢;split
  ·rename_i h1;rw[QP5 h1]at h;simp at h
  ·rename_i h1;rw[QPO h1]at h;have hp:128 ^ i=2 ^ (7*i):=by rw[show(128:Nat)=2 ^ 7 from rfl,←Nat.pow_mul]
   split
   ·rename_i h2;refine⟨Nat.lt_succ_self i,by simp,by show i+1≤10;omega,?_⟩;show acc+c.toNat*128 ^ i<2 ^ 64;rcases Nat.lt_or_ge i 9 with h9|h9
    ·have:c.toNat*128 ^ i≤127*128 ^ i:=QQF _ (by omega);have h3:acc+c.toNat*128 ^ i<128 ^ (i+1):=by rw[Nat.pow_succ];omega
     have h4:128 ^ (i+1)≤128 ^ 9:=QRv (by omega) (by omega);omega
    ·obtain rfl:i=9:=by omega
     have:c.toNat≤1:=by omega
     omega
   ·rename_i h2;rw[QPO h2]at h;have h9:i<9:=by
     rcases Nat.lt_or_ge i 9 with h9|h9
     ·exact h9
     ·exact absurd ⟨by omega,by omega⟩ h1
    have hc:=c.toNat_lt;have h3:acc+(c.toNat-128)*128 ^ i<128 ^ (i+1):=by
     have:(c.toNat-128)*128 ^ i≤127*128 ^ i:=QQF _ (by omega);rw[Nat.pow_succ];omega
    obtain⟨a,b,d,e⟩:=ih (i+1) _ (by omega) h3 h;exact⟨by omega,by simp;omega,d,e⟩

theorem Nr (s:List UInt8)(h:(take s).2.2=0):0<(take s).2.1∧(take s).2.1≤s.length∧(take s).2.1≤10∧(take s).1<2 ^ 64:=by
 have:=Cm 0 0 s (by omega) (by omega) h
 simpa [take]using this

theorem Cn (i acc:Nat)(s t:List UInt8)(h:(JW i acc s).2.2≠4):JW i acc (s++t)=JW i acc s:=by
 induction s generalizing i acc with
 |nil=>simp[JW]at h
 |cons c r ih=>
  simp only[QPW];unfold JW at h ⊢;split
  ·rfl
  ·rename_i h1;rw[QPO h1]at h;split
   ·rfl
   ·rename_i h2;rw[QPO h2]at h;exact ih _ _ h

theorem LW (i acc:Nat)(s:List UInt8)(hi:i≤9)(hl:10≤i+s.length):(JW i acc s).2.2≠4:=by
 induction s generalizing i acc with
 |nil=>simp at hl;omega
 |cons c r ih=>
  unfold JW;split
  ·simp
  ·rename_i h1;split
   ·simp
   ·rename_i h2;exact ih _ _ (by omega) (by simp at hl;omega)

theorem take_take (s:List UInt8):take (s.take 10)=take s:=by
 rcases Nat.lt_or_ge s.length 10 with h|h
 ·rw[QQa (by omega)]
 ·have:=Cn 0 0 (s.take 10) (s.drop 10) (LW 0 0 _ (by omega) (by simp;omega));rw[QQQ]at this;exact this.symm

end Go.Proofs.YtfgchfdkiomfpaaGreat.Vp

namespace Go.Proofs.YtfgchfdkiomfpaaGreat.Va
open Go Am Rc Bt Vp

theorem J7 (s:List UInt8)(j:Nat)(c:UInt8)(h:s[j]? = some c):(⟨⟨s⟩⟩:ByteArray).get! j=c:=by
 show(⟨s⟩:Array UInt8)[j]! = c;simp[h]

theorem Dv (a:UInt8)(n:Nat)(hn:n<256):(a==UInt8.ofNat n)=decide (a.toNat=n):=by
 rw[QRq,QP1,QQW]
 constructor
 ·rintro rfl;rw[toNat_ofNat _ hn]
 ·intro h;rw[←UInt8.toNat_inj,toNat_ofNat _ hn,h]

set_option maxHeartbeats 4000000 in
theorem QKw (s:List UInt8)(i:Nat)(a b c d:UInt8)(t:List UInt8)(hr:s.drop i=a :: b :: c :: d :: t):(decide ((Za s i).1=65533) && !Wq s i)=decide (sz s i=0)∧(sz s i≠0→(Za s i).2=sz s i):=by
 have hsz:∀j,(s[i+j]? = (a :: b :: c :: d :: t)[j]?):=fun j=>by rw[←hr,QQg]
 have hn:ByteArray.size ⟨⟨s⟩⟩=s.length:=rfl;have hl:s.length=i+(a :: b :: c :: d :: t).length:=by
  have h:=congrArg List.length hr;simp at h ⊢;omega
 have h0:=hsz 0;have h1:=hsz 1;have h2:=hsz 2;have h3:=hsz 3;simp only[QP7]at h0;have g0:=J7 s i a h0;have g1:=J7 s (i+1) b h1;have g2:=J7 s (i+2) c h2;have g3:=J7 s (i+3) d h3;have l1:(i+1<s.length)=True:=by simp at hl ⊢;omega
 have l2:(i+2<s.length)=True:=by simp at hl ⊢;omega
 have l3:(i+3<s.length)=True:=by simp at hl ⊢;omega
 have wa:=a.toNat_lt;have wb:=b.toNat_lt;have wc:=c.toNat_lt;have wd:=d.toNat_lt;have hrep:Wq s i=(decide (a.toNat=239)&&(decide (b.toNat=191)&&decide (c.toNat=189))):=by
  rw[←Dv a 239 (by decide),←Dv b 191 (by decide),←Dv c 189 (by decide)];simp[Wq,hr]
 simp only[QQG,QQC]at h0 h1 h2 h3;generalize hD:Za s i=D;generalize hS:sz s i=S;rw[hrep];simp only[Za,Utf8.decode,Utf8.valid,Utf8.runeError,hn,l1,l2,l3,QP7,g0,g1,g2,g3,sz,h0,DV,tl,bt,QPA,seval,h1,h2,h3,decide_true,QRf,QQN,QPY,QQz,QQW,QP1,ge_iff_le]at hD hS;clear hsz hr hl h0 h1 h2 h3 g0 g1 g2 g3 l1 l2 l3 hrep hn;generalize a.toNat=x at *;generalize b.toNat=y at *;generalize c.toNat=z at *;generalize d.toNat=u at *
 (repeat' split at hD)<;>subst hD<;>(repeat' split at hS)<;>subst hS<;>refine⟨?_,?_⟩<;>(try rw[QRq])<;>(try simp only[QPY,QQW,QQx,Bool.and_eq_false_iff,QRr])<;>first|omega|(intro _;rfl)|(simp;done)|(simp;omega)

theorem RY (s:List UInt8)(i:Nat)(hi:i<s.length):(decide ((Za s i).1=65533) && !Wq s i)=decide (sz s i=0)∧(sz s i≠0→(Za s i).2=sz s i):=by
 have hsz:∀j,(s[i+j]? = (s.drop i)[j]?):=fun j=>by rw[QQg]
 have hn:ByteArray.size ⟨⟨s⟩⟩=s.length:=rfl;have hl:s.length=i+(s.drop i).length:=by simp;omega
 generalize hr:s.drop i=r at hsz hl;have h0:=hsz 0;have h1:=hsz 1;have h2:=hsz 2;have h3:=hsz 3;simp only[QP7]at h0
 match r,hl with
 | [],hl=>simp at hl;omega
 | [a],hl=>
  have g0:=J7 s i a h0;have l1:(i+1<s.length)=False:=by simp at hl ⊢;omega
  have l2:(i+2<s.length)=False:=by simp at hl ⊢;omega
  have l3:(i+3<s.length)=False:=by simp at hl ⊢;omega
  have wa:=a.toNat_lt;have hrep:Wq s i=false:=by simp[Wq,hr]
  simp only[QQG,List.getElem?_nil,QQC]at h0 h1 h2 h3;simp only[Za,Utf8.decode,Utf8.runeError,hn,l1,l2,l3,QP7,g0,sz,h0,DV,tl,bt,QPA,seval,h1,h2,h3,hrep,decide_false,QQ5,QRt,QQN,QPT,and_false]
  (repeat' split)<;>refine⟨?_,?_⟩<;>(try rw[QRq])<;>(try simp only[QQW,QQH,QQN])<;>first|omega|(intro _;rfl)|(intro _;omega)|(simp;done)|(simp;omega)
 | [a,b],hl=>
  have g0:=J7 s i a h0;have g1:=J7 s (i+1) b h1;have l1:(i+1<s.length)=True:=by simp at hl ⊢;omega
  have l2:(i+2<s.length)=False:=by simp at hl ⊢;omega
  have l3:(i+3<s.length)=False:=by simp at hl ⊢;omega
  have wa:=a.toNat_lt;have wb:=b.toNat_lt;have hrep:Wq s i=false:=by simp[Wq,hr]
  simp only[QQG,List.getElem?_nil,QQC]at h0 h1 h2 h3;simp only[Za,Utf8.decode,Utf8.runeError,hn,l1,l2,l3,QP7,g0,g1,sz,h0,DV,tl,bt,QPA,seval,h1,h2,h3,hrep,decide_false,decide_true,QQ5,QRt,QRf,QQN,QPT,and_false,QPY,QQW,QP1,ge_iff_le]
  (repeat' split)<;>refine⟨?_,?_⟩<;>(try rw[QRq])<;>(try simp only[QQW,QQH,QQN])<;>first|omega|(intro _;rfl)|(intro _;omega)|(simp;done)|(simp;omega)
 | [a,b,c],hl=>
  have g0:=J7 s i a h0;have g1:=J7 s (i+1) b h1;have g2:=J7 s (i+2) c h2;have l1:(i+1<s.length)=True:=by simp at hl ⊢;omega
  have l2:(i+2<s.length)=True:=by simp at hl ⊢;omega
  have l3:(i+3<s.length)=False:=by simp at hl ⊢;omega
  have wa:=a.toNat_lt;have wb:=b.toNat_lt;have wc:=c.toNat_lt;have hrep:Wq s i=(decide (a.toNat=239)&&(decide (b.toNat=191)&&decide (c.toNat=189))):=by
   rw[←Dv a 239 (by decide),←Dv b 191 (by decide),←Dv c 189 (by decide)];simp[Wq,hr]
  simp only[QQG,List.getElem?_nil,QQC]at h0 h1 h2 h3;simp only[Za,Utf8.decode,Utf8.valid,Utf8.runeError,hn,l1,l2,l3,QP7,g0,g1,g2,sz,h0,DV,tl,bt,QPA,seval,h1,h2,h3,hrep,decide_false,decide_true,QQ5,QRt,QRf,QQN,QPT,and_false,QPY,QQz,QQW,QP1,ge_iff_le]
  (repeat' split)<;>refine⟨?_,?_⟩<;>(try rw[QRq])<;>(try simp only[QPY,QQW,QQx,QRr,Bool.and_eq_false_iff])<;>first|omega|(intro _;rfl)|(intro _;omega)|(simp;done)|(simp;omega)
 |a :: b :: c :: d :: t,hl=>exact QKw s i a b c d t hr

def QKx (s:List UInt8)(k:Nat)(st:St):Prop :=
 ∃f fr i,st=⟨f,[fr],[]⟩∧i≤s.length∧s.length-i≤k∧Yh s s.length 0=Yh s k i∧f 0=.str s∧f 6=.ptr 0 6 0∧fr 6=.iter (.str s) i

theorem QKy (s:List UInt8):Qh Tryz.prog 206 [.str s] (.int .i64 (Yh s s.length 0)):=by
 refine QIG.fn (by simp) ?_;simp only[Qb,seval];refine MH rfl rfl ?_;simp only[Qb,seval];refine Qg (QKx s) s.length ⟨_,_,0,rfl,QPJ _,QPB _,rfl,(by rfl),(by rfl),(by rfl)⟩ ?_;rintro k st ⟨f,fr,i,rfl,hi,hk,hb,h0,h6,m6⟩;simp only[Qb,seval];refine MI (by exact h6) m6 (fun hlt=>?_) (fun hge=>?_)
 ·obtain⟨hd,hw⟩:=RY s i hlt;obtain⟨k,rfl⟩:∃n,k=n+1:=⟨k-1,by omega⟩;have hbk:Yh s (k+1) i=if sz s i=0 then(i:Int)else Yh s k (i+sz s i):=by
   show(if i<s.length then _ else _)=_;rw[QP5 hlt]
  have hwr:=QKv s i hi (Za s i).1;rw[hd]at hwr;generalize Za s i=cw at hw hwr;obtain⟨c,w⟩:=cw;simp only[h0,Qb,seval];refine Qa hwr rfl rfl rfl (.inl rfl) ?_;by_cases hz:sz s i=0
  ·simp only[hz,decide_true,hb,hbk,Qb,seval]
  ·have hw:=hw hz;simp only at hw;have hle:=TH s i hlt hz;simp only[hz,decide_false,Qb,seval];exact⟨k,by omega,_,_,i+sz s i,rfl,hle,by omega,by rw[hb,hbk,QPO hz],(by exact h0),(by exact h6),by rw[←hw]<;>first|rfl|simp only[eE,seval]⟩
 ·have hbk:Yh s k i = -1:=by
   cases k with
   |zero=>rfl
   |succ k=>
    show(if i<s.length then _ else _)=_;rw[QPO (by omega)]
  simp only[hb,hbk,Qb,seval]

theorem QsI (s:List UInt8):Qh Tryz.prog 184 [.str s] (.bool (YD s)):=by
 refine QfH.fn (by simp) ?_;simp only[Qb,seval];refine Qa (QKy s) rfl rfl rfl (.inl rfl) ?_;simp only[Qb,seval]
 try rfl

end Go.Proofs.YtfgchfdkiomfpaaGreat.Va

namespace Go.Proofs.YtfgchfdkiomfpaaGreat.Va
open Go Am Rc Bt

def Jf (k:Int)(b:Nat):Bool :=
 if k=1 then decide ((b:Int)≤1)else if k=2 then decide (IntKind.i64.wrap (b:Int)≥-2147483648)&&decide (IntKind.i64.wrap (b:Int)≤2147483647)
 else if k=4 then decide ((b:Int)<4294967296)else if k=9 then decide ((b:Int)<2147483648)else true

theorem QKz (k:Int)(b:Nat):Qh Tryz.prog 207 [.int .i64 k,.int .u64 (b:Nat)] (.bool (Jf k b)):=by
 have e1:decide ((b:Int)≤4294967295)=decide ((b:Int)<4294967296):=by rw[decide_eq_decide];omega
 have e2:decide ((b:Int)≤2147483647)=decide ((b:Int)<2147483648):=by rw[decide_eq_decide];omega
 refine Qgu.fn (by simp) ?_;simp only[Qb,seval];unfold Jf;by_cases h1:k=1
 ·subst h1;have b1:((1:Int)==1)=true:=rfl;simp only[b1,Qb,seval]
 ·have b1:(k==1)=false:=by simp[h1]
  by_cases h2:k=2
  ·subst h2;have b2:((2:Int)==2)=true:=rfl;simp only[b1,b2,h1,Qb,seval];cases hd:decide (IntKind.i64.wrap (b:Int)≥-2147483648)<;>simp only[QRf,QQ5,Qb,seval]
  ·have b2:(k==2)=false:=by simp[h2]
   by_cases h9:k=9
   ·subst h9;have b9:((9:Int)==9)=true:=rfl;simp only[b1,b2,b9,h1,h2,e2,Qb,seval]
   ·have b9:(k==9)=false:=by simp[h9]
    by_cases h4:k=4
    ·subst h4;have b4:((4:Int)==4)=true:=rfl;simp only[b1,b2,b9,b4,h1,h2,e1,Qb,seval]
    ·have b4:(k==4)=false:=by simp[h4]
     simp only[b1,b2,b9,b4,h1,h2,h4,h9,Qb,seval]

end Go.Proofs.YtfgchfdkiomfpaaGreat.Va

namespace Go.Proofs.YtfgchfdkiomfpaaGreat.Ev
open Go Am Rc

def tab:NH:=fun k=>match k with
 |6=>some (r6,o6,40)
 |9=>some (r9,o9,48)
 |24=>some (r24,o24,43)
 |12=>some (Uz,o12,74)
 |14=>some (r14,o14,15)
 |15=>some (r15,o15,54)
 |19=>some (r19,o19,2)
 |11=>some (Yf,o11,2)
 |53=>some (SI,NX,8)
 |58=>some (r58,o58,9)
 |60=>some (r60,o60,20)
 |25=>some (r25,o25,21)
 |26=>some (r26,o26,93)
 |27=>some (r27,o27,86)
 |35=>some (r35,o35,19)
 |36=>some (r36,o36,8)
 |37=>some (SL,o37,23)
 |106=>some (Qbv,Qbw,63)
 |107=>some (Qbz,QbA,6)
 |49=>some (r49,o49,42)
 |47=>some (r47,o47,22)
 |48=>some (r48,o48,11)
 |50=>some (r50,o50,64)
 |54=>some (r54,o54,40)
 |55=>some (r55,o55,12)
 |56=>some (r56,o56,67)
 |57=>some (r57,o57,27)
 |165=>some (QbX,QbY,53)
 |89=>some (r89,o89,23)
 |88=>some (r88,o88,21)
 |91=>some (r91,o91,21)
 |92=>some (r92,o92,95)
 |93=>some (r93,o93,6)
 |95=>some (r95,o95,87)
 |97=>some (SO,NY,8)
 |98=>some (r98,o98,9)
 |99=>some (r99,o99,10)
 |100=>some (Qcp,Qcq,8)
 |101=>some (Qcx,Qcy,20)
 |102=>some (QcE,QcF,17)
 |104=>some (QcK,QcL,14)
 |105=>some (QcP,QcQ,20)
 |139=>some (Qc3,Qc4,36)
 |140=>some (Qda,Qdb,20)
 |141=>some (Qdg,Qdh,11)
 |142=>some (Qdr,Qds,30)
 |143=>some (Qdy,Qdz,22)
 |145=>some (QdE,QdF,20)
 |146=>some (QdS,QdT,66)
 |147=>some (QdZ,Qd0,16)
 |148=>some (Qec,Qed,27)
 |150=>some (Qei,Qej,18)
 |151=>some (Qev,Qew,68)
 |152=>some (QeI,QeJ,72)
 |155=>some (QeY,QeZ,63)
 |156=>some (Qe9,Qfa,19)
 |157=>some (Ce,Dj,8)
 |162=>some (Qfm,Qfn,29)
 |163=>some (Qfr,Qfs,9)
 |164=>some (QfA,QfB,28)
 |184=>some (QfF,QfG,6)
 |185=>some (QfK,QfL,11)
 |186=>some (QfR,QfS,39)
 |187=>some (QfZ,Qf0,34)
 |189=>some (Qgb,Qgc,53)
 |202=>some (Qgf,Qgg,9)
 |207=>some (Qgs,Qgt,28)
 |208=>some (Qgx,Qgy,9)
 |209=>some (QgC,QgD,9)
 |219=>some (QgH,QgI,16)
 |220=>some (QgT,QgU,19)
 |225=>some (QgY,QgZ,8)
 |227=>some (Qg3,Qg4,18)
 |_=>none

theorem QsK:Fo Tryz.prog tab:=by
 intro k c rs N h;unfold tab at h;split at h
 ·cases h;exact k6
 ·cases h;exact k9
 ·cases h;exact k24
 ·cases h;exact NW
 ·cases h;exact k14
 ·cases h;exact k15
 ·cases h;exact k19
 ·cases h;exact k11
 ·cases h;exact k53
 ·cases h;exact k58
 ·cases h;exact k60
 ·cases h;exact k25
 ·cases h;exact k26
 ·cases h;exact k27
 ·cases h;exact k35
 ·cases h;exact k36
 ·cases h;exact k37
 ·cases h;exact QGR
 ·cases h;exact QbB
 ·cases h;exact k49
 ·cases h;exact k47
 ·cases h;exact k48
 ·cases h;exact k50
 ·cases h;exact k54
 ·cases h;exact k55
 ·cases h;exact SM
 ·cases h;exact k57
 ·cases h;exact QGS
 ·cases h;exact k89
 ·cases h;exact k88
 ·cases h;exact k91
 ·cases h;exact k92
 ·cases h;exact k93
 ·cases h;exact k95
 ·cases h;exact k97
 ·cases h;exact k98
 ·cases h;exact k99
 ·cases h;exact Qcr
 ·cases h;exact Qcz
 ·cases h;exact RD
 ·cases h;exact QcM
 ·cases h;exact QcR
 ·cases h;exact Qc5
 ·cases h;exact Qdc
 ·cases h;exact Qdi
 ·cases h;exact Qdt
 ·cases h;exact QdA
 ·cases h;exact QdG
 ·cases h;exact QdU
 ·cases h;exact Qd1
 ·cases h;exact Qee
 ·cases h;exact Qek
 ·cases h;exact Qex
 ·cases h;exact QeK
 ·cases h;exact QGT
 ·cases h;exact Qfb
 ·cases h;exact RE
 ·cases h;exact Qfo
 ·cases h;exact Qft
 ·cases h;exact QfC
 ·cases h;exact QfH
 ·cases h;exact QfM
 ·cases h;exact QfT
 ·cases h;exact Qf1
 ·cases h;exact QGU
 ·cases h;exact Qgh
 ·cases h;exact Qgu
 ·cases h;exact Qgz
 ·cases h;exact QgE
 ·cases h;exact QgJ
 ·cases h;exact QgV
 ·cases h;exact Qg0
 ·cases h;exact Qg5
 ·cases h

def nat:Ws:=fun _ _ _=>none

theorem nat_ok:WA Tryz.prog nat:=by
 intro k args m v m' h;cases h

end Go.Proofs.YtfgchfdkiomfpaaGreat.Ev

namespace Go.Proofs.YtfgchfdkiomfpaaGreat.Va
open Go Am Rc Bt

def vo (k:Int)(b:Nat)(t:List UInt8)(l p s r:List AV):AV:=.agg [.int .i64 k,.int .u64 (b:Nat),.str t,.list l,.list p,.list s,.list r]

section
variable (k:Int)(b:Nat)(t:List UInt8)(l p s r:List AV)

def Wt:Bool:=(l.length:Int)==0&&(p.length:Int)==0&&(s.length:Int)==0&&(r.length:Int)==0
def Bp:Bool:=isk k&&Wt l p s r&&(b:Int)==0&&t==[]
def emp:Bool:=(k==11&&(l.length:Int)==0)||(k==12&&(p.length:Int)==0)||Bp k b t l p s r

theorem RZ:Qh Tryz.prog 138 [vo k b t l p s r] (.bool (Wt l p s r)):=by
 refine QH6.fn (by simp) ?_;simp only[vo,Wt,eE,seval];cases h0:((l.length:Int)==0)<;>cases h1:((p.length:Int)==0)<;>cases h2:((s.length:Int)==0)<;>simp only[h1,h2,QRf,QQ5,eE,seval]

theorem QsL (hl:l.length≤140737488351232)(hp:p.length≤140737488351232)(hs:s.length≤140737488351232)(hr:r.length≤140737488351232) :
  Qh Tryz.prog 164 [vo k b t l p s r] (.bool (Wt l p s r&&(if XZ k=true then(b:Int)==0 else t==[]))):=by
 refine QfC.fn (by simp) ?_;have w:IntKind.i64.wrap (IntKind.i64.wrap (IntKind.i64.wrap ((l.length:Int)+(p.length:Int))+(s.length:Int))+(r.length:Int))=(l.length+p.length+s.length+r.length:Nat):=by
  simp only[QB];omega
 simp only[vo,w,eE,seval];by_cases h:l.length+p.length+s.length+r.length=0
 ·have d:decide (((l.length+p.length+s.length+r.length:Nat):Int) > 0)=false:=QRo (by omega);have e:Wt l p s r=true:=by
   unfold Wt;simp only[QPY,QP1];omega
  simp only[d,e,QRf,eE,seval];refine Qa (QsC k) rfl rfl rfl (.inl rfl) ?_;cases XZ k
  ·simp only[QPT,Q5,eE,seval]
  ·simp only[eE,seval]
 ·have d:decide (((l.length+p.length+s.length+r.length:Nat):Int) > 0)=true:=QRs (by omega);have e:Wt l p s r=false:=by
   unfold Wt;rw[Bool.eq_false_iff];simp only[ne_eq,QPY,QP1];omega
  simp only[d,e,QQ5,Qb,seval]

end

open Br

def key (o:PO):Bool:=if o.card=5 then decide (o.key≥1)&&decide (o.key≤7)&&o.key != 6 else o.key==0
def Vb (P:PL)(o:PO):Bool :=
 if o.kind=10 then decide (o.target≥0)&&decide (o.target<(P.progs.length:Int))&&o.card != 3
 else if o.kind=9 then decide (o.target≥0)&&decide (o.target<(P.enums.length:Int))else isk o.kind&&o.target == -1
def Jv (P:PL)(o:PO):Bool:=YD o.alias&&decide ((o.alias.length:Int)≤4096)&&decide (o.card≥1)&&decide (o.card≤5)&&key o&&Vb P o
def KL (o:PO):Bool:=o.union == -1||o.card==2
def JT:List PO→Int→Int→Option Int
 | [],n,_=>some n
 |o :: l,n,b=>if o.union=n then JT l (n+1) n else if o.union = -1∨o.union=b then JT l n o.union else none
def Wr (g:PG):Bool:=match JT g.ops 0 (-1)with
 |some n=>g.unions==n
 |none=>false
def ZI (k kd:Int)(b:Nat)(t:List UInt8)(l p s r:List AV):Bool :=
 isk k&&kd==k&&Wt l p s r&&(if XZ kd=true then(b:Int)==0 else t==[])&&Jf k b&&decide ((t.length:Int)≤4096)&&(k != 7||YD t)
def alias:List UInt8:=[97,108,105,97,115]
def nok:List AV→Bool
 | [.int _ kd,.int _ b,.str t,.list l,.list p,.list s,.list r]=>ZI 7 kd b.toNat t l p s r
 |_=>false
def Wd (i:PI):Bool:=match i.notes with
 | []=>true
 | [n]=>n.name==alias&&nok n.val
 |_=>false
def KC (P:PL)(g:PG):Bool:=Wr g&&g.ops.all fun o=>Jv P o&&KL o
def Ys (x:PE):Bool:=x.notes.isEmpty&&x.items.all Wd
def args (P:PL):Bool:=P.progs.all (KC P)&&P.enums.all Ys

theorem QKA (k kd:Int)(b:Nat)(t:List UInt8)(l p s r:List AV)(hl:l.length≤140737488351232)(hp:p.length≤140737488351232)(hs:s.length≤140737488351232)(hr:r.length≤140737488351232) :
  Qh Tryz.prog 186 [.int .i64 k,vo kd b t l p s r] (.bool (ZI k kd b t l p s r)):=by
 have hle:=QsL kd b t l p s r hl hp hs hr;have hw:=QKz k b;simp only[vo]at hle;have n1:(kd != k)=!(kd==k):=rfl;have n2:(k != 7)=!(k==7):=rfl;have n3:decide ((t.length:Int) > 4096)=!decide ((t.length:Int)≤4096):=(by rw[QRq];simp only[QQW,QQx,QRr];omega);refine QfT.fn (by simp) ?_;simp only[vo,ZI,n2,eE,seval];refine Qa (Bf k) rfl rfl rfl (.inl rfl) ?_;cases isk k
 ·simp only[QQ5,QQH,Qb,seval]
 simp only[QRf,QRg,n1,eE,seval];cases a1:(kd==k)
 ·simp only[QQ5,QQH,Qb,seval]
 simp only[QRf,QRg,eE,seval];refine Qa hle rfl rfl rfl (.inl rfl) ?_;cases(Wt l p s r&&(if XZ kd=true then(b:Int)==0 else t==[]))
 ·simp only[QQ5,QQH,Qb,seval]
 simp only[QRf,QRg,eE,seval];refine Qa hw rfl rfl rfl (.inl rfl) ?_;cases Jf k b
 ·simp only[QQ5,QQH,Qb,seval]
 simp only[QRf,QRg,n3,eE,seval];cases a2:decide ((t.length:Int)≤4096)
 ·simp only[QQ5,QQH,Qb,seval]
 simp only[QRf,QRg,n2,Qb,seval];cases a3:(k==7)
 ·simp only[QQH,QRi,Qb,seval]
 ·simp only[QRg,QRj,eE,seval];refine Qa (QsI t) rfl rfl rfl (.inl rfl) ?_;simp only[Qb,seval]

section
variable (P:PL)

theorem Co {l:List PO}{i:Nat}{o:PO}(h:l[i]? = some o)(n b:Int):JT (l.drop i) n b=if o.union=n then JT (l.drop (i+1)) (n+1) n else if o.union = -1∨o.union=b then JT (l.drop (i+1)) n o.union else none:=by
 have hlt:i<l.length:=(QPD.1 h).1;rw[QQk hlt,show l[i]=o from(QPD.1 h).2];rfl

end

section
variable (kd:Int)(b:Nat)(t:List UInt8)(l p s r:List AV)(hl:l.length≤140737488351232)(hp:p.length≤140737488351232)(hs:s.length≤140737488351232)(hr:r.length≤140737488351232)

def nv:AV:=.agg [.str alias,.int .i64 kd,.int .u64 (b:Nat),.str t,.list l,.list p,.list s,.list r]

end

theorem QEn {M:Nat}{n:PN}(h:n.ok Tryz.prog M 35)(hM:M≤140737488351232):∃kd b t l p s r,n.val=[.int .i64 kd,.int .u64 ((b:Nat):Int),.str t,.list l,.list p,.list s,.list r]∧t.length≤M∧l.length≤140737488351232∧p.length≤140737488351232∧s.length≤140737488351232∧r.length≤140737488351232:=by
 obtain⟨_,k,hk⟩:=h;obtain⟨k,h⟩:=ZO Tryz.underlying35 hk;simp only[XB.HasL]at h;obtain⟨_,_,e,h0,_,_,rfl,h1,_,_,rfl,h2,_,_,rfl,h3,_,_,rfl,h4,_,_,rfl,h5,_,_,rfl,h6,rfl⟩:=h;obtain⟨a0,rfl,w0⟩:=ZK Tryz.underlying3 h0;obtain⟨a1,rfl,w1⟩:=ZK Tryz.underlying29 h1;obtain⟨a2,rfl,w2⟩:=KX Tryz.underlying9 h2;obtain⟨_,l3,rfl,w3,_⟩:=WB Tryz.underlying30 h3;obtain⟨_,l4,rfl,w4,_⟩:=WB Tryz.underlying31 h4;obtain⟨_,l5,rfl,w5,_⟩:=WB Tryz.underlying32 h5;obtain⟨_,l6,rfl,w6,_⟩:=WB Tryz.underlying33 h6;have hb:0≤a1:=QaB w1;obtain⟨b,rfl⟩:=QRh hb;exact⟨a0,b,a2,_,_,_,_,e,w2,by simp;omega,by simp;omega,by simp;omega,by simp;omega⟩

def Jg (B:List Bool)(o:PO):Bool:=o.card==1&&o.kind==10 && !(B[o.target.toNat]?.getD false)
def TI (G:List PG)(B:List Bool)(i:Nat):List Bool:=match G[i]? with
 |some g=>B.set i (!g.ops.any (Jg B))
 |none=>B
def Wu (G:List PG)(B:List Bool):Nat→List Bool
 |0=>B
 |i+1=>TI G (Wu G B i) i
def Qe (G:List PG):Nat→List Bool
 |0=>List.replicate G.length false
 |c+1=>Wu G (Qe G c) G.length
def fin (P:PL):Bool:=(Qe P.progs P.progs.length).all id

def TJ (P:PL):Prop:=∀g∈P.progs,∀o∈g.ops,o.kind=10→0≤o.target∧o.target<(P.progs.length:Int)

theorem LX (G:List PG)(B:List Bool)(i:Nat):(TI G B i).length=B.length:=by
 unfold TI;split<;>simp
theorem Dw (G:List PG)(B:List Bool):∀i,(Wu G B i).length=B.length
 |0=>rfl
 |i+1=>by rw[Wu,LX,Dw G B i]
theorem Vc (G:List PG):∀c,(Qe G c).length=G.length
 |0=>by simp[Qe]
 |c+1=>by rw[Qe,Dw,Vc G c]

structure En (P:PL)(c:Nat)(B:List Bool)(f:Fr)(fr:Nat→Ob):Prop where
 h1:f 1=.ptr 0 1 0
 m1:fr 1=.cells [.list (P.progs.map Qp),.list (P.enums.map QW)]
 h3:f 3=.ptr 0 3 0
 m3:fr 3=.cells [.vec 0 9 1 0 P.progs.length false]
 m9:fr 9=.vec 1 1 (B.map AV.bool)
 h12:f 12=.int .i64 (P.progs.length:Nat)
 h13:f 13=.int .i64 (c:Nat)
 r5:∀s∈[5],(fr s).isRow=false

theorem En.drop {P:PL}{c:Nat}{B:List Bool}{f f':Fr}{fr fr':Nat→Ob}(h:En P c B f fr)(hf:∀i,f' i=V3 [5] (f i))(hm:∀i,i∉[5]→fr' i=Gt [5] (fr i))(hn:∀i∈[5],fr' i=.none):En P c B f' fr' where
 h1:=by rw[hf,h.h1]<;>rfl
 m1:=by rw[hm 1 (by decide),h.m1]<;>rfl
 h3:=by rw[hf,h.h3]<;>rfl
 m3:=by rw[hm 3 (by decide),h.m3]<;>rfl
 m9:=by rw[hm 9 (by decide),h.m9]<;>rfl
 h12:=by rw[hf,h.h12]<;>rfl
 h13:=by rw[hf,h.h13]<;>rfl
 r5:=fun s hs=>by rw[hn s hs]<;>rfl

def ck (P:PL):Int :=
 if Bi P=false then 3 else if TD P=false then 8 else if Bj P=false then 11 else if TF P=false then 9 else if TG P=false then 6 else if args P=false then 1 else if fin P=false then 19 else 0

theorem DW {P:PL}(h:Bi P=true):P.progs.length≤64∧P.enums.length≤64∧(∀g∈P.progs,g.ops.length≤64)∧∀e∈P.enums,1≤e.items.length∧e.items.length≤64∧e.free.length≤16:=by
 unfold Bi at h;simp only[QPY,QQW,QPM]at h;obtain⟨⟨⟨h1,h2⟩,h3⟩,h4⟩:=h;refine⟨h1,h2,fun g hg=>?_,fun e he=>?_⟩
 ·have:=h3 g hg;unfold KY at this;exact of_decide_eq_true this
 ·have:=h4 e he;unfold KZ at this;simp only[QPY,QQW]at this;exact⟨this.1.1,this.1.2,this.2⟩

theorem R1 {P:PL}(h:args P=true):TJ P:=by
 intro g hg o ho hk;unfold args at h;simp only[QPY,QPM]at h;have h1:=h.1 g hg;unfold KC at h1;simp only[QPY,QPM]at h1;have h2:=(h1.2 o ho).1;unfold Jv at h2;simp only[QPY]at h2;have h3:=h2.2;unfold Vb at h3;rw[QP5 hk]at h3;simp only[QPY,QQW]at h3;exact⟨h3.1.1,h3.1.2⟩

def Pc (P:PL):List AV:=[.list (P.progs.map Qp),.list (P.enums.map QW)]

theorem JE (b:Bool)(q:Nat→Bool)(i:Nat):(b&&QP q (i+1))=((b&&QP q i)&&q i):=by rw[QP,QQm]

section
variable {M:Nat}(P:PL)(hP:P.ok M)(fr:Nat→Ob)(m1:fr 1=.cells (Pc P))(f:Fr)(b:Bool)(h1:f 1=.ptr 0 1 0)(h3:f 3=.bool b)(Q:Exit→St→Prop)
include hP m1 h1 h3

theorem Cq (ha:f 4=.int .i64 0)(hx:∀f,f 1=.ptr 0 1 0→f 3=.bool (b&&P.progs.all KY)→Q (.exit 0) (⟨f,[fr],[]⟩:St)):QH Tryz.prog (.loop S2) ⟨f,[fr],[]⟩ Q:=by
 let I:Nat→St→Prop:=fun k st=>∃f i,st=⟨f,[fr],[]⟩∧k=P.progs.length-i∧i≤P.progs.length∧f 1=.ptr 0 1 0∧f 3=.bool (b&&(P.progs.take i).all KY)∧f 4=.int .i64 (i:Nat)
 refine Qg I _ ⟨f,0,rfl,rfl,QPJ _,h1,by rw[h3];simp,ha⟩ ?_;clear h1 h3 ha;simp only[Pc]at m1;rintro _ st ⟨f,i,rfl,rfl,hi,h1,h3,ha⟩;simp only[QQu,h1,m1,ha,eE,seval];by_cases hlt:i<P.progs.length
 ·obtain⟨x,hg⟩:∃x,P.progs[i]? = some x:=⟨P.progs[i],QPE hlt⟩;have hgm:(P.progs.map Qp)[i]? = some (.agg x.cells):=by simp[hg,Qp]
  have e1:=Qw i _ hlt hP.len1;have ht:=Xm (q:=KY) hg;have e3:decide ((x.ops.length:Int)≤64)=KY x:=by unfold KY ;exact(by rw[QRq];simp only[QQW];omega)
  have fin:∀f':Fr,f' 1=.ptr 0 1 0→f' 3=.bool ((b&&(P.progs.take i).all KY)&&KY x)→f' 4=.int .i64 ((i+1:Nat):Int)→∃k,k<P.progs.length-i∧I k ⟨f',[fr],[]⟩:=by
   intro f' a1 a3 a4;exact⟨P.progs.length-(i+1),by omega,f',i+1,rfl,rfl,by omega,a1,by rw[a3,ht,QQm],a4⟩
  simp only[PG.cells]at hgm;cases hb:(b&&(P.progs.take i).all KY)
  ·rw[hb]at fin h3;simp only[Qr hlt,h3,ha,e1,Qb,seval];exact fin _ (by exact h1) (by rfl) (by rfl)
  ·rw[hb,QRf]at fin;rw[hb]at h3
   skip
   all_goals
    try rw[c1]at e3
    try rw[c2]at e3
    simp only[Qr hlt,Qm,QQ2,Qf,hgm,QQu,h1,m1,h3,ha,e1,e3,eE,seval];exact fin _ (by exact h1) (by rw[←e3]<;>first|rfl|simp only[eE,seval]) (by rfl)
 ·have hf:(P.progs.take i).all KY=P.progs.all KY:=by rw[QQa (by omega)]
  rw[hf]at h3;simp only[QO hlt,Qb,seval];exact hx _ (by exact h1) (by exact h3)

theorem Cr (ha:f 5=.int .i64 0)(hx:∀f,f 1=.ptr 0 1 0→f 3=.bool (b&&P.enums.all KZ)→Q (.exit 2) (⟨f,[fr],[]⟩:St)):QH Tryz.prog (.loop S3) ⟨f,[fr],[]⟩ Q:=by
 let I:Nat→St→Prop:=fun k st=>∃f i,st=⟨f,[fr],[]⟩∧k=P.enums.length-i∧i≤P.enums.length∧f 1=.ptr 0 1 0∧f 3=.bool (b&&(P.enums.take i).all KZ)∧f 5=.int .i64 (i:Nat)
 refine Qg I _ ⟨f,0,rfl,rfl,QPJ _,h1,by rw[h3];simp,ha⟩ ?_;clear h1 h3 ha;simp only[Pc]at m1;rintro _ st ⟨f,i,rfl,rfl,hi,h1,h3,ha⟩;simp only[QQu,h1,m1,ha,eE,seval];by_cases hlt:i<P.enums.length
 ·obtain⟨x,hg⟩:∃x,P.enums[i]? = some x:=⟨P.enums[i],QPE hlt⟩;have hgm:(P.enums.map QW)[i]? = some (.agg x.cells):=by simp[hg,QW]
  have e1:=Qw i _ hlt hP.len2;have ht:=Xm (q:=KZ) hg;have e3:(decide ((x.items.length:Int)≥1)&&(decide ((x.items.length:Int)≤64)&&decide ((x.free.length:Int)≤16)))=KZ x:=by unfold KZ ;exact(by rw[QRq];simp only[QQW,QPY];omega)
  have fin:∀f':Fr,f' 1=.ptr 0 1 0→f' 3=.bool ((b&&(P.enums.take i).all KZ)&&KZ x)→f' 5=.int .i64 ((i+1:Nat):Int)→∃k,k<P.enums.length-i∧I k ⟨f',[fr],[]⟩:=by
   intro f' a1 a3 a4;exact⟨P.enums.length-(i+1),by omega,f',i+1,rfl,rfl,by omega,a1,by rw[a3,ht,QQm],a4⟩
  simp only[PE.cells]at hgm;cases hb:(b&&(P.enums.take i).all KZ)
  ·rw[hb]at fin h3;simp only[Qr hlt,Qm,QQ2,Qf,hgm,QQu,h1,m1,h3,ha,e1,eE,seval];exact fin _ (by exact h1) (by rfl) (by rfl)
  ·rw[hb,QRf]at fin;rw[hb]at h3
   (cases c1:decide ((x.items.length:Int)≥1)<;>cases c2:decide ((x.items.length:Int)≤64))
   all_goals
    try rw[c1]at e3
    try rw[c2]at e3
    simp only[Qr hlt,Qm,QQ2,Qf,hgm,QQu,h1,m1,h3,ha,e1,c1,c2,eE,seval];exact fin _ (by exact h1) (by rw[←e3]<;>first|rfl|simp only[eE,seval]) (by rfl)
 ·have hf:(P.enums.take i).all KZ=P.enums.all KZ:=by rw[QQa (by omega)]
  rw[hf]at h3;simp only[QO hlt,Qb,seval];exact hx _ (by exact h1) (by exact h3)

theorem GD (j:Nat)(x:PG)(hj:P.progs[j]? = some x)(ha:f 4=.int .i64 (j:Nat))(hc:f 5=.int .i64 0)(hx:∀f,f 1=.ptr 0 1 0→f 3=.bool (b&&x.ops.all fun o=>Zv o.name)→f 4=.int .i64 (j:Nat)→Q (.exit 2) (⟨f,[fr],[]⟩:St)):QH Tryz.prog (.loop S4) ⟨f,[fr],[]⟩ Q:=by
 let I:Nat→St→Prop:=fun k st=>∃f i,st=⟨f,[fr],[]⟩∧k=x.ops.length-i∧i≤x.ops.length∧f 1=.ptr 0 1 0∧f 3=.bool (b&&(x.ops.take i).all fun o=>Zv o.name)∧f 4=.int .i64 (j:Nat)∧f 5=.int .i64 (i:Nat)
 have hjm:(P.progs.map Qp)[j]? = some (.agg x.cells):=by simp[hj,Qp]
 have hsl:x.ops.length≤maxLen:=(hP.progs x (QPN hj)).len;refine Qg I _ ⟨f,0,rfl,rfl,QPJ _,h1,by rw[h3];simp,ha,hc⟩ ?_;clear h1 h3 ha hc;simp only[Pc]at m1;simp only[PG.cells]at hjm;rintro _ st ⟨f,i,rfl,rfl,hi,h1,h3,ha,hc⟩;simp only[Qm,QQ2,Qf,hjm,QQu,h1,m1,ha,hc,eE,seval];by_cases hlt:i<x.ops.length
 ·obtain⟨o,hg⟩:∃o,x.ops[i]? = some o:=⟨x.ops[i],QPE hlt⟩;have hgm:(x.ops.map fun o=>AV.agg o.cells)[i]? = some (.agg o.cells):=by simp[hg]
  have e1:=Qw i _ hlt hsl;have ht:=Xm (q:=fun o=>Zv o.name) hg;have fin:∀f':Fr,f' 1=.ptr 0 1 0→f' 3=.bool ((b&&(x.ops.take i).all fun o=>Zv o.name)&&Zv o.name)→f' 4=.int .i64 (j:Nat)→f' 5=.int .i64 ((i+1:Nat):Int)→∃k,k<x.ops.length-i∧I k ⟨f',[fr],[]⟩:=by
   intro f' a1 a3 a4 a5;exact⟨x.ops.length-(i+1),by omega,f',i+1,rfl,rfl,by omega,a1,by rw[a3,ht,QQm],a4,a5⟩
  simp only[PO.cells]at hgm;cases hb:(b&&(x.ops.take i).all fun o=>Zv o.name)
  ·rw[hb]at fin h3;simp only[Qr hlt,PO.cells,h3,hc,e1,Qb,seval];exact fin _ (by exact h1) (by rfl) (by exact ha) (by rfl)
  ·rw[hb,QRf]at fin;rw[hb]at h3;simp only[Qr hlt,Qm,QQ2,Qf,hjm,hgm,PO.cells,h1,m1,h3,ha,hc,eE,seval];refine Qa (z62 o.name) rfl rfl rfl (.inl rfl) ?_;simp only[hc,e1,Qb,seval];exact fin _ (by exact h1) (by rfl) (by exact ha) (by rfl)
 ·have hf:(x.ops.take i).all (fun o=>Zv o.name)=x.ops.all fun o=>Zv o.name:=by rw[QQa (by omega)]
  rw[hf]at h3;simp only[QO hlt,Qb,seval];exact hx _ (by exact h1) (by exact h3) (by exact ha)

theorem Ct (ha:f 4=.int .i64 0)(hx:∀f,f 1=.ptr 0 1 0→f 3=.bool (b&&P.progs.all YZ)→Q (.exit 0) (⟨f,[fr],[]⟩:St)):QH Tryz.prog (.loop S5) ⟨f,[fr],[]⟩ Q:=by
 let I:Nat→St→Prop:=fun k st=>∃f i,st=⟨f,[fr],[]⟩∧k=P.progs.length-i∧i≤P.progs.length∧f 1=.ptr 0 1 0∧f 3=.bool (b&&(P.progs.take i).all YZ)∧f 4=.int .i64 (i:Nat)
 have m1':=m1;refine Qg I _ ⟨f,0,rfl,rfl,QPJ _,h1,by rw[h3];simp,ha⟩ ?_;clear h1 h3 ha;simp only[Pc]at m1;rintro _ st ⟨f,i,rfl,rfl,hi,h1,h3,ha⟩;simp only[QQu,h1,m1,ha,eE,seval];by_cases hlt:i<P.progs.length
 ·obtain⟨x,hg⟩:∃x,P.progs[i]? = some x:=⟨P.progs[i],QPE hlt⟩;have hgm:(P.progs.map Qp)[i]? = some (.agg x.cells):=by simp[hg,Qp]
  have e1:=Qw i _ hlt hP.len1;have ht:=Xm (q:=YZ) hg;have hq:YZ x=(Yq x.name&&x.ops.all fun o=>Zv o.name):=rfl;have fin:∀f':Fr,f' 1=.ptr 0 1 0→f' 3=.bool (((b&&(P.progs.take i).all YZ)&&Yq x.name)&&x.ops.all fun o=>Zv o.name)→f' 4=.int .i64 ((i+1:Nat):Int)→∃k,k<P.progs.length-i∧I k ⟨f',[fr],[]⟩:=by
   intro f' a1 a3 a4;exact⟨P.progs.length-(i+1),by omega,f',i+1,rfl,rfl,by omega,a1,by rw[a3,ht,hq,QQm,QQm],a4⟩
  simp only[PG.cells]at hgm;cases hb:(b&&(P.progs.take i).all YZ)
  ·rw[hb,QQ5]at fin;rw[hb]at h3;simp only[Qr hlt,h3,Qb,seval];refine GD P hP fr m1' _ false (by exact h1) (by rfl) _ i x hg (by exact ha) (by rfl) (fun f h1 h3 ha=>?_);simp only[ha,e1,Qb,seval];exact fin _ (by exact h1) (by exact h3) (by rfl)
  ·rw[hb,QRf]at fin;rw[hb]at h3;simp only[Qr hlt,Qm,QQ2,Qf,hgm,h1,m1,h3,ha,eE,seval];refine Qa (z61 x.name) rfl rfl rfl (.inl rfl) ?_;simp only[Qb,seval];refine GD P hP fr m1' _ (Yq x.name) (by exact h1) (by rfl) _ i x hg (by exact ha) (by rfl) (fun f h1 h3 ha=>?_);simp only[ha,e1,Qb,seval];exact fin _ (by exact h1) (by exact h3) (by rfl)
 ·have hf:(P.progs.take i).all YZ=P.progs.all YZ:=by rw[QQa (by omega)]
  rw[hf]at h3;simp only[QO hlt,Qb,seval];exact hx _ (by exact h1) (by exact h3)

theorem GE (j:Nat)(x:PE)(hj:P.enums[j]? = some x)(ha:f 6=.int .i64 (j:Nat))(hc:f 7=.int .i64 0)(hx:∀f,f 1=.ptr 0 1 0→f 3=.bool (b&&x.items.all fun o=>Zv o.name)→f 6=.int .i64 (j:Nat)→Q (.exit 6) (⟨f,[fr],[]⟩:St)):QH Tryz.prog (.loop S6) ⟨f,[fr],[]⟩ Q:=by
 let I:Nat→St→Prop:=fun k st=>∃f i,st=⟨f,[fr],[]⟩∧k=x.items.length-i∧i≤x.items.length∧f 1=.ptr 0 1 0∧f 3=.bool (b&&(x.items.take i).all fun o=>Zv o.name)∧f 6=.int .i64 (j:Nat)∧f 7=.int .i64 (i:Nat)
 have hjm:(P.enums.map QW)[j]? = some (.agg x.cells):=by simp[hj,QW]
 have hsl:x.items.length≤maxLen:=(hP.enums x (QPN hj)).len1;refine Qg I _ ⟨f,0,rfl,rfl,QPJ _,h1,by rw[h3];simp,ha,hc⟩ ?_;clear h1 h3 ha hc;simp only[Pc]at m1;simp only[PE.cells]at hjm;rintro _ st ⟨f,i,rfl,rfl,hi,h1,h3,ha,hc⟩;simp only[Qm,QQ2,Qf,hjm,QQu,h1,m1,ha,hc,eE,seval];by_cases hlt:i<x.items.length
 ·obtain⟨o,hg⟩:∃o,x.items[i]? = some o:=⟨x.items[i],QPE hlt⟩;have hgm:(x.items.map fun o=>AV.agg o.cells)[i]? = some (.agg o.cells):=by simp[hg]
  have e1:=Qw i _ hlt hsl;have ht:=Xm (q:=fun o=>Zv o.name) hg;have fin:∀f':Fr,f' 1=.ptr 0 1 0→f' 3=.bool ((b&&(x.items.take i).all fun o=>Zv o.name)&&Zv o.name)→f' 6=.int .i64 (j:Nat)→f' 7=.int .i64 ((i+1:Nat):Int)→∃k,k<x.items.length-i∧I k ⟨f',[fr],[]⟩:=by
   intro f' a1 a3 a4 a5;exact⟨x.items.length-(i+1),by omega,f',i+1,rfl,rfl,by omega,a1,by rw[a3,ht,QQm],a4,a5⟩
  simp only[PI.cells]at hgm;cases hb:(b&&(x.items.take i).all fun o=>Zv o.name)
  ·rw[hb]at fin h3;simp only[Qr hlt,PI.cells,h3,hc,e1,Qb,seval];exact fin _ (by exact h1) (by rfl) (by exact ha) (by rfl)
  ·rw[hb,QRf]at fin;rw[hb]at h3;simp only[Qr hlt,Qm,QQ2,Qf,hjm,hgm,PI.cells,h1,m1,h3,ha,hc,eE,seval];refine Qa (z62 o.name) rfl rfl rfl (.inl rfl) ?_;simp only[hc,e1,Qb,seval];exact fin _ (by exact h1) (by rfl) (by exact ha) (by rfl)
 ·have hf:(x.items.take i).all (fun o=>Zv o.name)=x.items.all fun o=>Zv o.name:=by rw[QQa (by omega)]
  rw[hf]at h3;simp only[QO hlt,Qb,seval];exact hx _ (by exact h1) (by exact h3) (by exact ha)

theorem Cu (ha:f 6=.int .i64 0)(hx:∀f,f 1=.ptr 0 1 0→f 3=.bool (b&&P.enums.all Y0)→Q (.exit 4) (⟨f,[fr],[]⟩:St)):QH Tryz.prog (.loop S7) ⟨f,[fr],[]⟩ Q:=by
 let I:Nat→St→Prop:=fun k st=>∃f i,st=⟨f,[fr],[]⟩∧k=P.enums.length-i∧i≤P.enums.length∧f 1=.ptr 0 1 0∧f 3=.bool (b&&(P.enums.take i).all Y0)∧f 6=.int .i64 (i:Nat)
 have m1':=m1;refine Qg I _ ⟨f,0,rfl,rfl,QPJ _,h1,by rw[h3];simp,ha⟩ ?_;clear h1 h3 ha;simp only[Pc]at m1;rintro _ st ⟨f,i,rfl,rfl,hi,h1,h3,ha⟩;simp only[QQu,h1,m1,ha,eE,seval];by_cases hlt:i<P.enums.length
 ·obtain⟨x,hg⟩:∃x,P.enums[i]? = some x:=⟨P.enums[i],QPE hlt⟩;have hgm:(P.enums.map QW)[i]? = some (.agg x.cells):=by simp[hg,QW]
  have e1:=Qw i _ hlt hP.len2;have ht:=Xm (q:=Y0) hg;have hq:Y0 x=(Yq x.name&&x.items.all fun o=>Zv o.name):=rfl;have fin:∀f':Fr,f' 1=.ptr 0 1 0→f' 3=.bool (((b&&(P.enums.take i).all Y0)&&Yq x.name)&&x.items.all fun o=>Zv o.name)→f' 6=.int .i64 ((i+1:Nat):Int)→∃k,k<P.enums.length-i∧I k ⟨f',[fr],[]⟩:=by
   intro f' a1 a3 a4;exact⟨P.enums.length-(i+1),by omega,f',i+1,rfl,rfl,by omega,a1,by rw[a3,ht,hq,QQm,QQm],a4⟩
  simp only[PE.cells]at hgm;cases hb:(b&&(P.enums.take i).all Y0)
  ·rw[hb,QQ5]at fin;rw[hb]at h3;simp only[Qr hlt,h3,Qb,seval];refine GE P hP fr m1' _ false (by exact h1) (by rfl) _ i x hg (by exact ha) (by rfl) (fun f h1 h3 ha=>?_);simp only[ha,e1,Qb,seval];exact fin _ (by exact h1) (by exact h3) (by rfl)
  ·rw[hb,QRf]at fin;rw[hb]at h3;simp only[Qr hlt,Qm,QQ2,Qf,hgm,h1,m1,h3,ha,eE,seval];refine Qa (z61 x.name) rfl rfl rfl (.inl rfl) ?_;simp only[Qb,seval];refine GE P hP fr m1' _ (Yq x.name) (by exact h1) (by rfl) _ i x hg (by exact ha) (by rfl) (fun f h1 h3 ha=>?_);simp only[ha,e1,Qb,seval];exact fin _ (by exact h1) (by exact h3) (by rfl)
 ·have hf:(P.enums.take i).all Y0=P.enums.all Y0:=by rw[QQa (by omega)]
  rw[hf]at h3;simp only[QO hlt,Qb,seval];exact hx _ (by exact h1) (by exact h3)

theorem Y3 (j:Nat)(x:PG)(hj:P.progs[j]? = some x)(ha:f 4=.int .i64 (j:Nat))(hc:f 5=.int .i64 1)(hx:∀f,f 1=.ptr 0 1 0→f 3=.bool (b&&K0 x)→f 4=.int .i64 (j:Nat)→Q (.exit 2) (⟨f,[fr],[]⟩:St)):QH Tryz.prog (.loop Te) ⟨f,[fr],[]⟩ Q:=by
 let I:Nat→St→Prop:=fun k st=>∃f i,st=⟨f,[fr],[]⟩∧k=x.ops.length-i∧f 1=.ptr 0 1 0∧f 3=.bool (b&&QP (Zb x.ops (Ju PO.num)) (i+1))∧f 4=.int .i64 (j:Nat)∧f 5=.int .i64 ((i+1:Nat):Int)∧(i+1≤x.ops.length∨i=0)
 have hjm:(P.progs.map Qp)[j]? = some (.agg x.cells):=by simp[hj,Qp]
 have hsl:x.ops.length≤maxLen:=(hP.progs x (QPN hj)).len;refine Qg I _ ⟨f,0,rfl,rfl,h1,by rw[h3];simp[QP,Zb],ha,hc,.inr rfl⟩ ?_;clear h1 h3 ha hc;simp only[Pc]at m1;simp only[PG.cells]at hjm;rintro _ st ⟨f,i,rfl,rfl,h1,h3,ha,hc,hi⟩;simp only[Qm,QQ2,Qf,hjm,QQu,h1,m1,ha,hc,eE,seval];by_cases hlt:i+1<x.ops.length
 ·obtain⟨o,hg⟩:∃o,x.ops[i]? = some o:=⟨x.ops[i]'(by omega),QPE (by omega)⟩;obtain⟨o2,hg2⟩:∃o,x.ops[i+1]? = some o:=⟨x.ops[i+1],QPE hlt⟩;have hgm:(x.ops.map fun o=>AV.agg o.cells)[i]? = some (.agg o.cells):=by simp[hg]
  have hgm2:(x.ops.map fun o=>AV.agg o.cells)[i+1]? = some (.agg o2.cells):=by simp[hg2]
  have e1:=Qw (i+1) _ hlt hsl;have e2:=Dt i _ hlt hsl;have ht:=JE b (Zb x.ops (Ju PO.num)) (i+1);rw[YB hg hg2]at ht;have hq:(Ju PO.num) o o2=decide (o.num<o2.num):=rfl;rw[hq]at ht;have fin:∀f':Fr,f' 1=.ptr 0 1 0→f' 3=.bool ((b&&QP (Zb x.ops (Ju PO.num)) (i+1))&&decide (o.num<o2.num))→f' 4=.int .i64 (j:Nat)→f' 5=.int .i64 ((i+1+1:Nat):Int)→∃k,k<x.ops.length-i∧I k ⟨f',[fr],[]⟩:=by
   intro f' a1 a3 a4 a5;exact⟨x.ops.length-(i+1),by omega,f',i+1,rfl,rfl,a1,by rw[a3,ht],a4,a5,.inl (by omega)⟩
  simp only[PO.cells]at hgm hgm2;cases hb:(b&&QP (Zb x.ops (Ju PO.num)) (i+1))
  ·rw[hb]at fin h3;simp only[Qr hlt,PO.cells,h3,hc,e1,Qb,seval];exact fin _ (by exact h1) (by rfl) (by exact ha) (by rfl)
  ·rw[hb,QRf]at fin;rw[hb]at h3;simp only[Qr hlt,Qm,QQ2,Qf,hjm,hgm,hgm2,PO.cells,h1,m1,h3,ha,hc,e1,e2,eE,seval];exact fin _ (by exact h1) (by rfl) (by exact ha) (by rfl)
 ·have hf:QP (Zb x.ops (Ju PO.num)) (i+1)=K0 x:=by
   show _=QP (Zb x.ops (Ju PO.num)) x.ops.length;rcases hi with h|h
   ·rw[show i+1=x.ops.length by omega]
   ·subst h;rcases QQp x.ops.length with h0|h0
    ·rw[h0];rfl
    ·rw[show x.ops.length=1 by omega]
  rw[hf]at h3;simp only[QO hlt,Qb,seval];exact hx _ (by exact h1) (by exact h3) (by exact ha)

theorem Cv (ha:f 4=.int .i64 0)(hx:∀f,f 1=.ptr 0 1 0→f 3=.bool (b&&(JV P.progs (ZH PG.name)&&P.progs.all K0))→Q (.exit 0) (⟨f,[fr],[]⟩:St)):QH Tryz.prog (.loop Tf) ⟨f,[fr],[]⟩ Q:=by
 let q:Nat→Bool:=fun i=>Zb P.progs (ZH PG.name) i&&Hs P.progs K0 i
 let I:Nat→St→Prop:=fun k st=>∃f i,st=⟨f,[fr],[]⟩∧k=P.progs.length-i∧i≤P.progs.length∧f 1=.ptr 0 1 0∧f 3=.bool (b&&QP q i)∧f 4=.int .i64 (i:Nat)
 have m1':=m1;have hqa:QP q P.progs.length=(JV P.progs (ZH PG.name)&&P.progs.all K0):=by
  show QP (fun i=>Zb P.progs (ZH PG.name) i&&Hs P.progs K0 i) _=_;rw[HJ,HK];rfl
 refine Qg I _ ⟨f,0,rfl,rfl,QPJ _,h1,by rw[h3];simp[QP],ha⟩ ?_;clear h1 h3 ha;simp only[Pc]at m1;rintro _ st ⟨f,i,rfl,rfl,hi,h1,h3,ha⟩;simp only[QQu,h1,m1,ha,eE,seval];by_cases hlt:i<P.progs.length
 ·obtain⟨x,hg⟩:∃x,P.progs[i]? = some x:=⟨P.progs[i],QPE hlt⟩;have hgm:(P.progs.map Qp)[i]? = some (.agg x.cells):=by simp[hg,Qp]
  have e1:=Qw i _ hlt hP.len1;have ht:=JE b q i;have hq:q i=(Zb P.progs (ZH PG.name) i&&K0 x):=by show(_&&Hs P.progs K0 i)=_;rw[UD hg]
  rw[hq,←QQm]at ht;have fin:∀f':Fr,f' 1=.ptr 0 1 0→f' 3=.bool (((b&&QP q i)&&Zb P.progs (ZH PG.name) i)&&K0 x)→f' 4=.int .i64 ((i+1:Nat):Int)→∃k,k<P.progs.length-i∧I k ⟨f',[fr],[]⟩:=by
   intro f' a1 a3 a4;exact⟨P.progs.length-(i+1),by omega,f',i+1,rfl,rfl,by omega,a1,by rw[a3,ht],a4⟩
  simp only[PG.cells]at hgm;cases hb:(b&&QP q i)
  ·rw[hb,QQ5]at fin;rw[hb]at h3;simp only[Qr hlt,h3,Qb,seval];refine Y3 P hP fr m1' _ false (by exact h1) (by rfl) _ i x hg (by exact ha) (by rfl) (fun f h1 h3 ha=>?_);simp only[ha,e1,Qb,seval];exact fin _ (by exact h1) (by exact h3) (by rfl)
  ·rw[hb,QRf]at fin;rw[hb]at h3;cases i with
   |zero=>
    have b0:(((0:Nat):Int)==0)=true:=rfl;rw[HL]at fin;simp only[Qr hlt,b0,h3,ha,Qb,Nat.reduceBEq,↓reduceIte];refine Y3 P hP fr m1' _ true (by exact h1) (by rfl) _ 0 x hg (by exact ha) (by rfl) (fun f h1 h3 ha=>?_);simp only[ha,e1,Qb,Nat.reduceBEq,↓reduceIte,Nat.reduceAdd];exact fin _ (by exact h1) (by exact h3) (by rfl)
   |succ j=>
    obtain⟨y,hgj⟩:∃y,P.progs[j]? = some y:=⟨P.progs[j]'(by omega),QPE (by omega)⟩;have hgjm:(P.progs.map Qp)[j]? = some (.agg y.cells):=by simp[hgj,Qp]
    have b0:(((j+1:Nat):Int)==0)=false:=by rw[QRk];omega
    have e2:=Dt j _ hlt hP.len1;rw[YB hgj hg]at fin;have hq2:(ZH PG.name) y x=Op.bytesLess y.name x.name:=rfl;rw[hq2]at fin;simp only[PG.cells]at hgjm;simp only[Qr hlt,Qm,QQ2,Qf,hgm,hgjm,b0,e2,Q5,h1,m1,h3,ha,eE,seval];refine Y3 P hP fr m1' _ (Op.bytesLess y.name x.name) (by exact h1) (by rfl) _ (j+1) x hg (by exact ha) (by rfl) (fun f h1 h3 ha=>?_);simp only[ha,e1,Qb,seval];exact fin _ (by exact h1) (by exact h3) (by rfl)
 ·have hf:QP q i=(JV P.progs (ZH PG.name)&&P.progs.all K0):=by rw[show i=P.progs.length by omega,hqa]
  rw[hf]at h3;simp only[QO hlt,Qb,seval];exact hx _ (by exact h1) (by exact h3)

theorem Y4 (j:Nat)(x:PE)(hj:P.enums[j]? = some x)(ha:f 6=.int .i64 (j:Nat))(hc:f 7=.int .i64 1)(hx:∀f,f 1=.ptr 0 1 0→f 3=.bool (b&&Wp x)→f 6=.int .i64 (j:Nat)→Q (.exit 6) (⟨f,[fr],[]⟩:St)):QH Tryz.prog (.loop Th) ⟨f,[fr],[]⟩ Q:=by
 let I:Nat→St→Prop:=fun k st=>∃f i,st=⟨f,[fr],[]⟩∧k=x.items.length-i∧f 1=.ptr 0 1 0∧f 3=.bool (b&&QP (Zb x.items (Ju PI.num)) (i+1))∧f 6=.int .i64 (j:Nat)∧f 7=.int .i64 ((i+1:Nat):Int)∧(i+1≤x.items.length∨i=0)
 have hjm:(P.enums.map QW)[j]? = some (.agg x.cells):=by simp[hj,QW]
 have hsl:x.items.length≤maxLen:=(hP.enums x (QPN hj)).len1;refine Qg I _ ⟨f,0,rfl,rfl,h1,by rw[h3];simp[QP,Zb],ha,hc,.inr rfl⟩ ?_;clear h1 h3 ha hc;simp only[Pc]at m1;simp only[PE.cells]at hjm;rintro _ st ⟨f,i,rfl,rfl,h1,h3,ha,hc,hi⟩;simp only[Qm,QQ2,Qf,hjm,QQu,h1,m1,ha,hc,eE,seval];by_cases hlt:i+1<x.items.length
 ·obtain⟨o,hg⟩:∃o,x.items[i]? = some o:=⟨x.items[i]'(by omega),QPE (by omega)⟩;obtain⟨o2,hg2⟩:∃o,x.items[i+1]? = some o:=⟨x.items[i+1],QPE hlt⟩;have hgm:(x.items.map fun o=>AV.agg o.cells)[i]? = some (.agg o.cells):=by simp[hg]
  have hgm2:(x.items.map fun o=>AV.agg o.cells)[i+1]? = some (.agg o2.cells):=by simp[hg2]
  have e1:=Qw (i+1) _ hlt hsl;have e2:=Dt i _ hlt hsl;have ht:=JE b (Zb x.items (Ju PI.num)) (i+1);rw[YB hg hg2]at ht;have hq:(Ju PI.num) o o2=decide (o.num<o2.num):=rfl;rw[hq]at ht;have fin:∀f':Fr,f' 1=.ptr 0 1 0→f' 3=.bool ((b&&QP (Zb x.items (Ju PI.num)) (i+1))&&decide (o.num<o2.num))→f' 6=.int .i64 (j:Nat)→f' 7=.int .i64 ((i+1+1:Nat):Int)→∃k,k<x.items.length-i∧I k ⟨f',[fr],[]⟩:=by
   intro f' a1 a3 a4 a5;exact⟨x.items.length-(i+1),by omega,f',i+1,rfl,rfl,a1,by rw[a3,ht],a4,a5,.inl (by omega)⟩
  simp only[PI.cells]at hgm hgm2;cases hb:(b&&QP (Zb x.items (Ju PI.num)) (i+1))
  ·rw[hb]at fin h3;simp only[Qr hlt,PI.cells,h3,hc,e1,Qb,seval];exact fin _ (by exact h1) (by rfl) (by exact ha) (by rfl)
  ·rw[hb,QRf]at fin;rw[hb]at h3;simp only[Qr hlt,Qm,QQ2,Qf,hjm,hgm,hgm2,PI.cells,h1,m1,h3,ha,hc,e1,e2,eE,seval];exact fin _ (by exact h1) (by rfl) (by exact ha) (by rfl)
 ·have hf:QP (Zb x.items (Ju PI.num)) (i+1)=Wp x:=by
   show _=QP (Zb x.items (Ju PI.num)) x.items.length;rcases hi with h|h
   ·rw[show i+1=x.items.length by omega]
   ·subst h;rcases QQp x.items.length with h0|h0
    ·rw[h0];rfl
    ·rw[show x.items.length=1 by omega]
  rw[hf]at h3;simp only[QO hlt,Qb,seval];exact hx _ (by exact h1) (by exact h3) (by exact ha)

theorem Cw (ha:f 6=.int .i64 0)(hx:∀f,f 1=.ptr 0 1 0→f 3=.bool (b&&(JV P.enums (ZH PE.name)&&P.enums.all Wp))→Q (.exit 4) (⟨f,[fr],[]⟩:St)):QH Tryz.prog (.loop Ti) ⟨f,[fr],[]⟩ Q:=by
 let q:Nat→Bool:=fun i=>Zb P.enums (ZH PE.name) i&&Hs P.enums Wp i
 let I:Nat→St→Prop:=fun k st=>∃f i,st=⟨f,[fr],[]⟩∧k=P.enums.length-i∧i≤P.enums.length∧f 1=.ptr 0 1 0∧f 3=.bool (b&&QP q i)∧f 6=.int .i64 (i:Nat)
 have m1':=m1;have hqa:QP q P.enums.length=(JV P.enums (ZH PE.name)&&P.enums.all Wp):=by
  show QP (fun i=>Zb P.enums (ZH PE.name) i&&Hs P.enums Wp i) _=_;rw[HJ,HK];rfl
 refine Qg I _ ⟨f,0,rfl,rfl,QPJ _,h1,by rw[h3];simp[QP],ha⟩ ?_;clear h1 h3 ha;simp only[Pc]at m1;rintro _ st ⟨f,i,rfl,rfl,hi,h1,h3,ha⟩;simp only[QQu,h1,m1,ha,eE,seval];by_cases hlt:i<P.enums.length
 ·obtain⟨x,hg⟩:∃x,P.enums[i]? = some x:=⟨P.enums[i],QPE hlt⟩;have hgm:(P.enums.map QW)[i]? = some (.agg x.cells):=by simp[hg,QW]
  have e1:=Qw i _ hlt hP.len2;have ht:=JE b q i;have hq:q i=(Zb P.enums (ZH PE.name) i&&Wp x):=by show(_&&Hs P.enums Wp i)=_;rw[UD hg]
  rw[hq,←QQm]at ht;have fin:∀f':Fr,f' 1=.ptr 0 1 0→f' 3=.bool (((b&&QP q i)&&Zb P.enums (ZH PE.name) i)&&Wp x)→f' 6=.int .i64 ((i+1:Nat):Int)→∃k,k<P.enums.length-i∧I k ⟨f',[fr],[]⟩:=by
   intro f' a1 a3 a4;exact⟨P.enums.length-(i+1),by omega,f',i+1,rfl,rfl,by omega,a1,by rw[a3,ht],a4⟩
  simp only[PE.cells]at hgm;cases hb:(b&&QP q i)
  ·rw[hb,QQ5]at fin;rw[hb]at h3;simp only[Qr hlt,h3,Qb,seval];refine Y4 P hP fr m1' _ false (by exact h1) (by rfl) _ i x hg (by exact ha) (by rfl) (fun f h1 h3 ha=>?_);simp only[ha,e1,Qb,seval];exact fin _ (by exact h1) (by exact h3) (by rfl)
  ·rw[hb,QRf]at fin;rw[hb]at h3;cases i with
   |zero=>
    have b0:(((0:Nat):Int)==0)=true:=rfl;rw[HL]at fin;simp only[Qr hlt,b0,h3,ha,Qb,Nat.reduceBEq,↓reduceIte];refine Y4 P hP fr m1' _ true (by exact h1) (by rfl) _ 0 x hg (by exact ha) (by rfl) (fun f h1 h3 ha=>?_);simp only[ha,e1,Qb,Nat.reduceBEq,↓reduceIte,Nat.reduceAdd];exact fin _ (by exact h1) (by exact h3) (by rfl)
   |succ j=>
    obtain⟨y,hgj⟩:∃y,P.enums[j]? = some y:=⟨P.enums[j]'(by omega),QPE (by omega)⟩;have hgjm:(P.enums.map QW)[j]? = some (.agg y.cells):=by simp[hgj,QW]
    have b0:(((j+1:Nat):Int)==0)=false:=by rw[QRk];omega
    have e2:=Dt j _ hlt hP.len2;rw[YB hgj hg]at fin;have hq2:(ZH PE.name) y x=Op.bytesLess y.name x.name:=rfl;rw[hq2]at fin;simp only[PE.cells]at hgjm;simp only[Qr hlt,Qm,QQ2,Qf,hgm,hgjm,b0,e2,Q5,h1,m1,h3,ha,eE,seval];refine Y4 P hP fr m1' _ (Op.bytesLess y.name x.name) (by exact h1) (by rfl) _ (j+1) x hg (by exact ha) (by rfl) (fun f h1 h3 ha=>?_);simp only[ha,e1,Qb,seval];exact fin _ (by exact h1) (by exact h3) (by rfl)
 ·have hf:QP q i=(JV P.enums (ZH PE.name)&&P.enums.all Wp):=by rw[show i=P.enums.length by omega,hqa]
  rw[hf]at h3;simp only[QO hlt,Qb,seval];exact hx _ (by exact h1) (by exact h3)

end

section
variable {M:Nat}(P:PL)(hP:P.ok M)
include hP

theorem z28:Qh Tryz.prog 28 [P.av] (.bool (Bi P)):=by
 have e0:P.av=.agg [.list (P.progs.map Qp),.list (P.enums.map QW)]:=rfl;have e1:decide ((P.progs.length:Int)≤64)=decide (P.progs.length≤64):=by rw[decide_eq_decide];omega
 have e2:decide ((P.enums.length:Int)≤64)=decide (P.enums.length≤64):=by rw[decide_eq_decide];omega
 refine k28.fn (by simp) ?_;simp only[e0,QQu,e1,eE,seval];have hl:Bi P=((decide (P.progs.length≤64)&&decide (P.enums.length≤64)&&P.progs.all KY)&&P.enums.all KZ):=rfl;cases a1:decide (P.progs.length≤64)<;>simp only[e2,QQu,eE,seval]
 all_goals
  refine Cq P hP _ (by rfl) _ _ (by rfl) (by rfl) _ (by rfl) (fun f h1 h3=>?_);simp only[Qb,seval];refine Cr P hP _ (by rfl) _ _ (by exact h1) (by exact h3) _ (by rfl) (fun f h1 h3=>?_);simp only[h3,hl,a1,QQ5,QRf,Qb,seval]

theorem z29:Qh Tryz.prog 29 [P.av] (.bool (TD P)):=by
 have e0:P.av=.agg [.list (P.progs.map Qp),.list (P.enums.map QW)]:=rfl;refine k29.fn (by simp) ?_;simp only[e0,eE,seval];refine Ct P hP _ (by rfl) _ true (by rfl) (by rfl) _ (by rfl) (fun f h1 h3=>?_);simp only[Qb,seval];refine Cu P hP _ (by rfl) _ _ (by exact h1) (by exact h3) _ (by rfl) (fun f h1 h3=>?_);simp only[h3,TD,QRf,Qb,seval]

theorem z30:Qh Tryz.prog 30 [P.av] (.bool (Bj P)):=by
 have e0:P.av=.agg [.list (P.progs.map Qp),.list (P.enums.map QW)]:=rfl;have e:Bj P=((JV P.progs (ZH PG.name)&&P.progs.all K0)&&(JV P.enums (ZH PE.name)&&P.enums.all Wp)):=by
  unfold Bj;cases JV P.progs (ZH PG.name)<;>cases P.progs.all K0<;>cases JV P.enums (ZH PE.name)<;>rfl
 refine k30.fn (by simp) ?_;simp only[e0,eE,seval];refine Cv P hP _ (by rfl) _ true (by rfl) (by rfl) _ (by rfl) (fun f h1 h3=>?_);simp only[Qb,seval];refine Cw P hP _ (by rfl) _ _ (by exact h1) (by exact h3) _ (by rfl) (fun f h1 h3=>?_);simp only[h3,e,QRf,Qb,seval]

end

theorem z63 (L:List PS)(hl:L.length≤maxLen)(n:Int):Qh Tryz.prog 63 [.list (L.map HO),.int .i64 n] (.bool (kept L n)):=by
 let I:Nat→St→Prop:=fun k st=>∃f i,st=⟨f,[QE],[]⟩∧k=L.length-i∧kept L n=kept (L.drop i) n∧f 0=.list (L.map HO)∧f 1=.int .i64 n∧f 5=.int .i64 (i:Nat)
 refine k63.fn (by simp) ?_;simp only[Qb,seval];refine Qg I _ ⟨_,0,rfl,rfl,rfl,(by rfl),(by rfl),(by rfl)⟩ ?_;rintro _ st ⟨f,i,rfl,rfl,hx,h0,h1,h5⟩;simp only[QQu,h0,h5,Qb,seval];by_cases hlt:i<L.length
 ·obtain⟨x,hi⟩:∃x,L[i]? = some x:=⟨L[i],QPE hlt⟩;have hg:(L.map HO)[i]? = some (HO x):=by simp[hi]
  have e1:=Qw i _ hlt hl;have hd:kept (L.drop i) n=((decide (x.lo≤n)&&decide (n≤x.hi))||kept (L.drop (i+1)) n):=by
   unfold kept;rw[QQk hlt,show L[i]=x from(QPD.1 hi).2];rfl
  rw[hd]at hx;simp only[Qr hlt,Qm,QQ2,Qf,hg,HO,PS.cells,h0,h1,h5,eE,seval];cases a1:decide (x.lo≤n)
  ·rw[a1,QQ5,QRj]at hx;simp only[h5,e1,Qb,seval];exact⟨L.length-(i+1),by omega,_,i+1,rfl,rfl,hx,(by exact h0),(by exact h1),(by rfl)⟩
  ·cases a2:decide (n≤x.hi)
   ·rw[a1,a2,QRt,QRj]at hx;simp only[a2,Qm,QQ2,Qf,hg,HO,PS.cells,h0,h1,h5,e1,eE,seval];exact⟨L.length-(i+1),by omega,_,i+1,rfl,rfl,hx,(by exact h0),(by exact h1),(by rfl)⟩
   ·rw[a1,a2,QQN,QRi]at hx;simp only[a2,Qm,QQ2,Qf,hg,HO,PS.cells,h0,h1,h5,hx,eE,seval]
 ·have hx':kept L n=false:=by rw[hx,QQd (by omega)];rfl
  simp only[QO hlt,hx',Qb,seval]

section
variable {M:Nat}(P:PL)(hP:P.ok M)(fr:Nat→Ob)(m1:fr 1=.cells (Pc P))(f:Fr)(b:Bool)(h1:f 1=.ptr 0 1 0)(h3:f 3=.bool b)(Q:Exit→St→Prop)

include h1 h3 in
theorem R2 (L:List PO)(hl:L.length≤maxLen)(j:Nat)(x:PO)(hj:L[j]? = some x)(n:Nat)(hr:f 4=.int .i64 (n:Nat))(hL:f 6=.list (L.map fun o=>.agg o.cells))(hc:f 7=.int .i64 (j:Nat))(hd:f 8=.int .i64 0)
  (hx:∀f,f 1=.ptr 0 1 0→f 3=.bool (b&&(L.take j).all fun y=>!(y.name==x.name))→f 4=.int .i64 (n:Nat)→f 6=.list (L.map fun o=>.agg o.cells)→f 7=.int .i64 (j:Nat)→Q (.exit 6) (⟨f,[fr],[]⟩:St)) :
  QH Tryz.prog (.loop Tp) ⟨f,[fr],[]⟩ Q:=by
 let I:Nat→St→Prop:=fun k st=>∃f i,st=⟨f,[fr],[]⟩∧k=j-i∧i≤j∧f 1=.ptr 0 1 0∧f 3=.bool (b&&(L.take i).all fun y=>!(y.name==x.name))∧f 4=.int .i64 (n:Nat)∧f 6=.list (L.map fun o=>.agg o.cells)∧f 7=.int .i64 (j:Nat)∧f 8=.int .i64 (i:Nat)
 have hjl:j<L.length:=(QPD.1 hj).1;have hjm:(L.map fun o=>AV.agg o.cells)[j]? = some (.agg x.cells):=by simp[hj]
 refine Qg I _ ⟨f,0,rfl,rfl,QPJ _,h1,by rw[h3];simp,hr,hL,hc,hd⟩ ?_;clear h1 h3 hr hL hc hd;simp only[PO.cells]at hjm;rintro _ st ⟨f,i,rfl,rfl,hi,h1,h3,hr,hL,hc,hd⟩;simp only[hc,hd,Qb,seval];by_cases hlt:i<j
 ·obtain⟨o,hg⟩:∃o,L[i]? = some o:=⟨L[i]'(by omega),QPE (by omega)⟩;have hgm:(L.map fun o=>AV.agg o.cells)[i]? = some (.agg o.cells):=by simp[hg]
  have e1:=Qw i _ (show i<L.length by omega) hl;have ht:=Xm (q:=fun y:PO=>!(y.name==x.name)) hg;have fin:∀f':Fr,f' 1=.ptr 0 1 0→f' 3=.bool ((b&&(L.take i).all fun y=>!(y.name==x.name)) && !(o.name==x.name))→f' 4=.int .i64 (n:Nat)→f' 6=.list (L.map fun o=>.agg o.cells)→f' 7=.int .i64 (j:Nat)→f' 8=.int .i64 ((i+1:Nat):Int)→∃k,k<j-i∧I k ⟨f',[fr],[]⟩:=by
   intro f' a1 a3 a4 a5 a6 a7;exact⟨j-(i+1),by omega,f',i+1,rfl,rfl,by omega,a1,by rw[a3,ht,QQm],a4,a5,a6,a7⟩
  simp only[PO.cells]at hgm;cases hb:(b&&(L.take i).all fun y=>!(y.name==x.name))
  ·rw[hb]at fin h3;simp only[Qr hlt,h3,hd,e1,Qb,seval];exact fin _ (by exact h1) (by rfl) (by exact hr) (by exact hL) (by exact hc) (by rfl)
  ·rw[hb,QRf]at fin;rw[hb]at h3;simp only[Qr hlt,Qm,QQ2,Qf,hgm,hjm,PO.cells,Q5,h3,hL,hc,hd,e1,eE,seval];exact fin _ (by exact h1) (by rfl) (by exact hr) (by exact hL) (by exact hc) (by rfl)
 ·rw[show i=j by omega]at h3;simp only[QO hlt,Qb,seval];exact hx _ (by exact h1) (by exact h3) (by exact hr) (by exact hL) (by exact hc)

include h1 h3 in
theorem R3 (L:List PO)(hl:L.length≤maxLen)(n:Nat)(hr:f 4=.int .i64 (n:Nat))(hL:f 6=.list (L.map fun o=>.agg o.cells))(hc:f 7=.int .i64 0)
  (hx:∀f,f 1=.ptr 0 1 0→f 3=.bool (b&&Dr L PO.name)→f 4=.int .i64 (n:Nat)→Q (.exit 4) (⟨f,[fr],[]⟩:St)) :
  QH Tryz.prog (.loop Tq) ⟨f,[fr],[]⟩ Q:=by
 let I:Nat→St→Prop:=fun k st=>∃f i,st=⟨f,[fr],[]⟩∧k=L.length-i∧i≤L.length∧f 1=.ptr 0 1 0∧f 3=.bool (b&&QP (uniq L PO.name) i)∧f 4=.int .i64 (n:Nat)∧f 6=.list (L.map fun o=>.agg o.cells)∧f 7=.int .i64 (i:Nat)
 refine Qg I _ ⟨f,0,rfl,rfl,QPJ _,h1,by rw[h3];simp[QP],hr,hL,hc⟩ ?_;clear h1 h3 hr hL hc;rintro _ st ⟨f,i,rfl,rfl,hi,h1,h3,hr,hL,hc⟩;simp only[QQu,hL,hc,Qb,seval];by_cases hlt:i<L.length
 ·obtain⟨o,hg⟩:∃o,L[i]? = some o:=⟨L[i],QPE hlt⟩;have e1:=Qw i _ hlt hl;have ht:=JE b (uniq L PO.name) i;rw[N8 hg]at ht;simp only[Qr hlt,Qb,seval];refine R2 fr _ (b&&QP (uniq L PO.name) i) (by exact h1) (by exact h3) _ L hl i o hg n (by exact hr) (by exact hL) (by exact hc) (by rfl) (fun f h1 h3 hr hL hc=>?_);simp only[hc,e1,Qb,seval];exact⟨L.length-(i+1),by omega,_,i+1,rfl,rfl,by omega,(by exact h1),by rw[ht]<;>first|exact h3|simp only[h3,eE,seval],(by exact hr),(by exact hL),(by rfl)⟩
 ·rw[show i=L.length by omega]at h3;simp only[QO hlt,Qb,seval];exact hx _ (by exact h1) (by exact h3) (by exact hr)

include h1 h3 in
theorem Cx (L:List PI)(hl:L.length≤maxLen)(j:Nat)(x:PI)(hj:L[j]? = some x)(n:Nat)(hr:f 9=.int .i64 (n:Nat))(hL:f 10=.list (L.map fun o=>.agg o.cells))(hc:f 11=.int .i64 (j:Nat))(hd:f 12=.int .i64 0)
  (hx:∀f,f 1=.ptr 0 1 0→f 3=.bool (b&&(L.take j).all fun y=>!(y.name==x.name))→f 9=.int .i64 (n:Nat)→f 10=.list (L.map fun o=>.agg o.cells)→f 11=.int .i64 (j:Nat)→Q (.exit 12) (⟨f,[fr],[]⟩:St)) :
  QH Tryz.prog (.loop Ts) ⟨f,[fr],[]⟩ Q:=by
 let I:Nat→St→Prop:=fun k st=>∃f i,st=⟨f,[fr],[]⟩∧k=j-i∧i≤j∧f 1=.ptr 0 1 0∧f 3=.bool (b&&(L.take i).all fun y=>!(y.name==x.name))∧f 9=.int .i64 (n:Nat)∧f 10=.list (L.map fun o=>.agg o.cells)∧f 11=.int .i64 (j:Nat)∧f 12=.int .i64 (i:Nat)
 have hjl:j<L.length:=(QPD.1 hj).1;have hjm:(L.map fun o=>AV.agg o.cells)[j]? = some (.agg x.cells):=by simp[hj]
 refine Qg I _ ⟨f,0,rfl,rfl,QPJ _,h1,by rw[h3];simp,hr,hL,hc,hd⟩ ?_;clear h1 h3 hr hL hc hd;simp only[PI.cells]at hjm;rintro _ st ⟨f,i,rfl,rfl,hi,h1,h3,hr,hL,hc,hd⟩;simp only[hc,hd,Qb,seval];by_cases hlt:i<j
 ·obtain⟨o,hg⟩:∃o,L[i]? = some o:=⟨L[i]'(by omega),QPE (by omega)⟩;have hgm:(L.map fun o=>AV.agg o.cells)[i]? = some (.agg o.cells):=by simp[hg]
  have e1:=Qw i _ (show i<L.length by omega) hl;have ht:=Xm (q:=fun y:PI=>!(y.name==x.name)) hg;have fin:∀f':Fr,f' 1=.ptr 0 1 0→f' 3=.bool ((b&&(L.take i).all fun y=>!(y.name==x.name)) && !(o.name==x.name))→f' 9=.int .i64 (n:Nat)→f' 10=.list (L.map fun o=>.agg o.cells)→f' 11=.int .i64 (j:Nat)→f' 12=.int .i64 ((i+1:Nat):Int)→∃k,k<j-i∧I k ⟨f',[fr],[]⟩:=by
   intro f' a1 a3 a4 a5 a6 a7;exact⟨j-(i+1),by omega,f',i+1,rfl,rfl,by omega,a1,by rw[a3,ht,QQm],a4,a5,a6,a7⟩
  simp only[PI.cells]at hgm;cases hb:(b&&(L.take i).all fun y=>!(y.name==x.name))
  ·rw[hb]at fin h3;simp only[Qr hlt,h3,hd,e1,Qb,seval];exact fin _ (by exact h1) (by rfl) (by exact hr) (by exact hL) (by exact hc) (by rfl)
  ·rw[hb,QRf]at fin;rw[hb]at h3;simp only[Qr hlt,Qm,QQ2,Qf,hgm,hjm,PI.cells,Q5,h3,hL,hc,hd,e1,eE,seval];exact fin _ (by exact h1) (by rfl) (by exact hr) (by exact hL) (by exact hc) (by rfl)
 ·rw[show i=j by omega]at h3;simp only[QO hlt,Qb,seval];exact hx _ (by exact h1) (by exact h3) (by exact hr) (by exact hL) (by exact hc)

include h1 h3 in
theorem Cy (L:List PI)(hl:L.length≤maxLen)(n:Nat)(hr:f 9=.int .i64 (n:Nat))(hL:f 10=.list (L.map fun o=>.agg o.cells))(hc:f 11=.int .i64 0)
  (hx:∀f,f 1=.ptr 0 1 0→f 3=.bool (b&&Dr L PI.name)→f 9=.int .i64 (n:Nat)→Q (.exit 10) (⟨f,[fr],[]⟩:St)) :
  QH Tryz.prog (.loop Tt) ⟨f,[fr],[]⟩ Q:=by
 let I:Nat→St→Prop:=fun k st=>∃f i,st=⟨f,[fr],[]⟩∧k=L.length-i∧i≤L.length∧f 1=.ptr 0 1 0∧f 3=.bool (b&&QP (uniq L PI.name) i)∧f 9=.int .i64 (n:Nat)∧f 10=.list (L.map fun o=>.agg o.cells)∧f 11=.int .i64 (i:Nat)
 refine Qg I _ ⟨f,0,rfl,rfl,QPJ _,h1,by rw[h3];simp[QP],hr,hL,hc⟩ ?_;clear h1 h3 hr hL hc;rintro _ st ⟨f,i,rfl,rfl,hi,h1,h3,hr,hL,hc⟩;simp only[QQu,hL,hc,Qb,seval];by_cases hlt:i<L.length
 ·obtain⟨o,hg⟩:∃o,L[i]? = some o:=⟨L[i],QPE hlt⟩;have e1:=Qw i _ hlt hl;have ht:=JE b (uniq L PI.name) i;rw[N8 hg]at ht;simp only[Qr hlt,Qb,seval];refine Cx fr _ (b&&QP (uniq L PI.name) i) (by exact h1) (by exact h3) _ L hl i o hg n (by exact hr) (by exact hL) (by exact hc) (by rfl) (fun f h1 h3 hr hL hc=>?_);simp only[hc,e1,Qb,seval];exact⟨L.length-(i+1),by omega,_,i+1,rfl,rfl,by omega,(by exact h1),by rw[ht]<;>first|exact h3|simp only[h3,eE,seval],(by exact hr),(by exact hL),(by rfl)⟩
 ·rw[show i=L.length by omega]at h3;simp only[QO hlt,Qb,seval];exact hx _ (by exact h1) (by exact h3) (by exact hr)

include hP m1 h1 h3

theorem QKB (j:Nat)(x:PG)(hj:P.progs[j]? = some x)(ha:f 4=.int .i64 (j:Nat))(hc:f 5=.int .i64 0)(hx:∀f,f 1=.ptr 0 1 0→f 3=.bool (b&&P.enums.all fun e=>!(e.name==x.name))→f 4=.int .i64 (j:Nat)→Q (.exit 2) (⟨f,[fr],[]⟩:St)):QH Tryz.prog (.loop To) ⟨f,[fr],[]⟩ Q:=by
 let I:Nat→St→Prop:=fun k st=>∃f i,st=⟨f,[fr],[]⟩∧k=P.enums.length-i∧i≤P.enums.length∧f 1=.ptr 0 1 0∧f 3=.bool (b&&(P.enums.take i).all fun e=>!(e.name==x.name))∧f 4=.int .i64 (j:Nat)∧f 5=.int .i64 (i:Nat)
 have hjm:(P.progs.map Qp)[j]? = some (.agg x.cells):=by simp[hj,Qp]
 refine Qg I _ ⟨f,0,rfl,rfl,QPJ _,h1,by rw[h3];simp,ha,hc⟩ ?_;clear h1 h3 ha hc;simp only[Pc]at m1;simp only[PG.cells]at hjm;rintro _ st ⟨f,i,rfl,rfl,hi,h1,h3,ha,hc⟩;simp only[QQu,h1,m1,hc,eE,seval];by_cases hlt:i<P.enums.length
 ·obtain⟨o,hg⟩:∃o,P.enums[i]? = some o:=⟨P.enums[i],QPE hlt⟩;have hgm:(P.enums.map QW)[i]? = some (.agg o.cells):=by simp[hg,QW]
  have e1:=Qw i _ hlt hP.len2;have ht:=Xm (q:=fun y:PE=>!(y.name==x.name)) hg;have hcm:(x.name==o.name)=(o.name==x.name):=by rw[QRq,QP1,QP1];exact⟨Eq.symm,Eq.symm⟩
  have fin:∀f':Fr,f' 1=.ptr 0 1 0→f' 3=.bool ((b&&(P.enums.take i).all fun y=>!(y.name==x.name)) && !(o.name==x.name))→f' 4=.int .i64 (j:Nat)→f' 5=.int .i64 ((i+1:Nat):Int)→∃k,k<P.enums.length-i∧I k ⟨f',[fr],[]⟩:=by
   intro f' a1 a3 a4 a5;exact⟨P.enums.length-(i+1),by omega,f',i+1,rfl,rfl,by omega,a1,by rw[a3,ht,QQm],a4,a5⟩
  simp only[PE.cells]at hgm;cases hb:(b&&(P.enums.take i).all fun y=>!(y.name==x.name))
  ·rw[hb]at fin h3;simp only[Qr hlt,h3,hc,e1,Qb,seval];exact fin _ (by exact h1) (by rfl) (by exact ha) (by rfl)
  ·rw[hb,QRf]at fin;rw[hb]at h3;simp only[Qr hlt,Qm,QQ2,Qf,hjm,hgm,Q5,hcm,h1,m1,h3,ha,hc,e1,eE,seval];exact fin _ (by exact h1) (by rfl) (by exact ha) (by rfl)
 ·have hf:(P.enums.take i).all (fun e=>!(e.name==x.name))=P.enums.all fun e=>!(e.name==x.name):=by rw[QQa (by omega)]
  rw[hf]at h3;simp only[QO hlt,Qb,seval];exact hx _ (by exact h1) (by exact h3) (by exact ha)

theorem QKC (ha:f 4=.int .i64 0)(hx:∀f,f 1=.ptr 0 1 0→f 3=.bool (b&&P.progs.all (UF P))→Q (.exit 0) (⟨f,[fr],[]⟩:St)):QH Tryz.prog (.loop Tr) ⟨f,[fr],[]⟩ Q:=by
 let I:Nat→St→Prop:=fun k st=>∃f i,st=⟨f,[fr],[]⟩∧k=P.progs.length-i∧i≤P.progs.length∧f 1=.ptr 0 1 0∧f 3=.bool (b&&(P.progs.take i).all (UF P))∧f 4=.int .i64 (i:Nat)
 have m1':=m1;refine Qg I _ ⟨f,0,rfl,rfl,QPJ _,h1,by rw[h3];simp,ha⟩ ?_;clear h1 h3 ha;simp only[Pc]at m1;rintro _ st ⟨f,i,rfl,rfl,hi,h1,h3,ha⟩;simp only[QQu,h1,m1,ha,eE,seval];by_cases hlt:i<P.progs.length
 ·obtain⟨x,hg⟩:∃x,P.progs[i]? = some x:=⟨P.progs[i],QPE hlt⟩;have hgm:(P.progs.map Qp)[i]? = some (.agg x.cells):=by simp[hg,Qp]
  have e1:=Qw i _ hlt hP.len1;have ht:=Xm (q:=UF P) hg;have hq:UF P x=((P.enums.all fun e=>!(e.name==x.name))&&Dr x.ops PO.name):=rfl;simp only[PG.cells]at hgm;simp only[Qr hlt,Qb,seval];refine QKB P hP fr m1' _ (b&&(P.progs.take i).all (UF P)) (by exact h1) (by exact h3) _ i x hg (by exact ha) (by rfl) (fun f h1 h3 ha=>?_);simp only[Qm,QQ2,Qf,hgm,h1,m1,ha,eE,seval];refine R3 fr _ _ (by exact h1) (by exact h3) _ x.ops (hP.progs x (QPN hg)).len i (by exact ha) (by rfl) (by rfl) (fun f h1 h3 ha=>?_);simp only[ha,e1,Qb,seval];exact⟨P.progs.length-(i+1),by omega,_,i+1,rfl,rfl,by omega,(by exact h1),by rw[ht,hq,←QQm,←QQm]<;>first|exact h3|simp only[h3,eE,seval],(by rfl)⟩
 ·have hf:(P.progs.take i).all (UF P)=P.progs.all (UF P):=by rw[QQa (by omega)]
  rw[hf]at h3;simp only[QO hlt,Qb,seval];exact hx _ (by exact h1) (by exact h3)

theorem QKD (ha:f 9=.int .i64 0)(hx:∀f,f 1=.ptr 0 1 0→f 3=.bool (b&&P.enums.all UG)→Q (.exit 8) (⟨f,[fr],[]⟩:St)):QH Tryz.prog (.loop Tu) ⟨f,[fr],[]⟩ Q:=by
 let I:Nat→St→Prop:=fun k st=>∃f i,st=⟨f,[fr],[]⟩∧k=P.enums.length-i∧i≤P.enums.length∧f 1=.ptr 0 1 0∧f 3=.bool (b&&(P.enums.take i).all UG)∧f 9=.int .i64 (i:Nat)
 refine Qg I _ ⟨f,0,rfl,rfl,QPJ _,h1,by rw[h3];simp,ha⟩ ?_;clear h1 h3 ha;simp only[Pc]at m1;rintro _ st ⟨f,i,rfl,rfl,hi,h1,h3,ha⟩;simp only[QQu,h1,m1,ha,eE,seval];by_cases hlt:i<P.enums.length
 ·obtain⟨x,hg⟩:∃x,P.enums[i]? = some x:=⟨P.enums[i],QPE hlt⟩;have hgm:(P.enums.map QW)[i]? = some (.agg x.cells):=by simp[hg,QW]
  have e1:=Qw i _ hlt hP.len2;have ht:=Xm (q:=UG) hg;have hq:UG x=Dr x.items PI.name:=rfl;simp only[PE.cells]at hgm;simp only[Qr hlt,Qm,QQ2,Qf,hgm,h1,m1,ha,eE,seval];refine Cy fr _ (b&&(P.enums.take i).all UG) (by exact h1) (by exact h3) _ x.items (hP.enums x (QPN hg)).len1 i (by exact ha) (by rfl) (by rfl) (fun f h1 h3 ha=>?_);simp only[ha,e1,Qb,seval];exact⟨P.enums.length-(i+1),by omega,_,i+1,rfl,rfl,by omega,(by exact h1),by rw[ht,hq,←QQm]<;>first|exact h3|simp only[h3,eE,seval],(by rfl)⟩
 ·have hf:(P.enums.take i).all UG=P.enums.all UG:=by rw[QQa (by omega)]
  rw[hf]at h3;simp only[QO hlt,Qb,seval];exact hx _ (by exact h1) (by exact h3)

end

theorem z31 {M:Nat}(P:PL)(hP:P.ok M):Qh Tryz.prog 31 [P.av] (.bool (TF P)):=by
 have e0:P.av=.agg [.list (P.progs.map Qp),.list (P.enums.map QW)]:=rfl;refine k31.fn (by simp) ?_;simp only[e0,eE,seval];refine QKC P hP _ (by rfl) _ true (by rfl) (by rfl) _ (by rfl) (fun f h1 h3=>?_);simp only[Qb,seval];refine QKD P hP _ (by rfl) _ _ (by exact h1) (by exact h3) _ (by rfl) (fun f h1 h3=>?_);simp only[h3,TF,QRf,Qb,seval]

theorem QsM:Qh Tryz.prog 112 [.str alias] (.int .i64 7):=by
 refine QIu.fn (by simp) ?_;have b1:(alias==([100,101,112,114,101,99,97,116,101,100]:List UInt8))=false:=by decide
 have b2:(alias==([115,101,99,114,101,116]:List UInt8))=false:=by decide
 have b3:(alias==([105,100,101,109,112,111,116,101,110,116]:List UInt8))=false:=by decide
 have b4:(alias==([100,111,99]:List UInt8))=false:=by decide
 have b5:(alias==([97,108,105,97,115]:List UInt8))=true:=by decide
 simp only[Q5,b1,b2,b3,b4,b5,Qb,seval]

theorem QKE:Qh Tryz.prog 113 [.str alias,.int .i64 4] (.bool true):=by
 refine QIA.fn (by simp) ?_;have b1:(alias==([100,101,112,114,101,99,97,116,101,100]:List UInt8))=false:=by decide
 have b4:(alias==([100,111,99]:List UInt8))=false:=by decide
 have b5:(alias==([97,108,105,97,115]:List UInt8))=true:=by decide
 have c2:((4:Int)==2)=false:=rfl;have c4:((4:Int)==4)=true:=rfl;simp only[Q5,b1,b4,b5,c2,c4,Qb,seval]

section
variable (kd:Int)(b:Nat)(t:List UInt8)(l p s r:List AV)(ht:t.length+8≤maxLen)
include ht

theorem QKF:Qh Tryz.prog 169 [.int .i64 7,vo kd b t l p s r] (.bool (ZI 7 kd b t l p s r)):=by
 have hl:=RZ kd b t l p s r;simp only[vo]at hl;have n1:(kd != 7)=!(kd==7):=rfl;have k7:isk 7=true:=rfl;have t7:XZ 7=true:=rfl;have f7:Jf 7 b=true:=rfl;have c8:((7:Int)==8)=false:=rfl;have c7:((7:Int) != 7)=false:=rfl;refine QkR.fn (by simp) ?_;simp only[vo,ZI,k7,f7,c7,QRf,QQN,QRj,eE,seval];refine Qa (Dq 7) rfl rfl rfl (.inl rfl) ?_;simp only[k7,n1,QRg,eE,seval];by_cases hk:kd=7
 ·subst hk;have a1:((7:Int)==7)=true:=rfl;simp only[a1,QRg,QRf,t7,eE,seval];refine Qa hl rfl rfl rfl (.inl rfl) ?_;cases Wt l p s r
  ·simp only[QQH,QQ5,Qb,seval]
  simp only[QRg,QRf,Qb,seval];refine Qa (Wo 7) rfl rfl rfl (.inl rfl) ?_;simp only[t7,eE,seval];cases a2:((b:Int)==0)
  ·simp only[QQ5,Qb,seval]
  cases a3:decide ((t.length:Int)≤4096)
  ·simp only[a3,QQ5,QRt,eE,seval]
  simp only[a3,c8,QRf,eE,seval];refine Qa (Ck t ht) rfl rfl rfl (.inl rfl) ?_;simp only[Qb,seval]
 ·have a1:(kd==7)=false:=by simp[hk]
  simp only[a1,QQH,QQ5,Qb,seval]

theorem QKG:Qh Tryz.prog 114 [nv kd b t l p s r] (.bool (ZI 7 kd b t l p s r)):=by
 have hf:=QKF kd b t l p s r ht;have b0:((7:Int) != 0)=true:=rfl;simp only[vo]at hf;refine QIx.fn (by simp) ?_;simp only[nv,eE,seval];refine Qa QsM rfl rfl rfl (.inl rfl) ?_;simp only[b0,eE,seval];cases a1:(kd==7)
 ·have e:ZI 7 kd b t l p s r=false:=by unfold ZI;rw[a1];rfl
  simp only[e,Qb,seval]
 ·simp only[eE,seval];refine Qa hf rfl rfl rfl (.inl rfl) ?_;simp only[Qb,seval]

def RcI (k:Nat)(st:St):Prop :=
 ∃f i,st=⟨f,[QE],[]⟩∧k=1-i∧i≤1∧(i=1→ZI 7 kd b t l p s r=true)∧f 0=.list [nv kd b t l p s r]∧f 1=.int .i64 4∧f 5=.int .i64 (i:Nat)

theorem z64:Qh Tryz.prog 64 [.list [nv kd b t l p s r],.int .i64 4] (.int .i64 (if ZI 7 kd b t l p s r=true then 0 else 12)):=by
 have b0:decide (((1:Nat):Int) > 8)=false:=rfl;have hr:=QKG kd b t l p s r ht;simp only[nv]at hr;refine k64.fn (by simp) ?_;simp only[QPP,QQv,QQi,Qb,seval];refine Qg (RcI kd b t l p s r) 1 ⟨_,0,rfl,rfl,QPJ _,(fun h=>by cases h),(by rfl),(by rfl),(by rfl)⟩ ?_;rintro _ st ⟨f,i,rfl,rfl,hi,hf,h0,h1,h5⟩;simp only[nv]at h0;simp only[h0,h5,QPP,QQv,QQi,Qb,seval];rcases Nat.le_one_iff_eq_zero_or_eq_one.1 hi with rfl|rfl
 ·have c0:decide (((0:Nat):Int)<((1:Nat):Int))=true:=rfl;have c1:decide (((0:Nat):Int) > 0)=false:=rfl;have d7:((7:Int)==0)=false:=rfl;have e1:IntKind.i64.wrap (((0:Nat):Int)+1)=((1:Nat):Int):=rfl;have z0:(0≤((0:Nat):Int))=True:=by simp
  have z1:Int.toNat ((0:Nat):Int)=0:=rfl;simp only[Qf,QQC,h0,h5,eE,seval];refine Qa QsM rfl rfl rfl (.inl rfl) ?_;simp only[d7,Qf,QQC,h0,h1,h5,eE,seval];refine Qa QKE rfl rfl rfl (.inl rfl) ?_;simp only[QRg,Qf,QQC,h0,h5,eE,seval];refine Qa hr rfl rfl rfl (.inl rfl) ?_;cases hfv:ZI 7 kd b t l p s r
  ·simp only[QQH,QPT,Qb,seval]
  ·simp only[QRg,h5,Qb,seval];exact⟨0,by omega,_,1,rfl,rfl,QPB _,fun _=>hfv,(by exact h0),(by exact h1),(by rfl)⟩
 ·have c0:decide (((1:Nat):Int)<((1:Nat):Int))=false:=rfl;simp only[hf rfl,Qb,seval]

end

section
variable (P:PL)

def Y5 (P:PL)(o:PO):Bool :=
 if o.kind=10 then decide (o.target≥0)&&decide (o.target<(P.progs.length:Int))&&o.card != 3
 else if o.kind=9 then decide (o.target≥0)&&decide (o.target<(P.enums.length:Int))else o.target == -1

theorem QKH (o:PO):Qh Tryz.prog 116 [P.av,Qv o] (.bool (Y5 P o)):=by
 have e0:P.av=.agg [.list (P.progs.map Qp),.list (P.enums.map QW)]:=rfl;refine QID.fn (by simp) ?_;simp only[e0,Qv,PO.cells,Y5,eE,seval];by_cases h:o.kind=10
 ·have b0:(o.kind==10)=true:=by simp[h]
  simp only[b0,QP5 h,eE,seval];cases a1:decide (o.target≥0)<;>cases a2:decide (o.target<(P.progs.length:Int))<;>simp only[a2,QRf,QQ5,QQu,eE,seval]
 ·have b0:(o.kind==10)=false:=by simp[h]
  by_cases h9:o.kind=9
  ·have b1:(o.kind==9)=true:=by simp[h9]
   simp only[b0,b1,QPO h,QP5 h9,eE,seval];cases a1:decide (o.target≥0)<;>simp only[QRf,QQ5,QQu,eE,seval]
  ·have b1:(o.kind==9)=false:=by simp[h9]
   simp only[b0,b1,QPO h,QPO h9,eE,seval]

theorem QsN (o:PO):(Jv P o&&KL o)=(YD o.alias&&(decide ((o.alias.length:Int)≤4096)&&(decide (o.card≥1)&&(decide (o.card≤5)&&(decide (o.kind≥1)&&(decide (o.kind≤10)&&(key o&&Y5 P o&&KL o))))))):=by
 have h:Vb P o=(decide (o.kind≥1)&&decide (o.kind≤10)&&Y5 P o):=by
  unfold Vb Y5;by_cases h:o.kind=10
  ·rw[QP5 h,QP5 h,h];rfl
  ·rw[QPO h,QPO h];by_cases h9:o.kind=9
   ·rw[QP5 h9,QP5 h9,h9];rfl
   ·rw[QPO h9,QPO h9];congr 1
    unfold isk;rw[QRq,QPY,QPY];simp only[QQW];omega
 unfold Jv;rw[h];cases YD o.alias<;>cases decide ((o.alias.length:Int)≤4096)<;>cases decide (o.card≥1)<;>cases decide (o.card≤5)<;>cases decide (o.kind≥1)<;>cases decide (o.kind≤10)<;>cases key o<;>cases Y5 P o<;>cases KL o<;>rfl

theorem z66 (o:PO)(ha:o.alias.length+8≤maxLen):Qh Tryz.prog 66 [P.av,Qv o] (.bool (Jv P o&&KL o)):=by
 have e0:P.av=.agg [.list (P.progs.map Qp),.list (P.enums.map QW)]:=rfl;have n1:decide ((o.alias.length:Int) > 4096)=!decide ((o.alias.length:Int)≤4096):=(by rw[QRq];simp only[QQW,QQx,QRr];omega);have n2:decide (o.card<1)=!decide (o.card≥1):=(by rw[QRq];simp only[QQW,QQx,QRr];omega);have n3:decide (o.card > 5)=!decide (o.card≤5):=(by rw[QRq];simp only[QQW,QQx,QRr];omega);have n4:decide (o.kind<1)=!decide (o.kind≥1):=(by rw[QRq];simp only[QQW,QQx,QRr];omega);have n5:decide (o.kind > 10)=!decide (o.kind≤10):=(by rw[QRq];simp only[QQW,QQx,QRr];omega);have ht:Qh Tryz.prog 116 [.agg [.list (P.progs.map Qp),.list (P.enums.map QW)],Qv o] (.bool (Y5 P o)):=QKH P o;have hk1:o.card≠5→key o=(o.key==0):=fun h=>by unfold key;rw[QPO h]
 have hk2:o.card=5→key o=((decide (o.key≥1)&&decide (o.key≤5))||o.key==7):=fun h=>by
  unfold key;rw[QP5 h,QRq];simp only[QPY,QQz,QQW,QP1,QP2,ne_eq];omega
 have hu:KL o=(o.union == -1||o.card==2):=rfl;simp only[Qv,PO.cells]at ht;rw[QsN];refine k66.fn (by simp) ?_;simp only[S8,S9,Ta,Tb,Tc,Td,r66,o66,e0,Qv,PO.cells,eE,seval];refine Qa (Ck o.alias ha) rfl rfl rfl (.inl rfl) ?_;cases YD o.alias
 ·simp only[QQH,QQ5,Qb,seval]
 cases a1:decide ((o.alias.length:Int)≤4096)
 ·simp only[QRg,QQH,QRf,n1,a1,QQ5,eE,seval]
 cases a2:decide (o.card≥1)
 ·simp only[QRg,QQH,QRf,n1,n2,a1,a2,QQ5,eE,seval]
 cases a3:decide (o.card≤5)
 ·simp only[QRg,QQH,QRf,n1,n2,n3,a1,a2,a3,QQ5,eE,seval]
 cases a4:decide (o.kind≥1)
 ·simp only[QRg,QQH,QRf,n1,n2,n3,n4,a1,a2,a3,a4,QQ5,eE,seval]
 cases a5:decide (o.kind≤10)
 ·simp only[QRg,QQH,QRf,n1,n2,n3,n4,n5,a1,a2,a3,a4,a5,QQ5,eE,seval]
 have fin:∀(f:Fr) (fr:Nat→Ob) (kb:Bool),kb=key o→f 2=.ptr 0 2 0→fr 2=.cells [.list (P.progs.map Qp),.list (P.enums.map QW)]→f 3=.ptr 0 3 0→fr 3=.cells [.int .i64 o.num,.str o.name,.str o.alias,.int .i64 o.card,.int .i64 o.key,.int .i64 o.kind,.int .i64 o.target,.int .i64 o.union]→f 5=.bool kb→
   QD Tryz.prog Cg ⟨f,[fr],[]⟩ (Kc Tryz.prog .ret (ZD [.tmp 4] 0 fun x _=>x=.bool (key o&&Y5 P o&&KL o)) .normal):=by
  intro f fr kb hkb h2 m2 h3 m3 h5;subst hkb;simp only[Cg,h5,Qb,seval];cases key o
  ·simp only[QQ5,Qb,seval]
  simp only[h2,m2,h3,m3,QRf,eE,seval];refine Qa ht rfl rfl rfl (.inl rfl) ?_;cases Y5 P o
  ·simp only[QQ5,Qb,seval]
  rw[hu];cases c1:(o.union == -1)<;>simp only[h3,m3,c1,QRf,QRi,QRj,eE,seval]
 by_cases h5:o.card=5
 ·have b5:(o.card != 5)=false:=by simp[h5]
  have hk:=hk2 h5;simp only[QRg,QRf,n1,n2,n3,n4,n5,a1,a2,a3,a4,a5,eE,seval];cases c1:decide (o.key≥1)<;>cases c2:decide (o.key≤5)<;>cases c3:(o.key==7)<;>simp only[c2,c3,b5,eE,seval]
  all_goals
   rw[c1,c2,c3]at hk;exact fin _ _ _ hk.symm (by rfl) (by rfl) (by rfl) (by rfl) (by rfl)
 ·have b5:(o.card != 5)=true:=by simp[h5]
  have hk:=hk1 h5;simp only[QRg,QRf,n1,n2,n3,n4,n5,a1,a2,a3,a4,a5,eE,seval];cases c1:decide (o.key≥1)<;>cases c2:decide (o.key≤5)<;>cases c3:(o.key==7)<;>simp only[c2,c3,b5,eE,seval]
  all_goals exact fin _ _ _ hk.symm (by rfl) (by rfl) (by rfl) (by rfl) (by rfl)

end

end Go.Proofs.YtfgchfdkiomfpaaGreat.Va

namespace Go.Proofs.YtfgchfdkiomfpaaGreat.Cp
open Go Am Bt Vp

structure C where
 d:List UInt8
 a:Int
 e:Int
 dp:Int
 nd:Int
 tx:Int

def C.av (c:C):AV:=.agg [.str c.d,.int .i64 c.a,.int .i64 c.e,.int .i64 c.dp,.int .i64 c.nd,.int .i64 c.tx]
def zc:C:=⟨[],0,0,0,0,0⟩

structure L where
 b:Int
 dp:Int
 nd:Int
 tx:Int
def L.av (l:L):AV:=.agg [.int .i64 l.b,.int .i64 l.dp,.int .i64 l.nd,.int .i64 l.tx]

def C.sound (c:C):Bool:=decide (0≤c.a)&&decide (c.a≤c.e)&&decide (c.e≤(c.d.length:Int))
def C.rest (c:C):List UInt8:=bif c.sound then(c.d.drop c.a.toNat).take (c.e.toNat-c.a.toNat)else []
def C.left (c:C):Int:=(c.rest.length:Int)
def C.ahead (c:C)(n:Int):C:={ c with a:=IntKind.i64.wrap (c.a+n) }

def opn (s:List UInt8)(l:L):C×Nat :=
 if l.b<0∨l.dp<0∨l.nd<0∨l.tx<0 then(zc,1)else if l.b<(s.length:Int)then(zc,3)else(⟨s,0,s.length,l.dp,l.nd,l.tx⟩,0)

def C.varint (c:C):Nat×C×Nat :=
 let r:=Vp.take c.rest
 if r.2.2=0 then(r.1,c.ahead r.2.1,0)else(0,c,r.2.2)

def UJ (s:List UInt8):Nat:=(s.take 8).foldr (fun b u=>256*u+b.toNat) 0

def C.fixed (c:C):Nat×C×Nat :=
 if c.rest.length<8 then(0,c,4)else(UJ c.rest,c.ahead 8,0)

def C.spend (c:C)(n:Int):C×Nat :=
 if n<0 then(c,1)else if c.nd<n then(c,3)else({ c with nd:=IntKind.i64.wrap (c.nd-n) },0)

def X4 (r:Nat×C×Nat):AV:=.tup [.int .u64 (r.1:Nat),r.2.1.av,.int .i64 (r.2.2:Nat)]
def Z6 (r:C×Nat):AV:=.tup [r.1.av,.int .i64 (r.2:Nat)]

theorem C.sound_iff (c:C):c.sound=true↔0≤c.a∧c.a≤c.e∧c.e≤(c.d.length:Int):=by
 simp[C.sound,and_assoc]

theorem C.rest_len (c:C):c.left=if c.sound=true then c.e-c.a else 0:=by
 unfold C.left C.rest;split
 ·rename_i h;rw[h];have:=(C.sound_iff c).1 h;simp;omega
 ·rename_i h;have h:c.sound=false:=by simpa using h
  rw[h];rfl

theorem C.rest_of {c:C}(h:c.sound=true):c.rest=(c.d.drop c.a.toNat).take (c.e.toNat-c.a.toNat):=by
 unfold C.rest;rw[h];rfl

theorem C.rest_no {c:C}(h:c.sound=false):c.rest=[]:=by
 unfold C.rest;rw[h];rfl

theorem C.head_of {c:C}(h:c.sound=true)(n:Nat)(k:Int)(hk:k=if c.a+n<c.e then c.a+n else c.e):c.rest.take n=(c.d.drop c.a.toNat).take (k.toNat-c.a.toNat):=by
 have hs:=(C.sound_iff c).1 h;rw[C.rest_of h,List.take_take];congr 1
 split at hk<;>omega

end Go.Proofs.YtfgchfdkiomfpaaGreat.Cp

namespace Go.Proofs.YtfgchfdkiomfpaaGreat.Up
open Go Am Bt Vp Cp

structure R where
 num:Int
 wire:Int
 bits:Nat
 data:List UInt8
 deriving DecidableEq

def R.av (f:R):AV:=.agg [.int .i64 f.num,.int .i64 f.wire,.int .u64 (f.bits:Nat),.str f.data]
def zr:R:=⟨0,0,0,[]⟩

def Qz (c:C):Int×Int×C×Nat :=
 let r:=c.varint
 if r.2.2=0 then
  if r.1 % 8=7 then(0,0,c,5)else if r.1 / 8<1∨65535<r.1 / 8 then(0,0,c,6)else((r.1 / 8:Nat),(r.1 % 8:Nat),r.2.1,0)
 else(0,0,c,r.2.2)
def Wv (r:Int×Int×C×Nat):AV:=.tup [.int .i64 r.1,.int .i64 r.2.1,r.2.2.1.av,.int .i64 (r.2.2.2:Nat)]

def We (wire:Int):Bool:=wire==0||wire==1||wire==2

def Wf (c:C)(wire:Int):List UInt8×C×Nat :=
 let r:=c.varint
 if r.2.2=0 then
  if r.2.1.left<(r.1:Int)then([],c,4)
  else if (if wire=3 then c.tx else 65536)<(r.1:Int)then([],c,3)
  else((r.2.1.d.drop r.2.1.a.toNat).take r.1,r.2.1.ahead r.1,0)
 else([],c,r.2.2)
def UK (r:List UInt8×C×Nat):AV:=.tup [.str r.1,r.2.1.av,.int .i64 (r.2.2:Nat)]

def Zc (c:C)(f:R):R×C×Nat :=
 if f.wire=2 then({ f with bits:=c.fixed.1 },c.fixed.2.1,c.fixed.2.2)
 else if f.wire=0∨f.wire=1 then({ f with bits:=c.varint.1 },c.varint.2.1,c.varint.2.2)
 else({ f with data:=(Wf c f.wire).1 },(Wf c f.wire).2.1,(Wf c f.wire).2.2)

def XH (c:C):R×C×Nat :=
 let t:=Qz c
 if t.2.2.2=0 then
  let s:=t.2.2.1.spend 1
  if s.2=0 then
   let k:=Zc s.1 { num:=t.1,wire:=t.2.1,bits:=0,data:=[] }
   if k.2.2=0 then k else(zr,c,k.2.2)
  else(zr,c,s.2)
 else(zr,c,t.2.2.2)
def ZV (r:R×C×Nat):AV:=.tup [r.1.av,r.2.1.av,.int .i64 (r.2.2:Nat)]

theorem Bq {c:C}(h:c.rest≠[]):c.sound=true:=by
 cases hs:c.sound with
 |true=>rfl
 |false=>exact absurd (C.rest_no hs) h

theorem XS {c:C}(hl:c.d.length≤9223372036854775807)(h:c.varint.2.2=0):∃n:Nat,0<n∧n≤10∧(n:Int)≤c.left∧c.varint.2.1={ c with a:=c.a+n }∧c.sound=true∧c.varint.2.1.sound=true∧c.varint.1<2 ^ 64:=by
 unfold C.varint at h ⊢;have hb:=Nr c.rest;generalize Vp.take c.rest=r at h hb ⊢;obtain⟨u,n,e⟩:=r;simp only at h hb ⊢;split at h
 ·rename_i he;subst he;obtain⟨h1,h2,h3,h4⟩:=hb rfl;have hne:c.rest≠[]:=by intro e;rw[e]at h2;simp at h2;omega
  have hs:=Bq hne;have hs':=(C.sound_iff c).1 hs;have hle:=c.rest_len;rw[QP5 hs]at hle;have hw:IntKind.i64.wrap (c.a+(n:Int))=c.a+n:=by
   have:(n:Int)≤c.left:=by unfold C.left;omega
   rw[QB];omega
  have hnl:(n:Int)≤c.left:=by unfold C.left;omega
  refine⟨n,h1,h3,hnl,?_,hs,?_,?_⟩
  ·rw[QP5 rfl];simp only[C.ahead,hw]
  ·rw[QP5 rfl];rw[C.sound_iff];simp only[C.ahead,hw];omega
  ·rw[QP5 rfl];exact h4
 ·rename_i he;exact absurd h he

end Go.Proofs.YtfgchfdkiomfpaaGreat.Up

namespace Go.Proofs.YtfgchfdkiomfpaaGreat.Br
open Go Am Up

inductive V where
 |mk (k:Int) (b:Nat) (t:List UInt8) (l:List V) (p:List (V×V)) (s:List (Int×V)) (r:List R)
 deriving Inhabited

mutual
def V.cells:V→List AV
 |.mk k b t l p s r=>[.int .i64 k,.int .u64 (b:Nat),.str t,.list (V.cl l),.list (V.cp p),.list (V.cs s),.list (r.map R.av)]
def V.cl:List V→List AV
 | []=>[]
 |x :: l=>.agg x.cells :: V.cl l
def V.cp:List (V×V)→List AV
 | []=>[]
 |(a,b) :: l=>.agg (a.cells++b.cells) :: V.cp l
def V.cs:List (Int×V)→List AV
 | []=>[]
 |(n,a) :: l=>.agg (.int .i64 n :: a.cells) :: V.cs l
end

def V.kd:V→Int|.mk k _ _ _ _ _ _=>k
def V.bits:V→Nat|.mk _ b _ _ _ _ _=>b
def V.text:V→List UInt8|.mk _ _ t _ _ _ _=>t
def V.list:V→List V|.mk _ _ _ l _ _ _=>l
def V.pairs:V→List (V×V)|.mk _ _ _ _ p _ _=>p
def V.slots:V→List (Int×V)|.mk _ _ _ _ _ s _=>s
def V.raws:V→List R|.mk _ _ _ _ _ _ r=>r

def V.av (v:V):AV:=.agg v.cells
def V.pav (p:V×V):AV:=.agg (p.1.cells++p.2.cells)
def V.sav (s:Int×V):AV:=.agg (.int .i64 s.1 :: s.2.cells)

theorem V.cl_eq:∀l:List V,V.cl l=l.map V.av
 | []=>rfl
 |x :: l=>by rw[V.cl,V.cl_eq l];rfl
theorem V.cp_eq:∀l:List (V×V),V.cp l=l.map V.pav
 | []=>rfl
 |(a,b) :: l=>by rw[V.cp,V.cp_eq l];rfl
theorem V.cs_eq:∀l:List (Int×V),V.cs l=l.map V.sav
 | []=>rfl
 |(n,a) :: l=>by rw[V.cs,V.cs_eq l];rfl

theorem V.eta:∀v:V,v.cells=[.int .i64 v.kd,.int .u64 (v.bits:Nat),.str v.text,.list (v.list.map V.av),.list (v.pairs.map V.pav),.list (v.slots.map V.sav),.list (v.raws.map R.av)]
 |.mk k b t l p s r=>by rw[V.cells,V.cl_eq,V.cp_eq,V.cs_eq];rfl

theorem V.ind {P:V→Prop}(h:∀v:V,(∀x∈v.list,P x)→(∀x∈v.pairs,P x.1∧P x.2)→(∀x∈v.slots,P x.2)→P v)(v:V):P v :=
 V.rec (motive_1:=P) (motive_2:=fun l=>∀x∈l,P x) (motive_3:=fun p=>∀x∈p,P x.1∧P x.2) (motive_4:=fun s=>∀x∈s,P x.2) (motive_5:=fun q=>P q.1∧P q.2) (motive_6:=fun q=>P q.2)
  (fun k b t l p s r hl hp hs=>h (.mk k b t l p s r) hl hp hs)
  (by simp) (fun a l ha hl=>by simpa using ⟨ha,hl⟩)
  (by simp) (fun a l ha hl=>by simp only[QQV,forall_eq_or_imp];exact⟨ha,hl⟩)
  (by simp) (fun a l ha hl=>by simp only[QQV,forall_eq_or_imp];exact⟨ha,hl⟩)
  (fun a b ha hb=>⟨ha,hb⟩) (fun n a ha=>ha) v

structure _root_.Go.Proofs.YtfgchfdkiomfpaaGreat.Up.R.ok (M:Nat)(f:R):Prop where
 num:(Lit.int .i64 f.num).wf=true
 wire:(Lit.int .i64 f.wire).wf=true
 bits:(Lit.int .u64 (f.bits:Int)).wf=true
 data:f.data.length≤M

inductive V.ok (M:Nat):V→Prop
 |mk {v:V} (kd:(Lit.int .i64 v.kd).wf=true) (bits:(Lit.int .u64 (v.bits:Int)).wf=true) (text:v.text.length≤M) (nl:v.list.length≤1099511627776) (np:v.pairs.length≤549755813888) (ns:v.slots.length≤1099511627776) (nr:v.raws.length≤70368744177664)
   (list:∀x∈v.list,V.ok M x) (keys:∀x∈v.pairs,V.ok M x.1) (vals:∀x∈v.pairs,V.ok M x.2) (nums:∀x∈v.slots,(Lit.int .i64 x.1).wf=true) (slots:∀x∈v.slots,V.ok M x.2) (raws:∀x∈v.raws,x.ok M):V.ok M v

section
variable {M:Nat}{v:V}(h:v.ok M)
include h
theorem V.ok.kd:(Lit.int .i64 v.kd).wf=true:=by cases h;assumption
theorem V.ok.bits:(Lit.int .u64 (v.bits:Int)).wf=true:=by cases h;assumption
theorem V.ok.text:v.text.length≤M:=by cases h;assumption
theorem V.ok.nl:v.list.length≤1099511627776:=by cases h;assumption
theorem V.ok.np:v.pairs.length≤549755813888:=by cases h;assumption
theorem V.ok.ns:v.slots.length≤1099511627776:=by cases h;assumption
theorem V.ok.nr:v.raws.length≤70368744177664:=by cases h;assumption
theorem V.ok.list:∀x∈v.list,x.ok M:=by cases h;assumption
theorem V.ok.keys:∀x∈v.pairs,x.1.ok M:=by cases h;assumption
theorem V.ok.vals:∀x∈v.pairs,x.2.ok M:=by cases h;assumption
theorem V.ok.nums:∀x∈v.slots,(Lit.int .i64 x.1).wf=true:=by cases h;assumption
theorem V.ok.slots:∀x∈v.slots,x.2.ok M:=by cases h;assumption
theorem V.ok.raws:∀x∈v.raws,x.ok M:=by cases h;assumption
end

end Go.Proofs.YtfgchfdkiomfpaaGreat.Br

namespace Go.Proofs.YtfgchfdkiomfpaaGreat.Va
open Go Am Rc Bt Br

def oth (k:Int)(b:Nat)(t:List UInt8)(l p s r:List AV):Bool :=
 (k != 11&&decide ((l.length:Int) > 0))||(k != 12&&decide ((p.length:Int) > 0))||(k != 10&&decide (((s.length+r.length:Nat):Int) > 0))||((b:Int) != 0&&(XZ k||k==10||k==11||k==12))||(!(t==[]) && !XZ k)

section
variable (k:Int)(b:Nat)(t:List UInt8)(l p s r:List AV)(hs:s.length≤140737488351232)(hr:r.length≤140737488351232)

end

section
variable (k:Int)(b:Nat)(t:List UInt8)(l p s r:List AV)(hs:s.length≤140737488351232)(hr:r.length≤140737488351232)

end

theorem Po {α:Type}(p:α→Bool){l:List α}{i:Nat}{x:α}(hx:l[i]? = some x):(l.drop i).find? p=if p x=true then some x else(l.drop (i+1)).find? p:=by
 have hlt:i<l.length:=(QPD.1 hx).1;rw[QQk hlt,show l[i]=x from(QPD.1 hx).2,QRn];cases p x<;>rfl

def zc:List AV:=[.int .i64 0,.str [],.str [],.int .i64 0,.int .i64 0,.int .i64 0,.int .i64 0,.int .i64 0]

def OpI (g:PG)(n:Int)(k:Nat)(st:St):Prop :=
 ∃f fr i,st=⟨f,[fr],[]⟩∧k=g.ops.length-i∧g.ops.find? (fun o=>o.num==n)=(g.ops.drop i).find? (fun o=>o.num==n)∧f 1=.int .i64 n∧f 2=.ptr 0 2 0∧f 4=.ptr 0 4 0∧f 6=.int .i64 (i:Nat)∧fr 2=.cells g.cells∧fr 4=.cells zc

theorem y75 (g:PG)(hl:g.ops.length≤maxLen)(n:Int):Qh Tryz.prog 75 [Qp g,.int .i64 n] (Gz (fun o=>o.num==n) g.ops):=by
 refine k75.fn (by simp) ?_;simp only[Qp,PG.cells,eE,seval];refine Qg (OpI g n) _ ⟨_,_,0,rfl,rfl,rfl,(by rfl),(by rfl),(by rfl),(by rfl),(by rfl),(by rfl)⟩ ?_;rintro _ st ⟨f,fr,i,rfl,rfl,hx,h1,h2,h4,h6,m2,m4⟩;simp only[PG.cells,zc]at m2 m4;simp only[QQu,h2,h6,m2,eE,seval];by_cases hlt:i<g.ops.length
 ·obtain⟨x,hi⟩:∃x,g.ops[i]? = some x:=⟨g.ops[i],QPE hlt⟩;have hg:(g.ops.map fun o=>AV.agg o.cells)[i]? = some (.agg x.cells):=by simp[hi]
  have e1:=Qw i _ hlt hl;rw[Po _ hi]at hx;simp only[PO.cells]at hg m2;simp only[Qr hlt,Qm,QQ2,Qf,hg,PO.cells,h1,h2,h6,m2,eE,seval];cases hp:(x.num==n)
  ·rw[hp]at hx;simp only[QPT,if_false]at hx;simp only[h6,e1,Qb,seval];exact⟨g.ops.length-(i+1),by omega,_,_,i+1,rfl,rfl,hx,(by exact h1),(by exact h2),(by exact h4),(by rfl),m2,m4⟩
  ·rw[hp]at hx;simp only[if_true]at hx;simp only[Qm,QQ2,Qf,hg,Gz,hx,QQK,QRp,Qv,PO.cells,h2,h4,h6,m2,m4,splice,QQI,QPX,QQc,QQj,QQO,QQD,QPP,QQv,QQL,QQM,AV.leaf,eE,seval]
 ·have hx':g.ops.find? (fun o=>o.num==n)=none:=by rw[hx,QQd (by omega)];rfl
  simp only[QO hlt,h4,m4,Gz,hx',QRc,QQq,N7,Qv,PO.cells,splice,QQI,QPX,QQc,QQj,QQO,QQD,QPP,QQv,QQL,QQM,AV.leaf,eE,seval]

section progs
variable (L:List PG)(hl:L.length≤maxLen)(p:PG→Bool)(c:Nat)(cap:AV)(m:Qj)

def IxG (k:Nat)(st:St):Prop :=
 ∃f i,st=⟨f,QE :: m,[]⟩∧k=L.length-i∧Zr p L 0=Zr p (L.drop i) i∧f 0=.list (L.map Qp)∧f 1=.fn (.func c) [] [cap.sh]∧f 7=.int .i64 (L.length:Nat)∧f 8=.int .i64 (i:Nat)

include hl in
theorem y35 (hc:∀o∈L,Qx Tryz.prog c [Qp o,cap.sh] (QE :: m) fun y m1=>y=.bool (p o)∧m1=QE :: m) :
  Qx Tryz.prog 35 [.list (L.map Qp),.fn (.func c) [] [cap]] m fun y m1=>y=.int .i64 (Zr p L 0)∧m1=m:=by
 refine k35.go (by simp) ?_;simp only[QQu,Qb,seval];refine Qg (IxG L p c cap m) _ ⟨_,0,rfl,rfl,rfl,(by rfl),(by rfl),(by rfl),(by rfl)⟩ ?_;rintro _ st ⟨f,i,rfl,rfl,hx,h0,h1,h7,h8⟩;simp only[h7,h8,Qb,seval];by_cases hlt:i<L.length
 ·obtain⟨x,hi⟩:∃x,L[i]? = some x:=⟨L[i],QPE hlt⟩;have hcl:=hc x (QPN hi);have hg:(L.map Qp)[i]? = some (Qp x):=by simp[hi]
  have e1:=Qw i _ hlt hl;simp only[Qp,PG.cells]at hcl;simp only[Qr hlt,Qm,QQ2,Qf,hg,Qp,PG.cells,h0,h1,h8,eE,seval];refine YW (fa:=[]) (fb:=[cap.sh]) (by rfl) hcl (by simp only[QP8,QQB,QPX,QPW,Qb,seval]) ?_;rw[YY p hi]at hx;cases hp:p x
  ·rw[hp]at hx;simp only[QPT,if_false]at hx;simp only[h8,e1,Qb,seval];exact⟨L.length-(i+1),by omega,_,i+1,rfl,rfl,hx,(by exact h0),(by exact h1),(by exact h7),(by rfl)⟩
  ·rw[hp]at hx;simp only[if_true]at hx;simp only[hx,Qb,seval]
 ·have hx':Zr p L 0 = -1:=by rw[hx,QQd (by omega)];rfl
  simp only[QO hlt,hx',Qb,seval]

end progs

section items
variable (L:List PI)(hl:L.length≤maxLen)(p:PI→Bool)(c:Nat)(cap:AV)(m:Qj)

def IxI (k:Nat)(st:St):Prop :=
 ∃f i,st=⟨f,QE :: m,[]⟩∧k=L.length-i∧Zr p L 0=Zr p (L.drop i) i∧f 0=.list (L.map UC)∧f 1=.fn (.func c) [] [cap.sh]∧f 7=.int .i64 (L.length:Nat)∧f 8=.int .i64 (i:Nat)

include hl in
theorem QKI (hc:∀o∈L,Qx Tryz.prog c [UC o,cap.sh] (QE :: m) fun y m1=>y=.bool (p o)∧m1=QE :: m) :
  Qx Tryz.prog 220 [.list (L.map UC),.fn (.func c) [] [cap]] m fun y m1=>y=.int .i64 (Zr p L 0)∧m1=m:=by
 refine QgV.go (by simp) ?_;simp only[QQu,Qb,seval];refine Qg (IxI L p c cap m) _ ⟨_,0,rfl,rfl,rfl,(by rfl),(by rfl),(by rfl),(by rfl)⟩ ?_;rintro _ st ⟨f,i,rfl,rfl,hx,h0,h1,h7,h8⟩;simp only[h7,h8,Qb,seval];by_cases hlt:i<L.length
 ·obtain⟨x,hi⟩:∃x,L[i]? = some x:=⟨L[i],QPE hlt⟩;have hcl:=hc x (QPN hi);have hg:(L.map UC)[i]? = some (UC x):=by simp[hi]
  have e1:=Qw i _ hlt hl;simp only[UC,PI.cells]at hcl;simp only[Qr hlt,Qm,QQ2,Qf,hg,UC,PI.cells,h0,h1,h8,eE,seval];refine YW (fa:=[]) (fb:=[cap.sh]) (by rfl) hcl (by simp only[QP8,QQB,QPX,QPW,Qb,seval]) ?_;rw[YY p hi]at hx;cases hp:p x
  ·rw[hp]at hx;simp only[QPT,if_false]at hx;simp only[h8,e1,Qb,seval];exact⟨L.length-(i+1),by omega,_,i+1,rfl,rfl,hx,(by exact h0),(by exact h1),(by exact h7),(by rfl)⟩
  ·rw[hp]at hx;simp only[if_true]at hx;simp only[hx,Qb,seval]
 ·have hx':Zr p L 0 = -1:=by rw[hx,QQd (by omega)];rfl
  simp only[QO hlt,hx',Qb,seval]

theorem LY {α:Type}(p:α→Bool)(l:List α):decide (Zr p l 0≥0)=l.any p:=by
 rcases YX p l 0 with⟨h1,h2⟩|⟨k,o,h1,_,h3⟩
 ·rw[h1];have:l.any p=false:=by
   rw[List.any_eq_false];intro x hx;exact fun h=>by have:=List.find?_eq_none.1 h2 x hx;exact this h
  rw[this];rfl
 ·rw[h1];have:l.any p=true:=List.any_eq_true.2 ⟨o,QRw h3,List.find?_some h3⟩;rw[this];exact QRs (by omega)

include hl in
theorem QKJ (hc:∀o∈L,Qx Tryz.prog c [UC o,cap.sh.sh] (QE :: QE :: m) fun y m1=>y=.bool (p o)∧m1=QE :: QE :: m) :
  Qx Tryz.prog 208 [.list (L.map UC),.fn (.func c) [] [cap]] m fun y m1=>y=.bool (L.any p)∧m1=m:=by
 refine Qgz.go (by simp) ?_;simp only[Qb,seval];refine QU (QKI L hl p c cap.sh _ hc) (by simp only[QP8,QQB,Qb,seval]) ?_;simp only[LY,Qb,seval]

end items

def DX (b:Nat)(x:PI):Bool:=IntKind.u64.wrap x.num==(b:Int)
def GF (b:Nat)(x:PI):Bool:=x.num==IntKind.i64.wrap (b:Int)

theorem Vd {b:Nat}{x:PI}(hb:b≤2147483647)(hx:(Lit.int .i64 x.num).wf=true):GF b x=DX b x:=by
 have h1:=QaA hx;have h2:=FU hx;unfold GF DX;rw[QRq,QP1,QP1,QB,XY];omega

theorem y36 (g:PG)(frO:Nat→Ob)(s:List UInt8)(hf:frO 3=.cells [.str s]):Qx Tryz.prog 36 [Qp g,.ptr 1 3 0] [QE,frO] fun y m1=>y=.bool (g.name==s)∧m1=[QE,frO]:=by
 refine k36.go (by simp) ?_;simp only[hf,Qp,PG.cells,Q5,eE,seval]

theorem QKK (x:PI)(b:Nat)(frO:Nat→Ob)(hf:frO 5=.cells [.int .u64 (b:Nat)]):Qx Tryz.prog 209 [UC x,.ptr 2 5 0] [QE,QE,frO] fun y m1=>y=.bool (DX b x)∧m1=[QE,QE,frO]:=by
 refine QgE.go (by simp) ?_;simp only[hf,UC,PI.cells,DX,eE,seval]

def GG (s:List UInt8)(L:List PG):AV:=.tup [.int .i64 (if Zr (fun g:PG=>g.name==s) L 0<0 then 0 else Zr (fun g:PG=>g.name==s) L 0),.bool (decide (Zr (fun g:PG=>g.name==s) L 0≥0))]

theorem y14 (P:PL)(hl:P.progs.length≤maxLen)(s:List UInt8):Qh Tryz.prog 14 [P.av,.str s] (GG s P.progs):=by
 refine k14.fn (by simp) ?_;simp only[PL.av,eE,seval];refine QU (y35 P.progs hl (fun g=>g.name==s) 36 (.ptr 0 3 0) _ fun g _=>y36 g _ s (by rfl)) (by simp only[QP8,QQB,Qb,seval]<;>rfl) ?_;unfold GG;by_cases h:Zr (fun g:PG=>g.name==s) P.progs 0<0
 ·have d:decide (Zr (fun g:PG=>g.name==s) P.progs 0<0)=true:=QRs h;simp only[QP5 h,Qb,seval]
 ·have d:decide (Zr (fun g:PG=>g.name==s) P.progs 0<0)=false:=QRo h;simp only[QPO h,Qb,seval]

def FdI (P:PL)(s:List UInt8)(k:Nat)(st:St):Prop :=
 ∃f fr i,st=⟨f,[fr],[]⟩∧k=P.progs.length-i∧Zr (fun g:PG=>g.name==s) P.progs 0=Zr (fun g:PG=>g.name==s) (P.progs.drop i) i∧f 1=.str s∧f 2=.ptr 0 2 0∧f 6=.int .i64 (i:Nat)∧fr 2=.cells [.list (P.progs.map Qp),.list (P.enums.map QW)]

theorem y16 (P:PL)(hl:P.progs.length≤maxLen)(s:List UInt8):Qh Tryz.prog 16 [P.av,.str s] (GG s P.progs):=by
 have e0:P.av=.agg [.list (P.progs.map Qp),.list (P.enums.map QW)]:=rfl;refine k16.fn (by simp) ?_;simp only[e0,eE,seval];refine Qg (FdI P s) _ ⟨_,_,0,rfl,rfl,rfl,(by rfl),(by rfl),(by rfl),(by rfl)⟩ ?_;rintro _ st ⟨f,fr,i,rfl,rfl,hx,h1,h2,h6,m2⟩;simp only[QQu,h2,h6,m2,eE,seval];by_cases hlt:i<P.progs.length
 ·obtain⟨x,hi⟩:∃x,P.progs[i]? = some x:=⟨P.progs[i],QPE hlt⟩;have hg:(P.progs.map Qp)[i]? = some (.agg x.cells):=by simp[hi,Qp]
  have e1:=Qw i _ hlt hl;simp only[PG.cells]at hg;rw[YY _ hi]at hx;simp only[Qr hlt,Qm,QQ2,Qf,hg,h1,h2,h6,m2,Q5,eE,seval];cases hp:(x.name==s)
  ·rw[hp]at hx;simp only[QPT,if_false]at hx;simp only[h6,e1,Qb,seval];exact⟨P.progs.length-(i+1),by omega,_,_,i+1,rfl,rfl,hx,(by exact h1),(by exact h2),(by rfl),m2⟩
  ·rw[hp]at hx;simp only[if_true]at hx;have d1:¬((i:Int)<0):=by omega
   have d2:decide ((i:Int)≥0)=true:=QRs (by omega);simp only[GG,hx,QPO d1,d2,h6,Qb,seval]
 ·have hx':Zr (fun g:PG=>g.name==s) P.progs 0 = -1:=by rw[hx,QQd (by omega)];rfl
  have d1:((-1:Int)<0):=by omega
  have d2:decide ((-1:Int)≥0)=false:=QRo (by omega);simp only[QO hlt,GG,hx',Qb,seval]

def Jb (E:List PE)(t:Int)(b:Nat):Bool :=
 if 0≤t∧t<E.length∧b≤2147483647 then
  match E[t.toNat]? with
  |some x=>x.opn||x.items.any (DX b)
  |none=>false
 else false

theorem QKL {M:Nat}(P:PL)(hP:P.ok M)(t:Int)(b:Nat):Qh Tryz.prog 187 [P.av,.int .i64 t,.int .u64 (b:Nat)] (.bool (Jb P.enums t b)):=by
 have e0:P.av=.agg [.list (P.progs.map Qp),.list (P.enums.map QW)]:=rfl;refine Qf1.fn (by simp) ?_;simp only[e0,eE,seval];by_cases h1:0≤t
 ·have d1:decide (t<0)=false:=QRo (by omega);by_cases h2:t<P.enums.length
  ·have d2:decide (t≥(P.enums.length:Int))=false:=QRo (by omega);by_cases h3:b≤2147483647
   ·have d3:decide ((b:Int) > 2147483647)=false:=QRo (by omega);obtain⟨n,rfl⟩:=QRh h1;have hn:n<P.enums.length:=by omega
    obtain⟨x,hi⟩:∃x,P.enums[n]? = some x:=⟨P.enums[n],QPE hn⟩;have hx:=hP.enums x (QPN hi);have hg:(P.enums.map QW)[n]? = some (.agg x.cells):=by simp[hi,QW]
    simp only[PE.cells]at hg;have ha:Jb P.enums (n:Int) b=(x.opn||x.items.any (DX b)):=by
     unfold Jb;rw[QP5 ⟨h1,h2,h3⟩,QQ2,hi]
    simp only[d1,d2,QQu,d3,Qm,QQ2,Qf,hg,ha,eE,seval];cases ho:x.opn
    ·simp only[QRj,eE,seval];refine QU (QKJ x.items hx.len1 (DX b) 209 (.ptr 0 5 0) _ fun y _=>QKK y b _ (by rfl)) (by simp only[QP8,QQB,Qb,seval]<;>rfl) ?_;simp only[Qb,seval]
    ·simp only[QRi,Qb,seval]
   ·have d3:decide ((b:Int) > 2147483647)=true:=QRs (by omega);have ha:Jb P.enums t b=false:=by
     unfold Jb;rw[QPO (by omega)]
    simp only[d1,d2,QQu,d3,ha,eE,seval]
  ·have d2:decide (t≥(P.enums.length:Int))=true:=QRs (by omega);have ha:Jb P.enums t b=false:=by
    unfold Jb;rw[QPO (by omega)]
   simp only[d1,d2,QQu,ha,eE,seval]
 ·have d1:decide (t<0)=true:=QRs (by omega);have ha:Jb P.enums t b=false:=by
   unfold Jb;rw[QPO (by omega)]
  simp only[d1,ha,Qb,seval]

def AcI (P:PL)(L:List PI)(eo:Bool)(n b:Nat)(k:Nat)(st:St):Prop :=
 ∃f fr i,st=⟨f,[fr],[]⟩∧k=L.length-i∧f 1=.int .i64 (n:Nat)∧f 2=.int .u64 (b:Nat)∧f 3=.ptr 0 3 0∧fr 3=.cells [.list (P.progs.map Qp),.list (P.enums.map QW)]∧f 7=.bool (eo||(L.take i).any (GF b))∧f 8=.int .i64 (i:Nat)

theorem QKM {M:Nat}(P:PL)(hP:P.ok M)(t:Int)(b:Nat):Qh Tryz.prog 180 [P.av,.int .i64 t,.int .u64 (b:Nat)] (.bool (Jb P.enums t b)):=by
 have e0:P.av=.agg [.list (P.progs.map Qp),.list (P.enums.map QW)]:=rfl;refine QIJ.fn (by simp) ?_;simp only[e0,eE,seval];by_cases h1:0≤t
 ·have d1:decide (t<0)=false:=QRo (by omega);by_cases h2:t<P.enums.length
  ·have d2:decide (t≥(P.enums.length:Int))=false:=QRo (by omega);by_cases h3:b≤2147483647
   ·have d3:decide ((b:Int) > 2147483647)=false:=QRo (by omega);obtain⟨n,rfl⟩:=QRh h1;have hn:n<P.enums.length:=by omega
    obtain⟨x,hi⟩:∃x,P.enums[n]? = some x:=⟨P.enums[n],QPE hn⟩;have hx:=hP.enums x (QPN hi);have hg:(P.enums.map QW)[n]? = some (.agg x.cells):=by simp[hi,QW]
    simp only[PE.cells]at hg;have ha:Jb P.enums (n:Int) b=(x.opn||x.items.any (GF b)):=by
     unfold Jb;rw[QP5 ⟨h1,h2,h3⟩,QQ2,hi];show(x.opn||x.items.any (DX b))=_;congr 1
     rw[QRq,List.any_eq_true,List.any_eq_true]
     constructor
     ·rintro⟨y,hy,hp⟩;exact⟨y,hy,by rw[Vd h3 (hx.items y hy).num];exact hp⟩
     ·rintro⟨y,hy,hp⟩;exact⟨y,hy,by rw[←Vd h3 (hx.items y hy).num];exact hp⟩
    simp only[d1,d2,QQu,d3,Qm,QQ2,Qf,hg,eE,seval];refine Qg (AcI P x.items x.opn n b) _ ⟨_,_,0,rfl,rfl,(by rfl),(by rfl),(by rfl),(by rfl),by simp only[QQI,List.any_nil,QRu]<;>first|rfl|simp only[eE,seval],(by rfl)⟩ ?_;rintro _ st ⟨f,fr,i,rfl,rfl,g1,g2,g3,m3,g7,g8⟩;simp only[QQu,Qm,QQ2,Qf,hg,g1,g3,m3,g8,eE,seval];by_cases hlt:i<x.items.length
    ·obtain⟨y,hd⟩:∃y,x.items[i]? = some y:=⟨x.items[i],QPE hlt⟩;have hdm:(x.items.map fun n=>AV.agg n.cells)[i]? = some (.agg y.cells):=by simp[hd]
     simp only[PI.cells]at hdm;have e1:=Qw i _ hlt hx.len1;have ht:(x.opn||(x.items.take (i+1)).any (GF b))=((x.opn||(x.items.take i).any (GF b))||GF b y):=by
      rw[QRm,hd];simp[Bool.or_assoc]
     have hp:GF b y=(y.num==IntKind.i64.wrap (b:Int)):=rfl;rw[hp]at ht;simp only[PI.cells]at hg;cases hq:(x.opn||(x.items.take i).any (GF b))
     ·rw[hq,QRj]at ht;simp only[Qr hlt,Qm,QQ2,Qf,hg,hdm,hq,PI.cells,g1,g2,g3,m3,g7,g8,e1,eE,seval];exact⟨x.items.length-(i+1),by omega,_,_,i+1,rfl,rfl,(by exact g1),(by exact g2),(by exact g3),(by exact m3),by rw[ht]<;>first|rfl|simp only[eE,seval],(by rfl)⟩
     ·rw[hq,QRi]at ht;simp only[Qr hlt,hq,PI.cells,g7,g8,e1,Qb,seval];exact⟨x.items.length-(i+1),by omega,_,_,i+1,rfl,rfl,(by exact g1),(by exact g2),(by exact g3),(by exact m3),by rw[ht]<;>first|rfl|simp only[eE,seval],(by rfl)⟩
    ·rw[QQa (by omega)]at g7;simp only[QO hlt,g7,ha,Qb,seval]
   ·have d3:decide ((b:Int) > 2147483647)=true:=QRs (by omega);have ha:Jb P.enums t b=false:=by
     unfold Jb;rw[QPO (by omega)]
    simp only[d1,d2,QQu,d3,ha,eE,seval]
  ·have d2:decide (t≥(P.enums.length:Int))=true:=QRs (by omega);have ha:Jb P.enums t b=false:=by
    unfold Jb;rw[QPO (by omega)]
   simp only[d1,d2,QQu,ha,eE,seval]
 ·have d1:decide (t<0)=true:=QRs (by omega);have ha:Jb P.enums t b=false:=by
   unfold Jb;rw[QPO (by omega)]
  simp only[d1,ha,Qb,seval]

def HQ (P:PL)(k tg kd:Int)(b:Nat)(t:List UInt8)(l p s r:List AV):Int :=
 if (kd != k||oth kd b t l p s r)=true then 12 else if decide ((t.length:Int) > 4096)=true then 3 else if (k==7 && !YD t)=true then 7
 else if (!ZI k kd b t l p s r)=true then 12 else if (k==9 && !Jb P.enums tg b)=true then 16 else 0

section
variable {M:Nat}(P:PL)(hP:P.ok M)(k tg kd:Int)(b:Nat)(t:List UInt8)(l p s r:List AV)(hl:l.length≤140737488351232)(hp:p.length≤140737488351232)(hs:s.length≤140737488351232)(hr:r.length≤140737488351232)

end
open Up

def _root_.Go.Proofs.YtfgchfdkiomfpaaGreat.Br.V.oth (v:V):Bool:=Va.oth v.kd v.bits v.text (v.list.map V.av) (v.pairs.map V.pav) (v.slots.map V.sav) (v.raws.map R.av)
def _root_.Go.Proofs.YtfgchfdkiomfpaaGreat.Br.V.one (P:PL)(k tg:Int)(v:V):Int:=HQ P k tg v.kd v.bits v.text (v.list.map V.av) (v.pairs.map V.pav) (v.slots.map V.sav) (v.raws.map R.av)

theorem Cz (v:V):v.av=vo v.kd v.bits v.text (v.list.map V.av) (v.pairs.map V.pav) (v.slots.map V.sav) (v.raws.map R.av):=by
 rw[V.av,V.eta];rfl

def Qn (P:PL)(t:Int):PG:=P.progs[t.toNat]?.getD ⟨[],[],0⟩
def Q2 (a b:V):Bool:=a.bits==b.bits&&a.text==b.text
def XL (g:PG)(n:Int):Option PO:=g.ops.find? fun o=>o.num==n

section
variable (m:PG→V→Int)(P:PL)
end

mutual
def _root_.Go.Proofs.YtfgchfdkiomfpaaGreat.Br.V.cnt:V→Nat
 |.mk _ _ _ l p s r=>1+r.length+Zd l+XM p+Xz s
def Zd:List V→Nat
 | []=>0
 |x :: l=>x.cnt+Zd l
def XM:List (V×V)→Nat
 | []=>0
 |(a,b) :: l=>a.cnt+b.cnt+XM l
def Xz:List (Int×V)→Nat
 | []=>0
 |(_,a) :: l=>a.cnt+Xz l
end

theorem Q3:∀v:V,v.cnt=1+v.raws.length+Zd v.list+XM v.pairs+Xz v.slots
 |.mk k b t l p s r=>by rw[V.cnt];rfl

inductive Thin:V→Prop
 |mk {v:V} (n:v.list.length+2*v.pairs.length+v.slots.length≤1099511627776) (list:∀x∈v.list,Thin x) (keys:∀x∈v.pairs,Thin x.1) (vals:∀x∈v.pairs,Thin x.2) (slots:∀x∈v.slots,Thin x.2):Thin v

theorem Pp {P:PL}{k tg:Int}{v:V}(h:v.one P k tg=0):v.kd=k∧v.oth=false∧ZI k v.kd v.bits v.text (v.list.map V.av) (v.pairs.map V.pav) (v.slots.map V.sav) (v.raws.map R.av)=true:=by
 unfold V.one HQ at h;split at h
 ·omega
 ·rename_i h1;split at h
  ·omega
  ·split at h
   ·omega
   ·split at h
    ·omega
    ·rename_i h2;simp only[Bool.not_eq_true,QQt,bne_eq_false_iff_eq]at h1;exact⟨h1.1,h1.2,by simpa using h2⟩

end Go.Proofs.YtfgchfdkiomfpaaGreat.Va

namespace Go.Proofs.YtfgchfdkiomfpaaGreat.So

section
variable {α:Type}

def ZX (lt:α→α→Bool)(a:α):List α→List α
 | []=>[a]
 |x :: l=>bif lt x a then x :: ZX lt a l else a :: x :: l

def QC (lt:α→α→Bool):List α→List α
 | []=>[]
 |a :: l=>ZX lt a (QC lt l)

def mg (lt:α→α→Bool):List α→List α→List α
 | [],Y=>Y
 |x :: X,[]=>x :: X
 |x :: X,y :: Y=>bif lt y x then y :: mg lt (x :: X) Y else x :: mg lt X (y :: Y)
termination_by X Y=>X.length+Y.length

structure SW (lt:α→α→Bool):Prop where
 irr:∀x,lt x x=false
 tr:∀x y z,lt x y=true→lt y z=true→lt x z=true
 nt:∀x y z,lt x y=false→lt y z=false→lt x z=false

variable {lt:α→α→Bool}

theorem SW.as (h:SW lt){x y:α}(hx:lt x y=true):lt y x=false:=by
 cases hy:lt y x with
 |false=>rfl
 |true=>
  have:=h.tr x y x hx hy;rw[h.irr]at this;cases this

theorem JF (X:List α):mg lt X []=X:=by cases X<;>simp[mg]
theorem Jl (Y:List α):mg lt [] Y=Y:=by simp[mg]
theorem WU {x y:α}{X Y:List α}(h:lt y x=true):mg lt (x :: X) (y :: Y)=y :: mg lt (x :: X) Y:=by rw[mg,h];rfl
theorem Yt {x y:α}{X Y:List α}(h:lt y x=false):mg lt (x :: X) (y :: Y)=x :: mg lt X (y :: Y):=by rw[mg,h];rfl
theorem Yi {a x:α}{l:List α}(h:lt x a=true):ZX lt a (x :: l)=x :: ZX lt a l:=by rw[ZX,h];rfl
theorem Y6 {a x:α}{l:List α}(h:lt x a=false):ZX lt a (x :: l)=a :: x :: l:=by rw[ZX,h];rfl

theorem Pq (a:α):∀Y:List α,mg lt [a] Y=ZX lt a Y
 | []=>by rw[JF];rfl
 |y :: Y=>by
  cases h:lt y a with
  |true=>rw[WU h,Yi h,Pq a Y]
  |false=>rw[Yt h,Y6 h,Jl]

theorem QsO (h:SW lt)(a:α):∀(n:Nat) (X Y:List α),X.length+Y.length=n→mg lt (ZX lt a X) Y=ZX lt a (mg lt X Y):=by
 intro n
 induction n using Nat.strongRecOn with
 |_ n ih=>
 intro X Y hn;cases X with
 |nil=>
  show mg lt [a] Y=ZX lt a (mg lt [] Y);rw[Jl,Pq]
 |cons x X=>
  cases Y with
  |nil=>rw[JF,JF]
  |cons y Y=>
   simp only[QPP]at hn;cases hxa:lt x a with
   |false=>
    have hi:ZX lt a (x :: X)=a :: x :: X:=Y6 hxa;cases hya:lt y a with
    |true=>
     cases hyx:lt y x with
     |true=>
      have i:=ih (n-1) (by omega) (x :: X) Y (by simp only[QPP];omega);rw[hi]at i ⊢;rw[WU hya,WU hyx,Yi hya,i]
     |false=>
      have:=h.nt y x a hyx hxa;rw[hya]at this;cases this
    |false=>
     rw[hi,Yt hya];cases hyx:lt y x with
     |true=>rw[WU hyx,Y6 hya]
     |false=>rw[Yt hyx,Y6 hxa]
   |true=>
    have hi:ZX lt a (x :: X)=x :: ZX lt a X:=Yi hxa;cases hyx:lt y x with
    |true=>
     have i:=ih (n-1) (by omega) (x :: X) Y (by simp only[QPP];omega);rw[hi]at i ⊢;rw[WU hyx,WU hyx,Yi (h.tr y x a hyx hxa),i]
    |false=>
     have i:=ih (n-1) (by omega) X (y :: Y) (by simp only[QPP];omega);rw[hi,Yt hyx,Yt hyx,Yi hxa,i]

theorem Kf (h:SW lt):∀A B:List α,mg lt (QC lt A) (QC lt B)=QC lt (A++B)
 | [],B=>Jl _
 |a :: A,B=>by
  show mg lt (ZX lt a (QC lt A)) (QC lt B)=ZX lt a (QC lt (A++B));rw[QsO h a _ _ _ rfl,Kf h A B]

theorem WV:∀(n:Nat) (X1 Y1 X2 Y2:List α),X1.length+Y1.length=n→(∀y∈Y1,∀x∈X2,lt y x=true)→(∀x∈X1,∀y∈Y2,lt y x=false)→
  mg lt (X1++X2) (Y1++Y2)=mg lt X1 Y1++mg lt X2 Y2:=by
 intro n
 induction n using Nat.strongRecOn with
 |_ n ih=>
 intro X1 Y1 X2 Y2 hn h1 h2;cases X1 with
 |nil=>
  cases Y1 with
  |nil=>rw[Jl];rfl
  |cons y Y1=>
   cases X2 with
   |nil=>simp[Jl]
   |cons x X2=>
    simp only[QPP,QQv]at hn;have i:=ih (n-1) (by omega) [] Y1 (x :: X2) Y2 (by simp only[QQv];omega) (fun z hz=>h1 z (QPQ _ hz)) h2;simp only[QPX,QPW,Jl]at i ⊢;rw[WU (h1 y (by simp) x (by simp)),i]
 |cons x X1=>
  simp only[QPP]at hn;cases Y1 with
  |nil=>
   cases Y2 with
   |nil=>simp[JF]
   |cons y Y2=>
    have i:=ih (n-1) (by omega) X1 [] X2 (y :: Y2) (by simp only[QQv]at hn ⊢;omega) h1 (fun z hz=>h2 z (QPQ _ hz));simp only[QPX,QPW,JF]at i ⊢;rw[Yt (h2 x (by simp) y (by simp)),i]
  |cons y Y1=>
   simp only[QPP]at hn;simp only[QPW];cases hyx:lt y x with
   |true=>
    have i:=ih (n-1) (by omega) (x :: X1) Y1 X2 Y2 (by simp only[QPP];omega) (fun z hz=>h1 z (QPQ _ hz)) h2;simp only[QPW]at i;rw[WU hyx,WU hyx,i];rfl
   |false=>
    have i:=ih (n-1) (by omega) X1 (y :: Y1) X2 Y2 (by simp only[QPP];omega) h1 (fun z hz=>h2 z (QPQ _ hz));simp only[QPW]at i;rw[Yt hyx,Yt hyx,i];rfl

theorem LZ {x:α}{Y1 Y2:List α}(h1:∀y∈Y1,lt y x=true)(h2:∀y∈Y2,lt y x=false):mg lt [x] (Y1++Y2)=Y1++x :: Y2:=by
 have a:=WV (lt:=lt) _ [] Y1 [x] Y2 rfl (fun y hy z hz=>by rw[QRx.1 hz];exact h1 y hy) (by simp);have b:=WV (lt:=lt) _ [x] [] [] Y2 rfl (by simp) (fun z hz y hy=>by rw[QRx.1 hz];exact h2 y hy);simp only[QPX,QQD,Jl,JF]at a b;rw[a,b];rfl

theorem K1 {y:α}{X1 X2:List α}(h1:∀x∈X1,lt y x=false)(h2:∀x∈X2,lt y x=true):mg lt (X1++X2) [y]=X1++y :: X2:=by
 have a:=WV (lt:=lt) _ X1 [y] X2 [] rfl (fun z hz x hx=>by rw[QRx.1 hz];exact h2 x hx) (by simp);have b:=WV (lt:=lt) _ X1 [] [] [y] rfl (by simp) (fun x hx z hz=>by rw[QRx.1 hz];exact h1 x hx);simp only[QPX,QQD,Jl,JF]at a b;rw[a,b];simp

def X7 (lt:α→α→Bool)(l:List α):Prop:=l.Pairwise fun x y=>lt y x=false

theorem Dx {a z:α}:∀ {l:List α},z∈ZX lt a l→z=a∨z∈l
 | [],h=>.inl (QRx.1 h)
 |x :: l,h=>by
  cases hx:lt x a with
  |true=>
   rw[Yi hx]at h;rcases QQV.1 h with rfl|h
   ·exact .inr QPS
   ·rcases Dx h with h|h
    ·exact .inl h
    ·exact .inr (QPQ _ h)
  |false=>
   rw[Y6 hx]at h;rcases QQV.1 h with rfl|h
   ·exact .inl rfl
   ·exact .inr h

theorem UL {z:α}:∀ {l:List α},z∈QC lt l→z∈l
 | [],h=>h
 |a :: l,h=>by
  rcases Dx (l:=QC lt l) h with rfl|h
  ·exact QPS
  ·exact QPQ _ (UL h)

theorem Ve (h:SW lt)(a:α):∀ {l:List α},X7 lt l→X7 lt (ZX lt a l)
 | [],_=>QRy _ _
 |x :: l,hs=>by
  obtain⟨h1,h2⟩:=QQ9.1 hs;cases hx:lt x a with
  |true=>
   rw[Yi hx];refine QQ9.2 ⟨fun z hz=>?_,Ve h a h2⟩;rcases Dx hz with rfl|hz
   ·exact h.as hx
   ·exact h1 z hz
  |false=>
   rw[Y6 hx];refine QQ9.2 ⟨fun z hz=>?_,hs⟩;rcases QQV.1 hz with rfl|hz
   ·exact hx
   ·exact h.nt z x a (h1 z hz) hx

theorem XW (h:SW lt):∀l:List α,X7 lt (QC lt l)
 | []=>List.Pairwise.nil
 |a :: l=>Ve h a (XW h l)

theorem Vf (a:α):∀l:List α,(ZX lt a l).length=l.length+1
 | []=>rfl
 |x :: l=>by
  cases hx:lt x a with
  |true=>rw[Yi hx,QPP,Vf a l,QPP]
  |false=>rw[Y6 hx];rfl

theorem JG:∀l:List α,(QC lt l).length=l.length
 | []=>rfl
 |a :: l=>by show(ZX lt a (QC lt l)).length=_;rw[Vf,JG l];rfl

theorem QsP:∀(n:Nat) (X Y:List α),X.length+Y.length=n→(mg lt X Y).length=n:=by
 intro n
 induction n using Nat.strongRecOn with
 |_ n ih=>
 intro X Y hn;cases X with
 |nil=>rw[Jl];simpa using hn
 |cons x X=>
  cases Y with
  |nil=>rw[JF];simpa using hn
  |cons y Y=>
   simp only[QPP]at hn;cases hyx:lt y x with
   |true=>
    rw[WU hyx,QPP,ih (n-1) (by omega) (x :: X) Y (by simp only[QPP];omega)];omega
   |false=>
    rw[Yt hyx,QPP,ih (n-1) (by omega) X (y :: Y) (by simp only[QPP];omega)];omega

theorem QsQ {z:α}:∀(n:Nat) (X Y:List α),X.length+Y.length=n→z∈mg lt X Y→z∈X∨z∈Y:=by
 intro n
 induction n using Nat.strongRecOn with
 |_ n ih=>
 intro X Y hn hz;cases X with
 |nil=>rw[Jl]at hz;exact .inr hz
 |cons x X=>
  cases Y with
  |nil=>rw[JF]at hz;exact .inl hz
  |cons y Y=>
   simp only[QPP]at hn;cases hyx:lt y x with
   |true=>
    rw[WU hyx]at hz;rcases QQV.1 hz with rfl|hz
    ·exact .inr QPS
    ·exact(ih (n-1) (by omega) (x :: X) Y (by simp only[QPP];omega) hz).imp id (QPQ _)
   |false=>
    rw[Yt hyx]at hz;rcases QQV.1 hz with rfl|hz
    ·exact .inl QPS
    ·exact(ih (n-1) (by omega) X (y :: Y) (by simp only[QPP];omega) hz).imp (QPQ _) id

theorem K2 (h:SW lt){l:List α}(hs:X7 lt l){i j:Nat}{u v x:α}(hij:i≤j)(hi:l[i]? = some u)(hj:l[j]? = some v)(hv:lt v x=true):lt u x=true:=by
 rcases Nat.lt_or_eq_of_le hij with hlt|rfl
 ·obtain⟨h1,rfl⟩:=QPD.1 hi;obtain⟨h2,rfl⟩:=QPD.1 hj;have:=QRz.1 hs i j h1 h2 hlt;cases hu:lt l[i] x with
  |true=>rfl
  |false=>
   have:=h.nt _ _ _ this hu;rw[hv]at this;cases this
 ·rw[hi]at hj;cases hj;exact hv

theorem KD {l:List α}(hs:X7 lt l)(h:SW lt){i j:Nat}{u v:α}(hij:i≤j)(hi:l[i]? = some u)(hj:l[j]? = some v):lt v u=false:=by
 rcases Nat.lt_or_eq_of_le hij with hlt|rfl
 ·obtain⟨h1,rfl⟩:=QPD.1 hi;obtain⟨h2,rfl⟩:=QPD.1 hj;exact QRz.1 hs i j h1 h2 hlt
 ·rw[hi]at hj;cases hj;exact h.irr _

def Xh (lt:α→α→Bool)(s:Nat):Nat→List α→List α
 |0,_=>[]
 |n+1,l=>QC lt (l.take s)++Xh lt s n (l.drop s)

theorem Dy (s:Nat):∀k,Xh lt s k []=[]
 |0=>rfl
 |k+1=>by rw[Xh,List.take_nil,QQO,Dy s k];rfl

theorem U9 (s:Nat):∀(k:Nat) (l:List α),(Xh lt s k l).length=min (s*k) l.length
 |0,l=>by simp[Xh]
 |k+1,l=>by
  rw[Xh,QQe,JG,U9 s k,QQw,QQh,Nat.mul_succ];omega

theorem WI {s:Nat}{z:α}:∀ {k:Nat} {l:List α},z∈Xh lt s k l→z∈l
 |0,l,h=>by cases h
 |k+1,l,h=>by
  rw[Xh]at h;rcases QQS.1 h with h|h
  ·exact QQo (UL h)
  ·exact QQn (WI h)

theorem Y7 (s:Nat):∀(k:Nat) (l:List α),Xh lt s (k+1) l=Xh lt s k l++QC lt ((l.drop (s*k)).take s)
 |0,l=>by simp[Xh]
 |k+1,l=>by
  rw[Xh,Y7 s k (l.drop s),Xh,QPV,QP4,Nat.mul_succ,Nat.add_comm s (s*k)]

theorem Vg {s k:Nat}{l:List α}(h:l.length≤s)(hk:l.length≤s*k):Xh lt s k l=QC lt l:=by
 cases k with
 |zero=>
  have:l=[]:=QQE (by omega);subst this;rfl
 |succ k=>rw[Xh,QQa h,QQd h,Dy,QQD]

theorem R4 (s:Nat)(l:List α):l.take s++(l.drop s).take s=l.take (2*s):=by
 rw[show 2*s=s+s by omega,List.take_add]

end

end Go.Proofs.YtfgchfdkiomfpaaGreat.So

namespace Go.Proofs.YtfgchfdkiomfpaaGreat.Va
open Go Am Rc Bt

def YE (b:Nat):Nat :=
 let z:=b % 9223372036854775808
 if z > 9218868437227405312 then 0 else if z=9218868437227405312 then 1 else if z=0 then 2 else if z<4503599627370496 then 3 else 4

theorem QsR (b:Nat):b &&& 4503599627370495=b % 4503599627370496:=Nat.and_two_pow_sub_one_eq_mod b 52
theorem QsS (b:Nat):b &&& 9218868437227405312=(b / 4503599627370496 % 2048)*4503599627370496:=by
 have h1:(9218868437227405312:Nat)=2047 <<< 52:=by decide
 have h2:(b / 4503599627370496 % 2048)*4503599627370496=(b >>> 52 % 2 ^ 11) <<< 52:=by
  rw[Nat.shiftLeft_eq,Nat.shiftRight_eq_div_pow]
 rw[h1,h2]
 apply Nat.eq_of_testBit_eq
 intro i;rw[Nat.testBit_and,Nat.testBit_shiftLeft,Nat.testBit_shiftLeft,Nat.testBit_mod_two_pow,Nat.testBit_shiftRight,show(2047:Nat)=2 ^ 11-1 by decide,Nat.testBit_two_pow_sub_one];by_cases h:i≥52
 ·rw[show 52+(i-52)=i by omega];simp[h,Bool.and_comm]
 ·simp[h]

def ZE (k:Int)(b:Nat):Nat:=if k=6∧YE b=0 then 9221120237041090560 else b

theorem CA (b:Nat):((YE b:Int)==0)=decide (YE b=0):=by
 rw[QRq,QP1,QQW];omega

end Go.Proofs.YtfgchfdkiomfpaaGreat.Va

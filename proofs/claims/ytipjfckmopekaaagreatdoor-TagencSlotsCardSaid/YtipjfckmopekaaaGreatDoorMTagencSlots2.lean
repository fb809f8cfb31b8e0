/- Parts of the proof, in order. -/
import Derived.WalkKit
import Derived.Lib.SmallJoins
import Derived.Deep.Slices
import Derived.DataShut
import Derived.Test.YtipjfckmopekaaaGreatDoorRows
import Derived.Test.YtipjfckmopekaaaGreatDoorProg
import Derived.Lib.IndexLaws
import Derived.Test.YtipjfckmopekaaaGreatDoorMTagencSlots1

namespace Go.Proofs.YtipjfckmopekaaaGreatDoor.Rc
open Go Am
abbrev QBv:IL:=[je 1 1 0,jd 2 0]
abbrev QBw:IL:=[jf 4 2 1,jr 5 43 4,jz 6 5,ja 3 6]
abbrev QBx:IL:=[jd 2 3]
abbrev QBy:IL:=[jf 8 2 1,jr 9 44 8,jz 10 9,ja 7 10]
abbrev QBz:IL:=[jd 2 8]
abbrev QBA:IL:=[jf 12 2 1,jr 13 45 12,jz 14 13,ja 11 14]
abbrev QBB:IL:=[jd 2 11]
abbrev QBC:IL:=[jf 16 2 1,jr 17 46 16,jz 18 17,ja 15 18]
abbrev QBD:IL:=[jd 2 9]
abbrev QBE:IL:=[jf 20 2 1,jr 21 47 20,jz 22 21,ja 19 22]
abbrev QlT:IL:=[jd 2 6]
abbrev QlU:IL:=[jf 24 2 1,jr 25 48 24,jz 26 25,ja 23 26]
abbrev QlV:IL:=[jd 2 1]
abbrev QlW:IL:=[jf 28 2 1,jr 29 49 28,jz 30 29,ja 27 30]
abbrev QlX:IL:=[jd 2 19]
abbrev QlY:IL:=[jd 2 0]
abbrev r22:RC:=jQ QBv (.seq (.block 0 (jQ QBw (.cond (.t 3) (jQ QBx (.ret)) (jQ QBy (.cond (.t 7) (jQ QBz (.ret)) (jQ QBA (.cond (.t 11) (jQ QBB (.ret)) (jQ QBC (.cond (.t 15) (jQ QBD (.ret)) (jQ QBE (.cond (.t 19) (jQ QlT (.ret)) (jQ QlU (.cond (.t 23) (jQ QlV (.ret)) (jQ QlW (.cond (.t 27) (jQ QlX (.ret)) (.skip)))))))))))))))) (jQ QlY (.ret)))
abbrev o22:List RR:=[.tmp 2]
theorem k22:CT 22 31 r22 o22:=ck Tryz.func22 Tryz.ntmps22 (by decide +kernel)
abbrev QBF:IL:=[je 4 4 0,je 6 6 2,jd 8 0]
abbrev QBG:IL:=[jb 18 0 6,jc 19 18,yg 20 19 10,ja 21 20,yv 22 7 6 21,zi 23 59 22 21,jo 24 21 23]
abbrev QBH:IL:=[jd 8 12]
abbrev QBI:IL:=[ja 25 3,yq 26 25 16]
abbrev QBJ:IL:=[jd 8 17]
abbrev QBK:IL:=[jb 27 0 4,jc 28 27,ja 29 1,jk 30 3 28 29,jf 31 3 30,⟨some 9,.allocN 9 [.str [],.nils,.int .i64 0],none⟩,js 3 9 31]
abbrev QBL:IL:=[jd 10 0]
abbrev QBM:IL:=[ja 32 10,jb 33 5 6,jc 34 33,ji 35 1 34,jn 36 32 35]
abbrev QBN:IL:=[jf 39 3 9,jb 40 5 6,jc 41 40,ja 42 10,yd 43 60 39 41 42,ja 11 43]
abbrev QlZ:IL:=[ja 44 11,yg 45 44 0]
abbrev Ql0:IL:=[ja 46 11,ja 8 46]
abbrev Ql1:IL:=[jw 48 0 9 3 9,jb 49 5 6,yb 50 0 6 49,ja 51 10,jk 52 8 50 51,jb 53 0 52,zx 54 53,jy 55 38 48 54,ja 47 55,jx 56 47 0,jx 57 47 1,zd 12 12,zp 0 12 8 12 56,ja 13 57]
abbrev Ql2:IL:=[jw 58 0 4 2 4,jw 59 0 12 8 12,jb 60 5 6,yb 61 0 6 60,ja 62 10,jk 63 8 61 62,jb 64 1 63,ya 65 7 64,ja 66 3,zj 67 61 58 59 65 66,ja 14 67]
abbrev Ql3:IL:=[ja 68 14,yg 69 68 0]
abbrev Ql4:IL:=[ja 70 14,ja 8 70]
abbrev QBO:IL:=[ja 37 10,jm 38 37 1,ja 10 38]
abbrev Sb:RC:=.gho (.drop 12) (.seq (jQ QBM (jX 36 0)) (.seq (.block 1 (.seq (jQ QBN (jQ QlZ (.cond (.t 45) (jQ Ql0 (.ret)) (.skip)))) (jD Ql1 (jD Ql2 (jQ Ql3 (.cond (.t 69) (jQ Ql4 (.ret)) (.skip))))))) (.reg QBO)))
abbrev Ql5:IL:=[jd 15 0]
abbrev Ql6:IL:=[ja 71 15,jb 72 1 9,jc 73 72,ji 74 1 73,jn 75 71 74]
abbrev Ql7:IL:=[jb 78 1 9,yb 79 0 9 78,ja 80 15,jk 81 8 79 80,jb 82 3 81,zx 83 82,jq 84 83 1,ja 85 84,zt 86 0 6 7 6 85,jl 87 1 9 85,zb 88 0 9 87 85,jg 89 15 85,yc 90 8 88 89 85,jl 91 0 90 85,yp 92 91 85,Gk 93 62 86 92 85,yx 94 93 85,jj 95 85 94]
abbrev Ql8:IL:=[jd 8 14]
abbrev Ql9:IL:=[ja 76 15,jm 77 76 1,ja 15 77]
abbrev Sc:RC:=.seq (jQ Ql6 (jX 75 2)) (.seq (.block 3 (jD Ql7 (.cond (.t 95) (jQ Ql8 (.ret)) (.skip)))) (.reg Ql9))
abbrev Qma:IL:=[jd 16 0]
abbrev Qmb:IL:=[ja 96 16,jb 97 6 6,jc 98 97,ji 99 1 98,jn 100 96 99]
abbrev Qmc:IL:=[jb 103 6 6,jc 104 103,ja 105 16,jk 106 4 104 105,jf 107 4 106,zn 17 17,js 4 17 107]
abbrev Qmd:IL:=[jf 108 2 4,jf 109 3 9,jf 110 4 17,yd 111 63 108 109 110,jz 112 111]
abbrev Qme:IL:=[jd 8 1]
abbrev Qmf:IL:=[jb 113 1 17,jc 114 113,jq 115 114 3,ja 116 115,jl 117 3 17 116,ju 118 117 116,yt 119 0 118 116,Ny 120 119 4096 116,jj 121 116 120,ja 122 121,jp 123 3 17 122,jt 124 123 122,yf 125 0 124 122,yk 126 125 65536 122,jo 127 122 126]
abbrev Qmg:IL:=[jd 8 3]
abbrev Qmh:IL:=[ja 101 16,jm 102 101 1,ja 16 102]
abbrev Sd:RC:=.gho (.drop 17) (.seq (jQ Qmb (jX 100 4)) (.seq (.block 5 (jQ Qmc (.seq (jQ Qmd (.cond (.t 112) (jQ Qme (.ret)) (.skip))) (jQ Qmf (.cond (.t 127) (jQ Qmg (.ret)) (.skip)))))) (.reg Qmh)))
abbrev Qmi:IL:=[jd 8 0]
abbrev r31:RC:=jQ QBF (.seq (jQ QBG (.cond (.t 24) (jQ QBH (.ret)) (.skip))) (.seq (jQ QBI (.cond (.t 26) (jQ QBJ (.ret)) (.skip))) (jQ QBK (.seq (jQ QBL (.block 0 (.loop Sb))) (.seq (jQ Ql5 (.block 2 (.loop Sc))) (.seq (jQ Qma (.block 4 (.loop Sd))) (jQ Qmi (.ret))))))))
abbrev o31:List RR:=[.tmp 8]
theorem k31:CT 31 128 r31 o31:=ck Tryz.func31 Tryz.ntmps31 (by decide +kernel)
abbrev QBP:IL:=[je 1 1 0,jd 2 0]
abbrev QBQ:IL:=[jb 7 6 1,jc 8 7,ji 9 1 8,⟨some 10,.val (.bin .num .add (.c (.int .i64 1)) (.t 9)),none⟩,ja 3 10]
abbrev QBR:IL:=[jd 4 0]
abbrev QBS:IL:=[ja 11 4,jb 12 3 1,jc 13 12,ji 14 1 13,jn 15 11 14]
abbrev QBT:IL:=[ja 18 3,jb 19 3 1,jc 20 19,ja 21 4,jk 22 7 20 21,jf 23 7 22,jr 24 32 23,yj 25 18 24,ja 3 25]
abbrev QBU:IL:=[ja 16 4,jm 17 16 1,ja 4 17]
abbrev QBV:RC:=.seq (jQ QBS (jX 15 0)) (.seq (.block 1 (.reg QBT)) (.reg QBU))
abbrev QBW:IL:=[jd 5 0]
abbrev QBX:IL:=[ja 26 5,jb 27 4 1,jc 28 27,ji 29 1 28,jn 30 26 29]
abbrev QBY:IL:=[ja 33 3,jb 34 4 1,yb 35 0 1 34,ja 36 5,jk 37 14 35 36,jb 38 0 37,ya 39 7 38,jr 40 32 39,jb 41 4 1,yb 42 0 1 41,ja 43 5,jk 44 14 42 43,jb 45 7 44,ya 46 7 45,jr 47 32 46,yj 48 40 47,yj 49 33 48,ja 3 49]
abbrev QBZ:IL:=[ja 31 5,jm 32 31 1,ja 5 32]
abbrev QB0:RC:=.seq (jQ QBX (jX 30 2)) (.seq (.block 3 (.draw QBY)) (.reg QBZ))
abbrev Qmj:IL:=[jd 6 0]
abbrev Qmk:IL:=[ja 50 6,jb 51 5 1,jc 52 51,ji 53 1 52,jn 54 50 53]
abbrev Qml:IL:=[ja 57 3,jb 58 5 1,jc 59 58,ja 60 6,jk 61 8 59 60,jb 62 1 61,jf 63 7 62,jr 64 32 63,yj 65 57 64,ja 3 65]
abbrev Qmm:IL:=[ja 55 6,jm 56 55 1,ja 6 56]
abbrev QB1:RC:=.seq (jQ Qmk (jX 54 4)) (.seq (.block 5 (.reg Qml)) (.reg Qmm))
abbrev Qmn:IL:=[ja 66 3,ja 2 66]
abbrev r32:RC:=jQ QBP (jQ QBQ (.seq (jQ QBR (.block 0 (.loop QBV))) (.seq (jQ QBW (.block 2 (.loop QB0))) (.seq (jQ Qmj (.block 4 (.loop QB1))) (jQ Qmn (.ret))))))
abbrev o32:List RR:=[.tmp 2]
theorem k32:CT 32 67 r32 o32:=ck Tryz.func32 Tryz.ntmps32 (by decide +kernel)
abbrev QB2:IL:=[yi 2]
abbrev QB3:IL:=[yi 3]
abbrev QB4:IL:=[jd 4 0]
abbrev QB5:IL:=[ja 8 4,ja 9 0,ji 10 1 9,jn 11 8 10]
abbrev QB6:IL:=[ja 14 0,ja 15 4,jk 16 4 14 15,jf 17 4 16,zn 5 5,js 4 5 17]
abbrev QB7:IL:=[jf 18 4 5,jr 19 64 18,jz 20 19]
abbrev QB8:IL:=[jb 22 0 5,jc 23 22,jb 24 1 5,jc 25 24,jy 26 65 23 25,ja 21 26,jx 27 21 0,jx 28 21 1,ja 6 27,ja 7 28]
abbrev QB9:IL:=[ja 29 3,ja 30 6,DQ 31 29 30,ja 3 31]
abbrev QCa:IL:=[jb 32 1 5,jc 33 32,jq 34 33 2]
abbrev Qmo:IL:=[ja 35 3,jb 36 2 5,jc 37 36,jr 38 66 37,DQ 39 35 38,ja 3 39]
abbrev Qmp:IL:=[jb 40 1 5,jc 41 40,jr 42 67 41]
abbrev Qmq:IL:=[ja 43 3,jb 44 2 5,jc 45 44,jr 46 68 45,DQ 47 43 46,ja 3 47]
abbrev Qmr:IL:=[ja 48 3,jb 49 3 5,yb 50 0 5 49,ji 51 0 50,zo 52 51,jr 53 68 52,jb 54 3 5,yb 55 0 5 54,DQ 56 53 55,DQ 57 48 56,ja 3 57]
abbrev QCb:IL:=[ja 12 4,jm 13 12 1,ja 4 13]
abbrev QCc:RC:=.gho (.drop 5) (.seq (jQ QB5 (jX 11 0)) (.seq (.block 1 (jQ QB6 (.seq (jQ QB7 (.cond (.t 20) (.exit 1) (.skip))) (jQ QB8 (jQ QB9 (jQ QCa (.cond (.t 34) (.reg Qmo) (jQ Qmp (.cond (.t 42) (.reg Qmq) (.draw Qmr)))))))))) (.reg QCb)))
abbrev Qms:IL:=[ja 58 3,ja 2 58]
abbrev r33:RC:=jQ QB2 (jQ QB3 (.seq (jQ QB4 (.block 0 (.loop QCc))) (jQ Qms (.ret))))
abbrev o33:List RR:=[.tmp 2]
theorem k33:CT 33 59 r33 o33:=ck Tryz.func33 Tryz.ntmps33 (by decide +kernel)
abbrev QCd:IL:=[je 3 3 0,je 5 5 2,yu 6 6]
abbrev QCe:IL:=[ja 12 1,yo 13 12 0,ja 14 13,jv 15 1 14,jp 16 0 3 14,jt 17 16 14,yf 18 1 17 14,FQ 19 15 18 14,jo 20 14 19]
abbrev QCf:IL:=[⟨some 21,.val (.build [.int .i64 0,.int .u64 0,.str [],.nils,.nils,.nils,.nils] []),none⟩,js 7 6 21]
abbrev QCg:IL:=[jb 22 6 5,jc 23 22,jr 24 69 23,⟨some 25,.val (.build [.int .i64 0,.int .u64 0,.str [],.nils,.nils,.nils,.nils] [(0,1,(.c (.int .i64 10))),(6,1,(.t 24))]),none⟩,yu 7 7,js 7 7 25]
abbrev QCh:IL:=[jd 8 0]
abbrev QCi:IL:=[ja 26 8,jb 27 0 3,jc 28 27,ja 29 1,jk 30 3 28 29,jb 31 1 30,jc 32 31,ji 33 1 32,jn 34 26 33]
abbrev QCj:IL:=[jb 37 0 3,jc 38 37,ja 39 1,jk 40 3 38 39,jb 41 1 40,jc 42 41,ja 43 8,jk 44 8 42 43,jf 45 8 44,zd 9 9,js 8 9 45]
abbrev QCk:IL:=[jd 10 0]
abbrev QCl:IL:=[ja 46 10,jb 47 5 5,jc 48 47,ji 49 1 48,jn 50 46 49]
abbrev Qmt:IL:=[jb 53 5 5,yb 54 0 5 53,ja 55 10,jk 56 8 54 55,jb 57 0 56,zx 58 57,jb 59 0 9,yb 60 0 9 59,zs 61 58 60]
abbrev Qmu:IL:=[jw 62 0 3 2 3,jw 63 0 9 8 9,jb 64 5 5,yb 65 0 5 64,ja 66 10,jk 67 8 65 66,jb 68 1 67,ya 69 7 68,yd 70 70 62 63 69,yu 11 11,zp 0 11 7 11 70]
abbrev Qmv:IL:=[jb 71 3 9,jc 72 71,yo 73 72 3,ja 74 73,yv 75 7 11 74,zi 76 71 75 74,ze 77 76 74,jo 78 74 77]
abbrev Qmw:IL:=[jb 79 5 7,jc 80 79,jb 81 0 9,jc 82 81,jf 83 7 11,⟨some 84,.val (.build [.int .i64 0,.int .i64 0,.int .u64 0,.str [],.nils,.nils,.nils,.nils] [(0,1,(.t 82)),(1,7,(.t 83))]),none⟩,⟨some 85,.bsl 8 1 [.int .i64 0,.int .i64 0,.int .u64 0,.str [],.nils,.nils,.nils,.nils] [(0,8,(.t 84))],none⟩,yh 86 8 136 47 80 85,jb 87 5 7,js 1 87 86]
abbrev Qmx:IL:=[ja 51 10,jm 52 51 1,ja 10 52]
abbrev Se:RC:=.gho (.drop 11) (.seq (jQ QCl (jX 50 2)) (.seq (.block 3 (.seq (jD Qmt (.cond (.t 61) (.exit 3) (.skip))) (jD Qmu (jQ Qmv (.cond (.t 78) (.reg Qmw) (.skip)))))) (.reg Qmx)))
abbrev QCm:IL:=[ja 35 8,jm 36 35 1,ja 8 36]
abbrev QCn:RC:=.gho (.drop 11) (.gho (.drop 9) (.seq (jQ QCi (jX 34 0)) (.seq (.block 1 (jQ QCj (jQ QCk (.block 2 (.loop Se))))) (.reg QCm))))
abbrev Qmy:IL:=[jf 88 7 7,js 7 6 88]
abbrev r35:RC:=jQ QCd (.seq (jQ QCe (.cond (.t 20) (jQ QCf (.ret)) (.skip))) (jQ QCg (.gho (.vecc 7 5 1100 8) (.seq (jQ QCh (.block 0 (.loop QCn))) (jQ Qmy (.ret))))))
abbrev o35:List RR:=[.cell 6 (some 7)]
theorem k35:CT 35 89 r35 o35:=ck Tryz.func35 Tryz.ntmps35 (by decide +kernel)
abbrev QCo:IL:=[je 2 2 0,je 3 3 1,jh 4]
abbrev QCp:IL:=[jb 9 0 2,jc 10 9,jb 11 0 3,jc 12 11,zs 13 10 12,ja 14 13,jp 15 1 2 14,jt 16 15 14,jp 17 1 3 14,jt 18 17 14,U8 19 16 18 14,jo 20 14 19,ja 21 20,jp 22 2 2 21,jt 23 22 21,jp 24 2 3 21,jt 25 24 21,⟨some 26,.val (.bin .str .neq (.t 23) (.t 25)),(some (21,false))⟩,jo 27 21 26,ja 28 27,jp 29 3 2 28,jt 30 29 28,yf 31 1 30 28,jp 32 3 3 28,jt 33 32 28,yf 34 1 33 28,U8 35 31 34 28,jo 36 28 35,ja 37 36,jp 38 4 2 37,jt 39 38 37,yf 40 1 39 37,jp 41 4 3 37,jt 42 41 37,yf 43 1 42 37,U8 44 40 43 37,jo 45 37 44,ja 46 45,jp 47 5 2 46,jt 48 47 46,yf 49 1 48 46,jp 50 5 3 46,jt 51 50 46,yf 52 1 51 46,U8 53 49 52 46,jo 54 46 53,ja 55 54,jp 56 6 2 55,jt 57 56 55,yf 58 1 57 55,jp 59 6 3 55,jt 60 59 55,yf 61 1 60 55,U8 62 58 61 55,jo 63 55 62]
abbrev QCq:IL:=[jh 4]
abbrev QCr:IL:=[jd 5 0]
abbrev QCs:IL:=[ja 64 5,jb 65 3 2,jc 66 65,ji 67 1 66,jn 68 64 67]
abbrev QCt:IL:=[jb 71 3 2,yb 72 0 2 71,ja 73 5,jk 74 7 72 73,ya 75 7 74,jb 76 3 3,yb 77 0 3 76,ja 78 5,jk 79 7 77 78,ya 80 7 79,jy 81 36 75 80,jz 82 81]
abbrev QCu:IL:=[jh 4]
abbrev QCv:IL:=[ja 69 5,jm 70 69 1,ja 5 70]
abbrev Sf:RC:=.seq (jQ QCs (jX 68 0)) (.seq (.block 1 (jD QCt (.cond (.t 82) (jQ QCu (.ret)) (.skip)))) (.reg QCv))
abbrev QCw:IL:=[jd 6 0]
abbrev QCx:IL:=[ja 83 6,jb 84 4 2,jc 85 84,ji 86 1 85,jn 87 83 86]
abbrev Qmz:IL:=[jb 90 4 2,yb 91 0 2 90,ja 92 6,jk 93 14 91 92,jb 94 0 93,ya 95 7 94,jb 96 4 3,yb 97 0 3 96,ja 98 6,jk 99 14 97 98,jb 100 0 99,ya 101 7 100,jy 102 36 95 101,jz 103 102,ja 104 103,jp 105 4 2 104,zl 106 0 2 105 104,jv 107 6 104,yz 108 14 106 107 104,jp 109 7 108 104,Mj 110 7 109 104,jp 111 4 3 104,zl 112 0 3 111 104,jv 113 6 104,yz 114 14 112 113 104,jp 115 7 114 104,Mj 116 7 115 104,NI 117 36 110 116 104,ze 118 117 104,jo 119 104 118]
abbrev QmA:IL:=[jh 4]
abbrev QmB:IL:=[ja 88 6,jm 89 88 1,ja 6 89]
abbrev Sg:RC:=.seq (jQ QCx (jX 87 2)) (.seq (.block 3 (jD Qmz (.cond (.t 119) (jQ QmA (.ret)) (.skip)))) (.reg QmB))
abbrev QmC:IL:=[jd 7 0]
abbrev QmD:IL:=[ja 120 7,jb 121 5 2,jc 122 121,ji 123 1 122,jn 124 120 123]
abbrev QmE:IL:=[jb 127 5 2,yb 128 0 2 127,ja 129 7,jk 130 8 128 129,jb 131 0 130,zx 132 131,jb 133 5 3,yb 134 0 3 133,ja 135 7,jk 136 8 134 135,jb 137 0 136,zx 138 137,zs 139 132 138,ja 140 139,jp 141 5 2 140,zl 142 0 2 141 140,jv 143 7 140,yz 144 8 142 143 140,jp 145 1 144 140,Mj 146 7 145 140,jp 147 5 3 140,zl 148 0 3 147 140,jv 149 7 140,yz 150 8 148 149 140,jp 151 1 150 140,Mj 152 7 151 140,NI 153 36 146 152 140,ze 154 153 140,jo 155 140 154]
abbrev QmF:IL:=[jh 4]
abbrev QmG:IL:=[ja 125 7,jm 126 125 1,ja 7 126]
abbrev Sh:RC:=.seq (jQ QmD (jX 124 4)) (.seq (.block 5 (jD QmE (.cond (.t 155) (jQ QmF (.ret)) (.skip)))) (.reg QmG))
abbrev QmH:IL:=[jd 8 0]
abbrev QmI:IL:=[ja 156 8,jb 157 6 2,jc 158 157,ji 159 1 158,jn 160 156 159]
abbrev QmJ:IL:=[jb 163 6 2,yb 164 0 2 163,ja 165 8,jk 166 4 164 165,ya 167 4 166,jb 168 6 3,yb 169 0 3 168,ja 170 8,jk 171 4 169 170,ya 172 4 171,⟨some 173,.val (.eqs true [.num,.num,.num,.str] (.t 167) (.t 172)),none⟩]
abbrev QmK:IL:=[jh 4]
abbrev QmL:IL:=[ja 161 8,jm 162 161 1,ja 8 162]
abbrev Si:RC:=.seq (jQ QmI (jX 160 6)) (.seq (.block 7 (jD QmJ (.cond (.t 173) (jQ QmK (.ret)) (.skip)))) (.reg QmL))
abbrev QmM:IL:=[yl 4]
abbrev r36:RC:=jQ QCo (.seq (jQ QCp (.cond (.t 63) (jQ QCq (.ret)) (.skip))) (.seq (jQ QCr (.block 0 (.loop Sf))) (.seq (jQ QCw (.block 2 (.loop Sg))) (.seq (jQ QmC (.block 4 (.loop Sh))) (.seq (jQ QmH (.block 6 (.loop Si))) (jQ QmM (.ret)))))))
abbrev o36:List RR:=[.tmp 4]
theorem DR:CT 36 174 r36 o36:=ck Tryz.func36 Tryz.ntmps36 (by decide +kernel)
abbrev QCy:IL:=[je 2 2 0,zd 4 4,jh 5]
abbrev QCz:IL:=[jd 6 0]
abbrev QCA:IL:=[ja 7 6,jb 8 1 2,jc 9 8,ji 10 1 9,jn 11 7 10]
abbrev QCB:IL:=[jb 14 1 2,jc 15 14,ja 16 6,jk 17 8 15 16,jb 18 0 17,jc 19 18,ja 20 1,zm 21 19 20]
abbrev QCC:IL:=[jb 22 1 2,jc 23 22,ja 24 6,jk 25 8 23 24,jf 26 8 25,js 8 4 26,yl 5]
abbrev QCD:IL:=[ja 12 6,jm 13 12 1,ja 6 13]
abbrev QCE:RC:=.seq (jQ QCA (jX 11 0)) (.seq (.block 1 (jQ QCB (.cond (.t 21) (jQ QCC (.ret)) (.skip)))) (.reg QCD))
abbrev QCF:IL:=[⟨some 27,.val (.build [.int .i64 0,.str [],.str [],.int .i64 0,.int .i64 0,.int .i64 0,.int .i64 0,.int .i64 0] []),none⟩,js 8 4 27,jh 5]
abbrev r38:RC:=jQ QCy (.seq (jQ QCz (.block 0 (.loop QCE))) (jQ QCF (.ret)))
abbrev o38:List RR:=[.cell 4 (some 8),.tmp 5]
theorem k38:CT 38 28 r38 o38:=ck Tryz.func38 Tryz.ntmps38 (by decide +kernel)
abbrev QCG:IL:=[je 1 1 0,jh 2]
abbrev QCH:IL:=[jb 3 3 1,jc 4 3,jq 5 4 4,ja 6 5,jl 7 5 1 6,ju 8 7 6,U9 9 8 1 6,jg 10 9 6,jl 11 5 1 10,ju 12 11 10,yy 13 12 6 10,⟨some 14,.val (.pick (.t 10) (.t 13) (.c (.bool false))),(some (6,true))⟩,jg 15 14 6,jp 16 5 1 15,jt 17 16 15,ys 18 17 9 15,zf 19 15 18 6,jj 20 6 19,ja 2 20]
abbrev r41:RC:=jQ QCG (jQ QCH (.ret))
abbrev o41:List RR:=[.tmp 2]
theorem k41:CT 41 21 r41 o41:=ck Tryz.func41 Tryz.ntmps41 (by decide +kernel)
abbrev QCI:IL:=[je 1 1 0,jh 2]
abbrev QCJ:IL:=[jb 7 0 1,jc 8 7,ji 9 1 8,⟨some 10,.val (.bin .num .leq (.t 9) (.c (.int .i64 64))),none⟩,ja 11 10,jl 12 1 1 11,ju 13 12 11,yt 14 1 13 11,yy 15 14 64 11,jj 16 11 15,ja 3 16]
abbrev QCK:IL:=[jd 4 0]
abbrev QCL:IL:=[ja 17 4,jb 18 0 1,jc 19 18,ji 20 1 19,jn 21 17 20]
abbrev QCM:IL:=[ja 24 3,ja 25 24,jl 26 0 1 25,ju 27 26 25,jg 28 4 25,yc 29 3 27 28 25,jl 30 1 29 25,ju 31 30 25,yt 32 1 31 25,yy 33 32 64 25,jj 34 25 33,ja 3 34]
abbrev QCN:IL:=[ja 22 4,jm 23 22 1,ja 4 23]
abbrev Sj:RC:=.seq (jQ QCL (jX 21 0)) (.seq (.block 1 (.reg QCM)) (.reg QCN))
abbrev QCO:IL:=[jd 5 0]
abbrev QCP:IL:=[ja 35 5,jb 36 1 1,jc 37 36,ji 38 1 37,jn 39 35 38]
abbrev QCQ:IL:=[jb 42 1 1,jc 43 42,ja 44 5,jk 45 5 43 44,jb 46 2 45,jc 47 46,ji 48 1 47,ja 6 48]
abbrev QmN:IL:=[ja 49 3,ja 50 49,jg 51 6 50,U9 52 51 1 50,jj 53 50 52,ja 54 53,jg 55 6 54,yy 56 55 64 54,jj 57 54 56,ja 58 57,jl 59 1 1 58,ju 60 59 58,jg 61 5 58,yc 62 5 60 61 58,jl 63 3 62 58,ju 64 63 58,yt 65 1 64 58,yy 66 65 16 58,jj 67 58 66,ja 3 67]
abbrev QCR:IL:=[ja 40 5,jm 41 40 1,ja 5 41]
abbrev Sk:RC:=.seq (jQ QCP (jX 39 2)) (.seq (.block 3 (jQ QCQ (.reg QmN))) (.reg QCR))
abbrev QmO:IL:=[ja 68 3,ja 2 68]
abbrev r43:RC:=jQ QCI (jQ QCJ (.seq (jQ QCK (.block 0 (.loop Sj))) (.seq (jQ QCO (.block 2 (.loop Sk))) (jQ QmO (.ret)))))
abbrev o43:List RR:=[.tmp 2]
theorem k43:CT 43 69 r43 o43:=ck Tryz.func43 Tryz.ntmps43 (by decide +kernel)
abbrev QCS:IL:=[je 1 1 0,jh 2]
abbrev QCT:IL:=[yl 3]
abbrev QCU:IL:=[jd 4 0]
abbrev QCV:IL:=[ja 8 4,jb 9 0 1,jc 10 9,ji 11 1 10,jn 12 8 11]
abbrev QCW:IL:=[ja 15 3,ja 16 15,jl 17 0 1 16,ju 18 17 16,jg 19 4 16,yc 20 3 18 19 16,jl 21 0 20 16,ju 22 21 16,zh 23 76 22 16,jj 24 16 23,ja 3 24]
abbrev QCX:IL:=[jd 5 0]
abbrev QCY:IL:=[ja 25 5,jb 26 0 1,jc 27 26,ja 28 4,jk 29 3 27 28,jb 30 1 29,jc 31 30,ji 32 1 31,jn 33 25 32]
abbrev QCZ:IL:=[ja 36 3,ja 37 36,jl 38 0 1 37,ju 39 38 37,jg 40 4 37,yc 41 3 39 40 37,jl 42 1 41 37,ju 43 42 37,jg 44 5 37,yc 45 8 43 44 37,jl 46 1 45 37,ju 47 46 37,zh 48 77 47 37,jj 49 37 48,ja 3 49]
abbrev QC0:IL:=[ja 34 5,jm 35 34 1,ja 5 35]
abbrev Sl:RC:=.seq (jQ QCY (jX 33 2)) (.seq (.block 3 (.reg QCZ)) (.reg QC0))
abbrev QC1:IL:=[ja 13 4,jm 14 13 1,ja 4 14]
abbrev Sm:RC:=.seq (jQ QCV (jX 12 0)) (.seq (.block 1 (jQ QCW (jQ QCX (.block 2 (.loop Sl))))) (.reg QC1))
abbrev QmP:IL:=[jd 6 0]
abbrev QmQ:IL:=[ja 50 6,jb 51 1 1,jc 52 51,ji 53 1 52,jn 54 50 53]
abbrev QmR:IL:=[ja 57 3,ja 58 57,jl 59 1 1 58,ju 60 59 58,jg 61 6 58,yc 62 5 60 61 58,jl 63 0 62 58,ju 64 63 58,zh 65 76 64 58,jj 66 58 65,ja 3 66]
abbrev QmS:IL:=[jd 7 0]
abbrev QmT:IL:=[ja 67 7,jb 68 1 1,jc 69 68,ja 70 6,jk 71 5 69 70,jb 72 2 71,jc 73 72,ji 74 1 73,jn 75 67 74]
abbrev QmU:IL:=[ja 78 3,ja 79 78,jl 80 1 1 79,ju 81 80 79,jg 82 6 79,yc 83 5 81 82 79,jl 84 2 83 79,ju 85 84 79,jg 86 7 79,yc 87 3 85 86 79,jl 88 0 87 79,ju 89 88 79,zh 90 77 89 79,jj 91 79 90,ja 3 91]
abbrev QmV:IL:=[ja 76 7,jm 77 76 1,ja 7 77]
abbrev Sn:RC:=.seq (jQ QmT (jX 75 6)) (.seq (.block 7 (.reg QmU)) (.reg QmV))
abbrev QmW:IL:=[ja 55 6,jm 56 55 1,ja 6 56]
abbrev Sp:RC:=.seq (jQ QmQ (jX 54 4)) (.seq (.block 5 (jQ QmR (jQ QmS (.block 6 (.loop Sn))))) (.reg QmW))
abbrev QmX:IL:=[ja 92 3,ja 2 92]
abbrev r44:RC:=jQ QCS (jQ QCT (.seq (jQ QCU (.block 0 (.loop Sm))) (.seq (jQ QmP (.block 4 (.loop Sp))) (jQ QmX (.ret)))))
abbrev o44:List RR:=[.tmp 2]
theorem k44:CT 44 93 r44 o44:=ck Tryz.func44 Tryz.ntmps44 (by decide +kernel)
abbrev QC2:IL:=[je 1 1 0,jh 2]
abbrev QC3:IL:=[yl 3]
abbrev QC4:IL:=[jd 4 0]
abbrev QC5:IL:=[ja 8 4,jb 9 0 1,jc 10 9,ji 11 1 10,jn 12 8 11]
abbrev QC6:IL:=[ja 15 3,ja 16 15,jg 17 4 16,ym 18 17 0 16,jg 19 18 16,jp 20 0 1 19,zl 21 0 1 20 19,jv 22 4 19,⟨some 23,.val (.bin .num .sub (.t 22) (.c (.int .i64 1))),(some (19,false))⟩,yz 24 3 21 23 19,jp 25 0 24 19,NF 26 25 19,jp 27 0 1 19,zl 28 0 1 27 19,jv 29 4 19,yz 30 3 28 29 19,jp 31 0 30 19,NF 32 31 19,⟨some 33,.val (.bin .str .lss (.t 26) (.t 32)),(some (19,false))⟩,zf 34 19 33 16,jj 35 16 34,ja 3 35]
abbrev QC7:IL:=[jd 5 1]
abbrev QC8:IL:=[ja 36 5,jb 37 0 1,jc 38 37,ja 39 4,jk 40 3 38 39,jb 41 1 40,jc 42 41,ji 43 1 42,jn 44 36 43]
abbrev QC9:IL:=[ja 47 3,ja 48 47,jl 49 0 1 48,zb 50 0 1 49 48,jg 51 4 48,yc 52 3 50 51 48,jl 53 1 52 48,yp 54 53 48,jg 55 5 48,DP 56 55 1 48,yc 57 8 54 56 48,jl 58 0 57 48,yp 59 58 48,jl 60 0 1 48,zb 61 0 1 60 48,jg 62 4 48,yc 63 3 61 62 48,jl 64 1 63 48,yp 65 64 48,jg 66 5 48,yc 67 8 65 66 48,jl 68 0 67 48,yp 69 68 48,zu 70 59 69 48,jj 71 48 70,ja 3 71]
abbrev QDa:IL:=[ja 45 5,jm 46 45 1,ja 5 46]
abbrev Sq:RC:=.seq (jQ QC8 (jX 44 2)) (.seq (.block 3 (.draw QC9)) (.reg QDa))
abbrev QDb:IL:=[ja 13 4,jm 14 13 1,ja 4 14]
abbrev Sr:RC:=.seq (jQ QC5 (jX 12 0)) (.seq (.block 1 (jD QC6 (jQ QC7 (.block 2 (.loop Sq))))) (.reg QDb))
abbrev QmY:IL:=[jd 6 0]
abbrev QmZ:IL:=[ja 72 6,jb 73 1 1,jc 74 73,ji 75 1 74,jn 76 72 75]
abbrev Qm0:IL:=[ja 79 3,ja 80 79,jg 81 6 80,ym 82 81 0 80,jg 83 82 80,jp 84 1 1 83,zl 85 0 1 84 83,jv 86 6 83,⟨some 87,.val (.bin .num .sub (.t 86) (.c (.int .i64 1))),(some (83,false))⟩,yz 88 5 85 87 83,jp 89 0 88 83,NF 90 89 83,jp 91 1 1 83,zl 92 0 1 91 83,jv 93 6 83,yz 94 5 92 93 83,jp 95 0 94 83,NF 96 95 83,⟨some 97,.val (.bin .str .lss (.t 90) (.t 96)),(some (83,false))⟩,zf 98 83 97 80,jj 99 80 98,ja 3 99]
abbrev Qm1:IL:=[jd 7 1]
abbrev Qm2:IL:=[ja 100 7,jb 101 1 1,jc 102 101,ja 103 6,jk 104 5 102 103,jb 105 2 104,jc 106 105,ji 107 1 106,jn 108 100 107]
abbrev Qm3:IL:=[ja 111 3,ja 112 111,jl 113 1 1 112,zb 114 0 1 113 112,jg 115 6 112,yc 116 5 114 115 112,jl 117 2 116 112,yp 118 117 112,jg 119 7 112,DP 120 119 1 112,yc 121 3 118 120 112,jl 122 1 121 112,yp 123 122 112,jl 124 1 1 112,zb 125 0 1 124 112,jg 126 6 112,yc 127 5 125 126 112,jl 128 2 127 112,yp 129 128 112,jg 130 7 112,yc 131 3 129 130 112,jl 132 1 131 112,yp 133 132 112,zu 134 123 133 112,jj 135 112 134,ja 3 135]
abbrev Qm4:IL:=[ja 109 7,jm 110 109 1,ja 7 110]
abbrev Ss:RC:=.seq (jQ Qm2 (jX 108 6)) (.seq (.block 7 (.draw Qm3)) (.reg Qm4))
abbrev Qm5:IL:=[ja 77 6,jm 78 77 1,ja 6 78]
abbrev Su:RC:=.seq (jQ QmZ (jX 76 4)) (.seq (.block 5 (jD Qm0 (jQ Qm1 (.block 6 (.loop Ss))))) (.reg Qm5))
abbrev Qm6:IL:=[ja 136 3,ja 2 136]
abbrev r45:RC:=jQ QC2 (jQ QC3 (.seq (jQ QC4 (.block 0 (.loop Sr))) (.seq (jQ QmY (.block 4 (.loop Su))) (jQ Qm6 (.ret)))))
abbrev o45:List RR:=[.tmp 2]
theorem k45:CT 45 137 r45 o45:=ck Tryz.func45 Tryz.ntmps45 (by decide +kernel)
abbrev QDc:IL:=[je 1 1 0,jh 2]
abbrev QDd:IL:=[yl 3]
abbrev QDe:IL:=[jd 4 0]
abbrev QDf:IL:=[ja 13 4,jb 14 0 1,jc 15 14,ji 16 1 15,jn 17 13 16]
abbrev QDg:IL:=[jd 5 0]
abbrev QDh:IL:=[ja 20 5,jb 21 1 1,jc 22 21,ji 23 1 22,jn 24 20 23]
abbrev QDi:IL:=[ja 27 3,ja 28 27,jl 29 0 1 28,zb 30 0 1 29 28,jg 31 4 28,yc 32 3 30 31 28,jl 33 0 32 28,yp 34 33 28,jl 35 1 1 28,zb 36 0 1 35 28,jg 37 5 28,yc 38 5 36 37 28,jl 39 0 38 28,yp 40 39 28,⟨some 41,.val (.bin .str .neq (.t 34) (.t 40)),(some (28,true))⟩,jj 42 28 41,ja 3 42]
abbrev QDj:IL:=[ja 25 5,jm 26 25 1,ja 5 26]
abbrev Sv:RC:=.seq (jQ QDh (jX 24 2)) (.seq (.block 3 (.draw QDi)) (.reg QDj))
abbrev QDk:IL:=[jb 43 0 1,jc 44 43,ja 45 4,jk 46 3 44 45,jb 47 1 46,jc 48 47,ja 6 48]
abbrev Qm7:IL:=[jd 7 0]
abbrev Qm8:IL:=[ja 49 7,ja 50 6,ji 51 1 50,jn 52 49 51]
abbrev Qm9:IL:=[jd 8 0]
abbrev Qna:IL:=[ja 55 8,ja 56 7,jn 57 55 56]
abbrev Qnb:IL:=[ja 60 3,ja 61 60,jg 62 6 61,jg 63 8 61,yc 64 8 62 63 61,jl 65 1 64 61,yp 66 65 61,jg 67 6 61,jg 68 7 61,yc 69 8 67 68 61,jl 70 1 69 61,yp 71 70 61,⟨some 72,.val (.bin .str .neq (.t 66) (.t 71)),(some (61,true))⟩,jj 73 61 72,ja 3 73]
abbrev Qnc:IL:=[ja 58 8,jm 59 58 1,ja 8 59]
abbrev Sw:RC:=.seq (jQ Qna (jX 57 6)) (.seq (.block 7 (.draw Qnb)) (.reg Qnc))
abbrev Qnd:IL:=[ja 53 7,jm 54 53 1,ja 7 54]
abbrev Sx:RC:=.seq (jQ Qm8 (jX 52 4)) (.seq (.block 5 (jQ Qm9 (.block 6 (.loop Sw)))) (.reg Qnd))
abbrev QDl:IL:=[ja 18 4,jm 19 18 1,ja 4 19]
abbrev Sy:RC:=.seq (jQ QDf (jX 17 0)) (.seq (.block 1 (.seq (jQ QDg (.block 2 (.loop Sv))) (jQ QDk (jQ Qm7 (.block 4 (.loop Sx)))))) (.reg QDl))
abbrev Qne:IL:=[jd 9 0]
abbrev Qnf:IL:=[ja 74 9,jb 75 1 1,jc 76 75,ji 77 1 76,jn 78 74 77]
abbrev Qng:IL:=[jb 81 1 1,jc 82 81,ja 83 9,jk 84 5 82 83,jb 85 2 84,jc 86 85,ja 10 86]
abbrev Qnh:IL:=[jd 11 0]
abbrev Qni:IL:=[ja 87 11,ja 88 10,ji 89 1 88,jn 90 87 89]
abbrev Qnj:IL:=[jd 12 0]
abbrev Qnk:IL:=[ja 93 12,ja 94 11,jn 95 93 94]
abbrev Qnl:IL:=[ja 98 3,ja 99 98,jg 100 10 99,jg 101 12 99,yc 102 3 100 101 99,jl 103 0 102 99,yp 104 103 99,jg 105 10 99,jg 106 11 99,yc 107 3 105 106 99,jl 108 0 107 99,yp 109 108 99,⟨some 110,.val (.bin .str .neq (.t 104) (.t 109)),(some (99,true))⟩,jj 111 99 110,ja 3 111]
abbrev Qnm:IL:=[ja 96 12,jm 97 96 1,ja 12 97]
abbrev Sz:RC:=.seq (jQ Qnk (jX 95 12)) (.seq (.block 13 (.draw Qnl)) (.reg Qnm))
abbrev Qnn:IL:=[ja 91 11,jm 92 91 1,ja 11 92]
abbrev SA:RC:=.seq (jQ Qni (jX 90 10)) (.seq (.block 11 (jQ Qnj (.block 12 (.loop Sz)))) (.reg Qnn))
abbrev Qno:IL:=[ja 79 9,jm 80 79 1,ja 9 80]
abbrev SB:RC:=.seq (jQ Qnf (jX 78 8)) (.seq (.block 9 (jQ Qng (jQ Qnh (.block 10 (.loop SA))))) (.reg Qno))
abbrev Qnp:IL:=[ja 112 3,ja 2 112]
abbrev r46:RC:=jQ QDc (jQ QDd (.seq (jQ QDe (.block 0 (.loop Sy))) (.seq (jQ Qne (.block 8 (.loop SB))) (jQ Qnp (.ret)))))
abbrev o46:List RR:=[.tmp 2]
theorem k46:CT 46 113 r46 o46:=ck Tryz.func46 Tryz.ntmps46 (by decide +kernel)
abbrev QDm:IL:=[je 1 1 0,jh 2]
abbrev QDn:IL:=[yl 3]
abbrev QDo:IL:=[jd 4 0]
abbrev QDp:IL:=[ja 13 4,jb 14 0 1,jc 15 14,ji 16 1 15,jn 17 13 16]
abbrev QDq:IL:=[jd 5 0]
abbrev QDr:IL:=[ja 20 5,jb 21 0 1,jc 22 21,ja 23 4,jk 24 3 22 23,jb 25 1 24,jc 26 25,ji 27 1 26,jn 28 20 27]
abbrev QDs:IL:=[jb 31 0 1,jc 32 31,ja 33 4,jk 34 3 32 33,jb 35 1 34,jc 36 35,ja 37 5,jk 38 8 36 37,jb 39 0 38,jc 40 39,ja 6 40]
abbrev QDt:IL:=[ja 41 3,ja 42 41,jg 43 6 42,U9 44 43 1 42,jj 45 42 44,ja 46 45,jg 47 6 46,yy 48 47 65535 46,jj 49 46 48,ja 3 49]
abbrev QDu:IL:=[ja 29 5,jm 30 29 1,ja 5 30]
abbrev SC:RC:=.seq (jQ QDr (jX 28 2)) (.seq (.block 3 (jQ QDs (.reg QDt))) (.reg QDu))
abbrev QDv:IL:=[ja 18 4,jm 19 18 1,ja 4 19]
abbrev SD:RC:=.seq (jQ QDp (jX 17 0)) (.seq (.block 1 (jQ QDq (.block 2 (.loop SC)))) (.reg QDv))
abbrev Qnq:IL:=[jd 7 0]
abbrev Qnr:IL:=[ja 50 7,jb 51 1 1,jc 52 51,ji 53 1 52,jn 54 50 53]
abbrev Qns:IL:=[jb 57 1 1,jc 58 57,ja 59 7,jk 60 5 58 59,jf 61 5 60,⟨some 8,.allocN 8 [.str [],.bool false,.nils,.nils,.nils],none⟩,js 5 8 61]
abbrev Qnt:IL:=[jd 9 0]
abbrev Qnu:IL:=[ja 62 9,jb 63 2 8,jc 64 63,ji 65 1 64,jn 66 62 65]
abbrev Qnv:IL:=[jb 69 2 8,jc 70 69,ja 71 9,jk 72 3 70 71,jb 73 1 72,jc 74 73,ja 10 74]
abbrev Qnw:IL:=[ja 75 3,ja 76 75,jg 77 10 76,yy 78 77 2147483647 76,jj 79 76 78,ja 80 79,jg 81 9 80,Ny 82 81 0 80,jg 83 82 80,jv 84 10 83,ys 85 84 0 83,zf 86 83 85 80,jj 87 80 86,ja 88 87,jl 89 3 8 88,ju 90 89 88,jg 91 10 88,Gk 92 78 90 91 88,yx 93 92 88,jj 94 88 93,ja 3 94]
abbrev Qnx:IL:=[ja 67 9,jm 68 67 1,ja 9 68]
abbrev SE:RC:=.seq (jQ Qnu (jX 66 6)) (.seq (.block 7 (jQ Qnv (.reg Qnw))) (.reg Qnx))
abbrev Qny:IL:=[jd 11 0]
abbrev Qnz:IL:=[ja 95 11,jb 96 3 8,jc 97 96,ji 98 1 97,jn 99 95 98]
abbrev QnA:IL:=[jb 102 3 8,jc 103 102,ja 104 11,jk 105 2 103 104,jf 106 2 105,⟨some 12,.allocN 12 [.int .i64 0,.int .i64 0],none⟩,js 2 12 106]
abbrev QnB:IL:=[ja 107 3,ja 108 107,jl 109 0 12 108,zb 110 0 12 109 108,U9 111 110 0 108,jj 112 108 111,ja 113 112,jl 114 1 12 113,zb 115 0 12 114 113,yy 116 115 2147483647 113,jj 117 113 116,ja 118 117,jl 119 0 12 118,zb 120 0 12 119 118,jl 121 1 12 118,zb 122 0 12 121 118,Mk 123 120 122 118,jj 124 118 123,ja 125 124,jg 126 11 125,ym 127 126 0 125,jg 128 127 125,jp 129 0 12 128,zl 130 0 12 129 128,jp 131 3 8 128,zl 132 0 8 131 128,jv 133 11 128,⟨some 134,.val (.bin .num .sub (.t 133) (.c (.int .i64 1))),(some (128,false))⟩,yz 135 2 132 134 128,jp 136 1 135 128,NF 137 136 128,⟨some 138,.val (.bin .num .gtr (.t 130) (.t 137)),(some (128,false))⟩,zf 139 128 138 125,jj 140 125 139,ja 3 140]
abbrev QnC:IL:=[ja 100 11,jm 101 100 1,ja 11 101]
abbrev SF:RC:=.gho (.drop 12) (.seq (jQ Qnz (jX 99 8)) (.seq (.block 9 (jQ QnA (.draw QnB))) (.reg QnC)))
abbrev QnD:IL:=[ja 55 7,jm 56 55 1,ja 7 56]
abbrev SG:RC:=.gho (.drop 12) (.gho (.drop 8) (.seq (jQ Qnr (jX 54 4)) (.seq (.block 5 (jQ Qns (.seq (jQ Qnt (.block 6 (.loop SE))) (jQ Qny (.block 8 (.loop SF)))))) (.reg QnD))))
abbrev QnE:IL:=[ja 141 3,ja 2 141]
abbrev r47:RC:=jQ QDm (jQ QDn (.seq (jQ QDo (.block 0 (.loop SD))) (.seq (jQ Qnq (.block 4 (.loop SG))) (jQ QnE (.ret)))))
abbrev o47:List RR:=[.tmp 2]
theorem k47:CT 47 142 r47 o47:=ck Tryz.func47 Tryz.ntmps47 (by decide +kernel)
abbrev QDw:IL:=[je 1 1 0,jh 2]
abbrev QDx:IL:=[yl 3]
abbrev QDy:IL:=[jd 4 0]
abbrev QDz:IL:=[ja 9 4,jb 10 1 1,jc 11 10,ji 12 1 11,jn 13 9 12]
abbrev QDA:IL:=[ja 16 3,ja 17 16,jl 18 1 1 17,ju 19 18 17,jg 20 4 17,yc 21 5 19 20 17,jl 22 4 21 17,ju 23 22 17,yt 24 1 23 17,ym 25 24 0 17,jj 26 17 25,ja 3 26]
abbrev QDB:IL:=[jd 5 0]
abbrev QDC:IL:=[ja 27 5,jb 28 1 1,jc 29 28,ja 30 4,jk 31 5 29 30,jb 32 2 31,jc 33 32,ji 34 1 33,jn 35 27 34]
abbrev QDD:IL:=[jb 38 1 1,jc 39 38,ja 40 4,jk 41 5 39 40,jb 42 2 41,jc 43 42,ja 44 5,jk 45 3 43 44,jb 46 2 45,jc 47 46,ja 6 47]
abbrev QnF:IL:=[ja 48 3,ja 49 48,jg 50 6 49,yt 51 1 50 49,ym 52 51 0 49,jg 53 52 49,jv 54 6 53,yf 55 1 54 53,ys 56 55 1 53,jv 57 56 53,jg 58 6 57,NB 59 8 58 0 57,jl 60 0 59 57,ju 61 60 57,⟨some 62,.val (.bin .str .eql (.t 61) (.c (.str [97,108,105,97,115]))),(some (57,true))⟩,yw 63 57 62 53,jv 64 63 53,jg 65 6 64,⟨some 66,.call (.f 79) [(.t 65),(.c (.int .i64 4))],(some (64,true))⟩,ym 67 66 0 64,yw 68 64 67 53,zf 69 53 68 49,jj 70 49 69,ja 3 70]
abbrev QDE:IL:=[ja 36 5,jm 37 36 1,ja 5 37]
abbrev SH:RC:=.seq (jQ QDC (jX 35 2)) (.seq (.block 3 (jQ QDD (.reg QnF))) (.reg QDE))
abbrev QDF:IL:=[ja 14 4,jm 15 14 1,ja 4 15]
abbrev SI:RC:=.seq (jQ QDz (jX 13 0)) (.seq (.block 1 (jQ QDA (jQ QDB (.block 2 (.loop SH))))) (.reg QDF))
abbrev QnG:IL:=[jd 7 0]
abbrev QnH:IL:=[ja 71 7,jb 72 0 1,jc 73 72,ji 74 1 73,jn 75 71 74]
abbrev QnI:IL:=[ja 78 3,ja 79 78,jl 80 0 1 79,ju 81 80 79,jg 82 7 79,yc 83 3 81 82 79,zk 84 3 83 79,zh 85 80 84 79,jj 86 79 85,ja 3 86]
abbrev QnJ:IL:=[jd 8 0]
abbrev QnK:IL:=[ja 87 8,jb 88 0 1,jc 89 88,ja 90 7,jk 91 3 89 90,jb 92 1 91,jc 93 92,ji 94 1 93,jn 95 87 94]
abbrev QnL:IL:=[ja 98 3,ja 99 98,zt 100 0 1 2 1 99,jl 101 0 1 99,zb 102 0 1 101 99,jg 103 7 99,yc 104 3 102 103 99,jl 105 1 104 99,yp 106 105 99,jg 107 8 99,yc 108 8 106 107 99,Gj 109 8 108 99,Gk 110 81 100 109 99,jj 111 99 110,ja 3 111]
abbrev QnM:IL:=[ja 96 8,jm 97 96 1,ja 8 97]
abbrev SJ:RC:=.seq (jQ QnK (jX 95 6)) (.seq (.block 7 (.draw QnL)) (.reg QnM))
abbrev QnN:IL:=[ja 76 7,jm 77 76 1,ja 7 77]
abbrev SK:RC:=.seq (jQ QnH (jX 75 4)) (.seq (.block 5 (jQ QnI (jQ QnJ (.block 6 (.loop SJ))))) (.reg QnN))
abbrev QnO:IL:=[ja 112 3,ja 2 112]
abbrev r48:RC:=jQ QDw (jQ QDx (.seq (jQ QDy (.block 0 (.loop SI))) (.seq (jQ QnG (.block 4 (.loop SK))) (jQ QnO (.ret)))))
abbrev o48:List RR:=[.tmp 2]
theorem k48:CT 48 113 r48 o48:=ck Tryz.func48 Tryz.ntmps48 (by decide +kernel)
abbrev QDG:IL:=[je 1 1 0,jh 2]
abbrev QDH:IL:=[jb 9 0 1,jc 10 9,ji 11 1 10,⟨some 12,.mk 12 4 1 1 [.bool false] (.t 11) (.t 11),none⟩,ja 3 12]
abbrev QDI:IL:=[jb 13 0 1,jc 14 13,ji 15 1 14,jq 16 15 0,ja 4 16]
abbrev QDJ:IL:=[jb 17 0 1,jc 18 17,ji 19 1 18,jd 20 0]
abbrev QDK:IL:=[jn 21 20 19]
abbrev QDL:IL:=[yl 4]
abbrev QDM:IL:=[jd 5 0]
abbrev QDN:IL:=[ja 22 5,jb 23 0 1,jc 24 23,ji 25 1 24,jn 26 22 25]
abbrev QDO:IL:=[yl 6]
abbrev QnP:IL:=[jd 7 0]
abbrev QnQ:IL:=[ja 29 7,jb 30 0 1,jc 31 30,ja 32 5,jk 33 3 31 32,jb 34 1 33,jc 35 34,ji 36 1 35,jn 37 29 36]
abbrev QnR:IL:=[jb 40 0 1,jc 41 40,ja 42 5,jk 43 3 41 42,jb 44 1 43,jc 45 44,ja 46 7,jk 47 8 45 46,jf 48 8 47,zd 8 8,js 8 8 48]
abbrev QnS:IL:=[ja 49 6,ja 50 49,jl 51 3 8 50,ju 52 51 50,zv 53 52 1 50,jg 54 53 50,jp 55 5 8 54,jt 56 55 54,NE 57 56 10 54,zf 58 54 57 50,jg 59 58 50,jv 60 3 59,jp 61 6 8 59,jt 62 61 59,yz 63 1 60 62 59,jt 64 63 59,zf 65 59 64 50,jj 66 50 65,ja 6 66]
abbrev QnT:IL:=[ja 38 7,jm 39 38 1,ja 7 39]
abbrev SL:RC:=.gho (.drop 8) (.seq (jQ QnQ (jX 37 4)) (.seq (.block 5 (jQ QnR (.reg QnS))) (.reg QnT)))
abbrev QnU:IL:=[ja 67 3,ja 68 5,ja 69 6,jk 70 1 67 68,js 1 70 69]
abbrev QnV:IL:=[ja 71 4,ja 72 71,jg 73 6 72,jj 74 72 73,ja 4 74]
abbrev QDP:IL:=[ja 27 5,jm 28 27 1,ja 5 28]
abbrev SM:RC:=.gho (.drop 8) (.seq (jQ QDN (jX 26 2)) (.seq (.block 3 (jQ QDO (.seq (jQ QnP (.block 4 (.loop SL))) (jQ QnU (.reg QnV))))) (.reg QDP)))
abbrev QnW:IL:=[jm 75 20 1,ja 20 75]
abbrev QDQ:RC:=.gho (.drop 8) (jQ QDK (.seq (jX 21 0) (.seq (.block 1 (jQ QDL (jQ QDM (.block 2 (.loop SM))))) (.reg QnW))))
abbrev QnX:IL:=[ja 76 4,ja 2 76]
abbrev r49:RC:=jQ QDG (jQ QDH (jQ QDI (.seq (jQ QDJ (.block 0 (.loop QDQ))) (jQ QnX (.ret)))))
abbrev o49:List RR:=[.tmp 2]
theorem k49:CT 49 77 r49 o49:=ck Tryz.func49 Tryz.ntmps49 (by decide +kernel)
abbrev QDR:IL:=[je 1 1 0,jh 2]
abbrev QDS:IL:=[jb 5 0 1,jc 6 5,jq 7 6 7,ja 8 7,jp 9 0 1 8,jt 10 9 8,ys 11 10 8 8,jo 12 8 11,ja 3 12]
abbrev QDT:IL:=[jb 13 0 1,jc 14 13,jq 15 14 10,ja 4 15]
abbrev QDU:IL:=[jb 16 3 1,jc 17 16,ji 18 1 17,yq 19 18 0,ja 20 19,jl 21 0 1 20,ju 22 21 20,zv 23 22 11 20,jj 24 20 23,ja 25 24,jp 26 4 1 25,jt 27 26 25,yf 28 1 27 25,yk 29 28 0 25,jv 30 29 25,jl 31 0 1 30,ju 32 31 30,zv 33 32 12 30,yw 34 30 33 25,jo 35 25 34,ja 36 35,jp 37 5 1 36,jt 38 37 36,yf 39 1 38 36,jp 40 6 1 36,jt 41 40 36,yf 42 1 41 36,⟨some 43,.val (.bin .num .add (.t 39) (.t 42)),(some (36,false))⟩,yk 44 43 0 36,jv 45 44 36,jg 46 4 45,yx 47 46 45,yw 48 45 47 36,jo 49 36 48]
abbrev QDV:IL:=[yl 2]
abbrev QDW:IL:=[jb 50 1 1,jc 51 50,⟨some 52,.val (.bin .num .neq (.t 51) (.c (.int .u64 0))),none⟩,ja 53 52,jg 54 3 53,jg 55 54 53,jp 56 0 1 55,jt 57 56 55,ys 58 57 11 55,zf 59 55 58 53,jg 60 59 53,jp 61 0 1 60,jt 62 61 60,ys 63 62 12 60,zf 64 60 63 53,jg 65 64 53,jv 66 4 65,zf 67 65 66 53,jj 68 53 67,ja 69 68,jp 70 2 1 69,jt 71 70 69,⟨some 72,.val (.bin .str .neq (.t 71) (.c (.str []))),(some (69,false))⟩,jv 73 72 69,jg 74 3 73,yx 75 74 73,yw 76 73 75 69,jo 77 69 76,ja 2 77]
abbrev r59:RC:=jQ QDR (jQ QDS (jQ QDT (.seq (jQ QDU (.cond (.t 49) (jQ QDV (.ret)) (.skip))) (jQ QDW (.ret)))))
abbrev o59:List RR:=[.tmp 2]
theorem k59:CT 59 78 r59 o59:=ck Tryz.func59 Tryz.ntmps59 (by decide +kernel)
abbrev QDX:IL:=[je 3 3 0,jd 6 0]
abbrev QDY:IL:=[jw 14 0 3 3 3,ja 15 1,ja 16 2,jk 17 8 15 16,jb 18 0 17,zx 19 18,jy 20 38 14 19,ja 13 20,jx 21 13 0,jx 22 13 1,zd 7 7,zp 0 7 8 7 21,ja 8 22]
abbrev QDZ:IL:=[ja 23 8,jz 24 23]
abbrev QD0:IL:=[jd 6 8]
abbrev QD1:IL:=[jh 9]
abbrev QD2:IL:=[jd 10 0]
abbrev QD3:IL:=[ja 25 10,ja 26 2,jn 27 25 26]
abbrev QD4:IL:=[ja 30 1,ja 31 10,jk 32 8 30 31,jb 33 0 32,zx 34 33,ja 35 1,ja 36 2,jk 37 8 35 36,jb 38 0 37,zx 39 38,zm 40 34 39]
abbrev QD5:IL:=[jd 6 9]
abbrev QnY:IL:=[jw 42 0 3 3 3,ja 43 1,ja 44 10,jk 45 8 43 44,jb 46 0 45,zx 47 46,jy 48 38 42 47,ja 41 48,jx 49 41 0,jx 50 41 1,zd 11 11,zp 0 11 8 11 49,ja 12 50]
abbrev QnZ:IL:=[ja 51 9,ja 52 51,jp 53 7 7 52,jt 54 53 52,NE 55 54 (-1) 52,jv 56 55 52,jl 57 7 11 56,ju 58 57 56,jl 59 7 7 56,ju 60 59 56,Mg 61 58 60 56,yw 62 56 61 52,jo 63 52 62,ja 9 63]
abbrev QD6:IL:=[ja 28 10,jm 29 28 1,ja 10 29]
abbrev QD7:RC:=.gho (.drop 11) (.seq (jQ QD3 (jX 27 0)) (.seq (.block 1 (.seq (jD QD4 (.cond (.t 40) (jQ QD5 (.ret)) (.skip))) (jD QnY (.reg QnZ)))) (.reg QD6)))
abbrev Qn0:IL:=[ja 64 9]
abbrev Qn1:IL:=[jd 6 15]
abbrev Qn2:IL:=[jd 6 0]
abbrev r60:RC:=jQ QDX (jD QDY (.seq (jQ QDZ (.cond (.t 24) (jQ QD0 (.ret)) (.skip))) (jQ QD1 (.seq (jQ QD2 (.block 0 (.loop QD7))) (.seq (jQ Qn0 (.cond (.t 64) (jQ Qn1 (.ret)) (.skip))) (jQ Qn2 (.ret)))))))
abbrev o60:List RR:=[.tmp 6]
theorem k60:CT 60 65 r60 o60:=ck Tryz.func60 Tryz.ntmps60 (by decide +kernel)
abbrev QD8:IL:=[je 4 4 0,je 5 5 1,je 6 6 2,jd 8 0]
abbrev QD9:IL:=[jb 11 3 5,jc 12 11]
abbrev QEa:IL:=[jq 14 12 5,ja 13 14]
abbrev QEb:IL:=[jb 15 0 6,jc 16 15,yg 17 16 12,ja 18 17,yv 19 7 6 18,zi 20 59 19 18,jo 21 18 20]
abbrev QEc:IL:=[jd 8 12]
abbrev QEd:IL:=[jf 22 2 4,jf 23 8 5,jb 24 4 6,jc 25 24,ja 26 3,zj 27 110 22 23 25 26,ja 8 27]
abbrev QEe:IL:=[jq 29 12 4,ja 28 29]
abbrev QEf:IL:=[jb 30 0 6,jc 31 30,yg 32 31 11,ja 33 32,yv 34 7 6 33,zi 35 59 34 33,jo 36 33 35]
abbrev QEg:IL:=[jd 8 12]
abbrev QEh:IL:=[jd 9 0]
abbrev Qn3:IL:=[ja 37 9,jb 38 3 6,jc 39 38,ji 40 1 39,jn 41 37 40]
abbrev Qn4:IL:=[jw 44 0 4 2 4,jw 45 0 5 8 5,jb 46 3 6,yb 47 0 6 46,ja 48 9,jk 49 7 47 48,ya 50 7 49,ja 51 3,zj 52 111 44 45 50 51,ja 10 52]
abbrev Qn5:IL:=[ja 53 10,yg 54 53 0]
abbrev Qn6:IL:=[ja 55 10,ja 8 55]
abbrev Qn7:IL:=[ja 42 9,jm 43 42 1,ja 9 43]
abbrev QEi:RC:=.seq (jQ Qn3 (jX 41 1)) (.seq (.block 2 (jD Qn4 (jQ Qn5 (.cond (.t 54) (jQ Qn6 (.ret)) (.skip))))) (.reg Qn7))
abbrev Qn8:IL:=[jd 8 0]
abbrev Qn9:IL:=[jf 56 2 4,jf 57 8 5,jf 58 7 6,ja 59 3,zj 60 111 56 57 58 59,ja 8 60]
abbrev r61:RC:=jQ QD8 (.seq (jQ QD9 (.block 0 (jQ QEa (.cond (.t 13) (.seq (jQ QEb (.cond (.t 21) (jQ QEc (.ret)) (.skip))) (jQ QEd (.ret))) (jQ QEe (.cond (.t 28) (.seq (jQ QEf (.cond (.t 36) (jQ QEg (.ret)) (.skip))) (.seq (jQ QEh (.block 1 (.loop QEi))) (jQ Qn8 (.ret)))) (.skip))))))) (jQ Qn9 (.ret)))
abbrev o61:List RR:=[.tmp 8]
theorem k61:CT 61 61 r61 o61:=ck Tryz.func61 Tryz.ntmps61 (by decide +kernel)
abbrev QEj:IL:=[je 2 2 0,jh 4]
abbrev QEk:IL:=[jd 5 0]
abbrev QEl:IL:=[ja 6 5,jb 7 5 2,jc 8 7,ji 9 1 8,jn 10 6 9]
abbrev QEm:IL:=[jb 13 5 2,jc 14 13,ja 15 5,jk 16 8 14 15,jb 17 0 16,jc 18 17,ja 19 1,zm 20 18 19]
abbrev QEn:IL:=[yl 4]
abbrev QEo:IL:=[ja 11 5,jm 12 11 1,ja 5 12]
abbrev QEp:RC:=.seq (jQ QEl (jX 10 0)) (.seq (.block 1 (jQ QEm (.cond (.t 20) (jQ QEn (.ret)) (.skip)))) (.reg QEo))
abbrev QEq:IL:=[jh 4]
abbrev r62:RC:=jQ QEj (.seq (jQ QEk (.block 0 (.loop QEp))) (jQ QEq (.ret)))
abbrev o62:List RR:=[.tmp 4]
theorem k62:CT 62 21 r62 o62:=ck Tryz.func62 Tryz.ntmps62 (by decide +kernel)
abbrev QEr:IL:=[je 3 3 0,je 4 4 1,je 5 5 2,jh 6]
abbrev QEs:IL:=[jb 9 0 5,jc 10 9,yo 11 10 1,ja 12 11,jp 13 0 5 12,jt 14 13 12,yk 15 14 65535 12,jo 16 12 15,ja 17 16,jp 18 1 5 17,jt 19 18 17,Nz 20 19 0 17,jo 21 17 20,ja 22 21,jp 23 1 5 22,jt 24 23 22,yk 25 24 6 22,jo 26 22 25]
abbrev QEt:IL:=[jh 6]
abbrev QEu:IL:=[jb 27 1 5,jc 28 27,⟨some 29,.val (.bin .num .leq (.t 28) (.c (.int .i64 2))),none⟩,ja 30 29,jl 31 3 5 30,ju 32 31 30,⟨some 33,.val (.bin .str .neq (.t 32) (.c (.str []))),(some (30,true))⟩,jj 34 30 33,ja 35 34,jp 36 1 5 35,jt 37 36 35,yk 38 37 2 35,jv 39 38 35,jl 40 2 5 39,ju 41 40 39,⟨some 42,.val (.bin .num .neq (.t 41) (.c (.int .u64 0))),(some (39,true))⟩,yw 43 39 42 35,jo 44 35 43]
abbrev QEv:IL:=[jh 6]
abbrev QEw:IL:=[jf 46 3 4,jb 47 0 5,jc 48 47,jy 49 38 46 48,ja 45 49,jx 50 45 0,jx 51 45 1,zd 7 7,js 8 7 50,ja 8 51]
abbrev QEx:IL:=[ja 52 8,jz 53 52]
abbrev QEy:IL:=[yl 6]
abbrev QEz:IL:=[jb 54 5 7,jc 55 54,jq 56 55 9,ja 57 56,jl 58 1 3 57,ju 59 58 57,jl 60 6 7 57,ju 61 60 57,yc 62 5 59 61 57,jl 63 1 62 57,ju 64 63 57,yx 65 64 57,jj 66 57 65,ja 67 66,jl 68 3 7 67,ju 69 68 67,zv 70 69 5 67,jj 71 67 70,ja 72 71,jl 73 1 5 72,ju 74 73 72,ym 75 74 0 72,jj 76 72 75,ja 77 76,jl 78 2 5 77,ju 79 78 77,⟨some 80,.val (.bin .num .leq (.t 79) (.c (.int .u64 2147483647))),(some (77,true))⟩,jj 81 77 80,ja 82 81,zk 83 2 3 82,jl 84 6 7 82,ju 85 84 82,jl 86 2 5 82,ju 87 86 82,FT 88 112 83 85 87 82,yx 89 88 82,jj 90 82 89,ja 6 90]
abbrev r63:RC:=jQ QEr (.seq (jQ QEs (.cond (.t 26) (jQ QEt (.ret)) (.skip))) (.seq (jQ QEu (.cond (.t 44) (jQ QEv (.ret)) (.skip))) (jQ QEw (.seq (jQ QEx (.cond (.t 53) (jQ QEy (.ret)) (.skip))) (jQ QEz (.ret))))))
abbrev o63:List RR:=[.tmp 6]
theorem k63:CT 63 91 r63 o63:=ck Tryz.func63 Tryz.ntmps63 (by decide +kernel)
abbrev QEA:IL:=[je 1 1 0,jh 2]
abbrev QEB:IL:=[jb 6 0 1,jc 7 6,jb 8 1 1,jc 9 8,jy 10 65 7 9,ja 5 10,jx 11 5 0,jx 12 5 1,ja 3 11,ja 4 12]
abbrev QEC:IL:=[jb 13 1 1,jc 14 13,jr 15 67 14]
abbrev QED:IL:=[ja 16 4,jq 17 16 0,ja 18 17,jl 19 3 1 18,ju 20 19 18,⟨some 21,.val (.bin .str .eql (.t 20) (.c (.str []))),(some (18,true))⟩,jj 22 18 21,ja 2 22]
abbrev QEE:IL:=[ja 23 4,jq 24 23 0,ja 25 24,jl 26 2 1 25,ju 27 26 25,Me 28 27 0 25,jj 29 25 28,ja 2 29]
abbrev r64:RC:=jQ QEA (jQ QEB (.seq (jQ QEC (.cond (.t 15) (jQ QED (.ret)) (.skip))) (jQ QEE (.ret))))
abbrev o64:List RR:=[.tmp 2]
theorem k64:CT 64 30 r64 o64:=ck Tryz.func64 Tryz.ntmps64 (by decide +kernel)
abbrev QEF:IL:=[yi 4,jd 5 0]
abbrev QEG:IL:=[ja 6 0,yo 7 6 1,ja 8 7,jv 9 0 8,yk 10 9 65535 8,jo 11 8 10,ja 12 11,jv 13 1 12,Nz 14 13 0 12,jo 15 12 14,ja 16 15,jv 17 1 16,yk 18 17 6 16,jo 19 16 18]
abbrev QEH:IL:=[yi 4,jd 5 6]
abbrev QEI:IL:=[ja 20 0,⟨some 21,.val (.bin .num .mul (.t 20) (.c (.int .i64 8))),none⟩,ja 22 1,yj 23 21 22,zo 24 23,jr 25 68 24,ja 4 25,jd 5 0]
abbrev r65:RC:=jQ QEF (.seq (jQ QEG (.cond (.t 19) (jQ QEH (.ret)) (.skip))) (jQ QEI (.ret)))
abbrev o65:List RR:=[.tmp 4,.tmp 5]
theorem k65:CT 65 26 r65 o65:=ck Tryz.func65 Tryz.ntmps65 (by decide +kernel)
abbrev QEJ:IL:=[yi 2]
abbrev QEK:IL:=[ye 3]
abbrev QEL:IL:=[jd 4 0]
abbrev QEM:IL:=[ja 5 4,yo 6 5 8]
abbrev QEN:IL:=[ja 9 3,ja 10 0,⟨some 11,.val (.bin .num .rem (.t 10) (.c (.int .u64 256))),none⟩,DO 12 11,NG 13 1 1 0 1 12,yh 14 1 1 5 9 13,ja 3 14]
abbrev QEO:IL:=[ja 15 0,⟨some 16,.val (.bin .num .quo (.t 15) (.c (.int .u64 256))),none⟩,ja 0 16]
abbrev QEP:IL:=[ja 7 4,jm 8 7 1,ja 4 8]
abbrev QEQ:RC:=.seq (jQ QEM (jX 6 0)) (.seq (.block 1 (jQ QEN (.reg QEO))) (.reg QEP))
abbrev QER:IL:=[ja 17 3,NH 18 17,ja 2 18]
abbrev r66:RC:=jQ QEJ (jQ QEK (.gho (.vec 3 3 1) (.seq (jQ QEL (.block 0 (.loop QEQ))) (jQ QER (.ret)))))
abbrev o66:List RR:=[.tmp 2]
theorem k66:CT 66 19 r66 o66:=ck Tryz.func66 Tryz.ntmps66 (by decide +kernel)
abbrev QES:IL:=[jh 2]
abbrev QET:IL:=[ja 3 0,jq 4 3 0,ja 5 4,jv 6 0 5,ys 7 6 1 5,jo 8 5 7,ja 9 8,jv 10 0 9,ys 11 10 2 9,jo 12 9 11,ja 2 12]
abbrev r67:RC:=jQ QES (jQ QET (.ret))
abbrev o67:List RR:=[.tmp 2]
theorem k67:CT 67 13 r67 o67:=ck Tryz.func67 Tryz.ntmps67 (by decide +kernel)
abbrev QEU:IL:=[yi 2]
abbrev QEV:IL:=[ye 3]
abbrev QEW:IL:=[ja 4 0,⟨some 5,.val (.bin .num .geq (.t 4) (.c (.int .u64 128))),none⟩]
abbrev QEX:IL:=[ja 6 3,ja 7 0,⟨some 8,.val (.bin .num .rem (.t 7) (.c (.int .u64 128))),none⟩,⟨some 9,.val (.bin .num .add (.t 8) (.c (.int .u64 128))),none⟩,DO 10 9,NG 11 1 1 0 1 10,yh 12 1 1 5 6 11,ja 3 12]
abbrev QEY:IL:=[ja 13 0,⟨some 14,.val (.bin .num .quo (.t 13) (.c (.int .u64 128))),none⟩,ja 0 14]
abbrev QEZ:RC:=.seq (jQ QEW (jX 5 0)) (.block 1 (jQ QEX (.reg QEY)))
abbrev QE0:IL:=[ja 15 3,ja 16 0,DO 17 16,NG 18 1 1 0 1 17,yh 19 1 1 5 15 18,NH 20 19,ja 2 20]
abbrev r68:RC:=jQ QEU (jQ QEV (.gho (.vec 3 3 1) (.seq (.block 0 (.loop QEZ)) (jQ QE0 (.ret)))))
abbrev o68:List RR:=[.tmp 2]
theorem k68:CT 68 21 r68 o68:=ck Tryz.func68 Tryz.ntmps68 (by decide +kernel)
abbrev QE1:IL:=[ye 2]
abbrev QE2:IL:=[ye 3]
abbrev QE3:IL:=[jd 4 0]
abbrev QE4:IL:=[ja 7 4,ja 8 0,ji 9 1 8,jn 10 7 9]
abbrev QE5:IL:=[ja 13 3,ji 14 1 13,ja 5 14]
abbrev QE6:IL:=[ja 15 5,yq 16 15 0,ja 17 16,jg 18 3 17,jg 19 5 17,DP 20 19 1 17,yc 21 4 18 20 17,jl 22 0 21 17,yp 23 22 17,jg 24 0 17,jg 25 4 17,yc 26 4 24 25 17,jl 27 0 26 17,yp 28 27 17,⟨some 29,.val (.bin .num .gtr (.t 23) (.t 28)),(some (17,true))⟩,jj 30 17 29]
abbrev QE7:IL:=[ja 31 5,za 32 31 1,ja 5 32]
abbrev SN:RC:=.seq (jD QE6 (jX 30 2)) (.block 3 (.reg QE7))
abbrev QE8:IL:=[ja 33 0,ja 34 4,jk 35 4 33 34,ya 36 4 35,⟨some 37,.bslv 37 4 1 [.int .i64 0,.int .i64 0,.int .u64 0,.str []] [(0,4,(.t 36))],none⟩,ja 38 3,ja 39 5,⟨some 40,.val (.slcp (some 4) (.t 38) (some (.t 39)) none none),none⟩,yh 41 4 40 52 37 40,ja 6 41]
abbrev QE9:IL:=[⟨some 42,.bsl0 42 4,none⟩,ja 43 3,ja 44 5,FS 45 4 43 44,yh 46 4 40 52 42 45,ja 47 6,yh 48 4 40 52 46 47,ja 3 48]
abbrev QFa:IL:=[ja 11 4,jm 12 11 1,ja 4 12]
abbrev QFb:RC:=.seq (jQ QE4 (jX 10 0)) (.seq (.block 1 (jQ QE5 (.seq (.block 2 (.loop SN)) (jD QE8 (.reg QE9))))) (.gho (.pub 3 42) (.reg QFa)))
abbrev Qoc:IL:=[ja 49 3,ja 2 49]
abbrev r69:RC:=jQ QE1 (jQ QE2 (.gho (.lst 3) (.seq (jQ QE3 (.block 0 (.loop QFb))) (jQ Qoc (.ret)))))
abbrev o69:List RR:=[.tmp 2]
theorem k69:CT 69 50 r69 o69:=ck Tryz.func69 Tryz.ntmps69 (by decide +kernel)
abbrev QFc:IL:=[je 3 3 0,je 4 4 1,je 5 5 2,yu 6 6]
abbrev QFd:IL:=[jb 12 3 4,jc 13 12]
abbrev QFe:IL:=[jq 15 13 4,ja 14 15]
abbrev QFf:IL:=[⟨some 16,.val (.build [.int .i64 0,.int .u64 0,.str [],.nils,.nils,.nils,.nils] [(0,1,(.c (.int .i64 11)))]),none⟩,yu 7 7,js 7 7 16]
abbrev QFg:IL:=[jd 8 0]
abbrev QFh:IL:=[ja 17 8,jb 18 3 5,jc 19 18,ji 20 1 19,jn 21 17 20]
abbrev QFi:IL:=[jb 24 3 7,yb 25 0 7 24,jw 26 0 3 2 3,jw 27 0 4 8 4,jb 28 3 5,yb 29 0 5 28,ja 30 8,jk 31 7 29 30,ya 32 7 31,yd 33 113 26 27 32,⟨some 34,.bsl 7 1 [.int .i64 0,.int .u64 0,.str [],.nils,.nils,.nils,.nils] [(0,7,(.t 33))],none⟩,yh 35 7 128 32 25 34,jb 36 3 7,zp 0 7 1 36 35]
abbrev QFj:IL:=[ja 22 8,jm 23 22 1,ja 8 23]
abbrev QFk:RC:=.seq (jQ QFh (jX 21 1)) (.seq (.block 2 (.draw QFi)) (.reg QFj))
abbrev QFl:IL:=[jf 37 7 7,js 7 6 37]
abbrev QFm:IL:=[jq 39 13 5,ja 38 39]
abbrev Qod:IL:=[⟨some 40,.val (.build [.int .i64 0,.int .u64 0,.str [],.nils,.nils,.nils,.nils] [(0,1,(.c (.int .i64 12)))]),none⟩,yu 9 9,js 7 9 40]
abbrev Qoe:IL:=[jb 41 4 5,jc 42 41,jr 43 114 42,ja 10 43]
abbrev Qof:IL:=[jd 11 0]
abbrev Qog:IL:=[ja 44 11,ja 45 10,ji 46 1 45,jn 47 44 46]
abbrev Qoh:IL:=[jb 50 4 9,yb 51 0 9 50,ja 52 10,ja 53 11,jk 54 14 52 53,jb 55 0 54,ya 56 7 55,jr 57 75 56,jw 58 0 3 2 3,jw 59 0 4 8 4,ja 60 10,ja 61 11,jk 62 14 60 61,jb 63 7 62,ya 64 7 63,yd 65 113 58 59 64,⟨some 66,.val (.build [.int .i64 0,.int .u64 0,.str [],.nils,.nils,.nils,.nils,.int .i64 0,.int .u64 0,.str [],.nils,.nils,.nils,.nils] [(0,7,(.t 57)),(7,7,(.t 65))]),none⟩,⟨some 67,.bsl 14 1 [.int .i64 0,.int .u64 0,.str [],.nils,.nils,.nils,.nils,.int .i64 0,.int .u64 0,.str [],.nils,.nils,.nils,.nils] [(0,14,(.t 66))],none⟩,yh 68 14 256 75 51 67,jb 69 4 9,zp 0 9 1 69 68]
abbrev Qoi:IL:=[ja 48 11,jm 49 48 1,ja 11 49]
abbrev QFn:RC:=.seq (jQ Qog (jX 47 3)) (.seq (.block 4 (.draw Qoh)) (.reg Qoi))
abbrev Qoj:IL:=[jf 70 7 9,js 7 6 70]
abbrev Qok:IL:=[jf 71 2 3,jf 72 8 4,jf 73 7 5,yd 74 113 71 72 73,js 7 6 74]
abbrev r70:RC:=jQ QFc (.seq (jQ QFd (.block 0 (jQ QFe (.cond (.t 14) (jQ QFf (.gho (.vecc 7 3 1100 7) (.seq (jQ QFg (.block 1 (.loop QFk))) (jQ QFl (.ret))))) (jQ QFm (.cond (.t 38) (jQ Qod (.gho (.vecc 9 4 1101 14) (jQ Qoe (.seq (jQ Qof (.block 3 (.loop QFn))) (jQ Qoj (.ret)))))) (.skip))))))) (jQ Qok (.ret)))
abbrev o70:List RR:=[.cell 6 (some 7)]
theorem k70:CT 70 75 r70 o70:=ck Tryz.func70 Tryz.ntmps70 (by decide +kernel)
abbrev QFo:IL:=[je 1 1 0,jh 2]
abbrev QFp:IL:=[jb 3 0 1,jc 4 3]
abbrev QFq:IL:=[jq 6 4 11,ja 5 6]
abbrev QFr:IL:=[jb 7 3 1,jc 8 7,ji 9 1 8,jq 10 9 0,ja 2 10]
abbrev QFs:IL:=[jq 12 4 12,ja 11 12]
abbrev QFt:IL:=[jb 13 4 1,jc 14 13,ji 15 1 14,jq 16 15 0,ja 2 16]
abbrev QFu:IL:=[jf 17 7 1,jr 18 115 17,ja 2 18]
abbrev r71:RC:=jQ QFo (.seq (jQ QFp (.block 0 (jQ QFq (.cond (.t 5) (jQ QFr (.ret)) (jQ QFs (.cond (.t 11) (jQ QFt (.ret)) (.skip))))))) (jQ QFu (.ret)))
abbrev o71:List RR:=[.tmp 2]
theorem k71:CT 71 19 r71 o71:=ck Tryz.func71 Tryz.ntmps71 (by decide +kernel)
abbrev QFv:IL:=[NC 2 0]
abbrev QFw:IL:=[ja 3 0,yn 4 3 0]
abbrev QFx:IL:=[ja 5 0,zo 6 5,⟨some 7,.val (.bin .num .mul (.c (.int .u64 2)) (.t 6)),none⟩,ja 2 7]
abbrev QFy:IL:=[ja 8 0,jm 9 8 1,⟨some 10,.val (.un .neg (.t 9)),none⟩,zo 11 10,⟨some 12,.val (.bin .num .mul (.c (.int .u64 2)) (.t 11)),none⟩,⟨some 13,.val (.bin .num .add (.t 12) (.c (.int .u64 1))),none⟩,ja 2 13]
abbrev r74:RC:=jQ QFv (.seq (jQ QFw (.cond (.t 4) (jQ QFx (.ret)) (.skip))) (jQ QFy (.ret)))
abbrev o74:List RR:=[.tmp 2]
theorem k74:CT 74 14 r74 o74:=ck Tryz.func74 Tryz.ntmps74 (by decide +kernel)
abbrev QFz:IL:=[je 1 1 0,yu 2 2]
abbrev QFA:IL:=[jb 3 0 1,jc 4 3,jq 5 4 6,ja 6 5,jl 7 1 1 6,ju 8 7 6,zh 9 123 8 6,ym 10 9 0 6,jj 11 6 10]
abbrev QFB:IL:=[jb 12 1 1,⟨none,.store 1 (.t 12) (.c (.int .u64 9221120237041090560)),none⟩]
abbrev QFC:IL:=[jf 13 7 1,js 7 2 13]
abbrev r75:RC:=jQ QFz (.seq (jQ QFA (.cond (.t 11) (.reg QFB) (.skip))) (jQ QFC (.ret)))
abbrev o75:List RR:=[.cell 2 (some 7)]
theorem k75:CT 75 14 r75 o75:=ck Tryz.func75 Tryz.ntmps75 (by decide +kernel)
abbrev QFD:IL:=[jh 2]
abbrev QFE:IL:=[ja 5 0,jr 6 124 5,jz 7 6]
abbrev QFF:IL:=[jh 2]
abbrev QFG:IL:=[ja 8 0,⟨some 9,.val (.bin .str .neq (.t 8) (.c (.str []))),none⟩]
abbrev QFH:IL:=[ja 11 0,jr 12 125 11,ja 10 12,jx 13 10 0,jx 14 10 1,ja 3 13,ja 4 14]
abbrev QFI:IL:=[ja 15 4,jr 16 126 15]
abbrev QFJ:IL:=[jh 2]
abbrev QFK:IL:=[ja 17 3,ja 0 17]
abbrev QFL:RC:=.seq (jQ QFG (jX 9 0)) (.block 1 (jQ QFH (.seq (jQ QFI (.cond (.t 16) (jQ QFJ (.ret)) (.skip))) (.reg QFK))))
abbrev QFM:IL:=[yl 2]
abbrev r76:RC:=jQ QFD (.seq (jQ QFE (.cond (.t 7) (jQ QFF (.ret)) (.skip))) (.seq (.block 0 (.loop QFL)) (jQ QFM (.ret))))
abbrev o76:List RR:=[.tmp 2]
theorem k76:CT 76 18 r76 o76:=ck Tryz.func76 Tryz.ntmps76 (by decide +kernel)
abbrev QFN:IL:=[jh 2]
abbrev QFO:IL:=[ja 3 0,jr 4 127 3,ja 5 4,jg 6 0 5,zh 7 126 6 5,yx 8 7 5,jj 9 5 8,ja 2 9]
abbrev r77:RC:=jQ QFN (jQ QFO (.ret))
abbrev o77:List RR:=[.tmp 2]
theorem k77:CT 77 10 r77 o77:=ck Tryz.func77 Tryz.ntmps77 (by decide +kernel)
abbrev QFP:IL:=[jh 4]
abbrev QFQ:IL:=[jd 5 0]
abbrev QFR:IL:=[ja 6 5,ja 7 0,ji 8 1 7,jn 9 6 8]
abbrev QFS:IL:=[ja 12 0,ja 13 5,jk 14 2 12 13,jb 15 0 14,jc 16 15,ja 17 1,FX 18 16 17,ja 19 18,jg 20 1 19,jg 21 0 19,jg 22 5 19,yc 23 2 21 22 19,jl 24 1 23 19,ju 25 24 19,Mk 26 20 25 19,jj 27 19 26]
abbrev QFT:IL:=[yl 4]
abbrev QFU:IL:=[ja 10 5,jm 11 10 1,ja 5 11]
abbrev QFV:RC:=.seq (jQ QFR (jX 9 0)) (.seq (.block 1 (jQ QFS (.cond (.t 27) (jQ QFT (.ret)) (.skip)))) (.reg QFU))
abbrev QFW:IL:=[jh 4]
abbrev r78:RC:=jQ QFP (.seq (jQ QFQ (.block 0 (.loop QFV))) (jQ QFW (.ret)))
abbrev o78:List RR:=[.tmp 4]
theorem k78:CT 78 28 r78 o78:=ck Tryz.func78 Tryz.ntmps78 (by decide +kernel)
abbrev QFX:IL:=[jd 4 0]
abbrev QFY:IL:=[ja 6 0,ji 7 1 6,yq 8 7 8]
abbrev QFZ:IL:=[jd 4 3]
abbrev QF0:IL:=[jd 5 0]
abbrev QF1:IL:=[ja 9 5,ja 10 0,ji 11 1 10,jn 12 9 11]
abbrev QF2:IL:=[ja 15 0,ja 16 5,jk 17 8 15 16,jb 18 0 17,jc 19 18,jr 20 128 19,jq 21 20 0]
abbrev QF3:IL:=[jd 4 8]
abbrev QF4:IL:=[ja 22 0,ja 23 5,jk 24 8 22 23,jb 25 0 24,jc 26 25,ja 27 1,jy 28 129 26 27,jz 29 28]
abbrev QF5:IL:=[jd 4 1]
abbrev Qom:IL:=[ja 30 0,ja 31 5,jk 32 8 30 31,jf 33 8 32,jr 34 130 33,jz 35 34]
abbrev Qon:IL:=[jd 4 12]
abbrev Qoo:IL:=[ja 36 5,yq 37 36 0,ja 38 37,jg 39 0 38,jg 40 5 38,yc 41 8 39 40 38,jl 42 0 41 38,yp 43 42 38,jg 44 0 38,jg 45 5 38,DP 46 45 1 38,yc 47 8 44 46 38,jl 48 0 47 38,yp 49 48 38,⟨some 50,.val (.bin .str .lss (.t 43) (.t 49)),(some (38,true))⟩,jj 51 38 50]
abbrev Qop:IL:=[jd 4 11]
abbrev Qoq:IL:=[ja 52 5,yq 53 52 0,ja 54 53,jg 55 0 54,jg 56 5 54,yc 57 8 55 56 54,jl 58 0 57 54,yp 59 58 54,jg 60 0 54,jg 61 5 54,DP 62 61 1 54,yc 63 8 60 62 54,jl 64 0 63 54,yp 65 64 54,Md 66 59 65 54,jj 67 54 66]
abbrev Qor:IL:=[jd 4 9]
abbrev QF6:IL:=[ja 13 5,jm 14 13 1,ja 5 14]
abbrev QF7:RC:=.seq (jQ QF1 (jX 12 0)) (.seq (.block 1 (.seq (jQ QF2 (.cond (.t 21) (jQ QF3 (.ret)) (.skip))) (.seq (jQ QF4 (.cond (.t 29) (jQ QF5 (.ret)) (.skip))) (.seq (jQ Qom (.cond (.t 35) (jQ Qon (.ret)) (.skip))) (.seq (jD Qoo (.cond (.t 51) (jQ Qop (.ret)) (.skip))) (jD Qoq (.cond (.t 67) (jQ Qor (.ret)) (.skip)))))))) (.reg QF6))
abbrev Qos:IL:=[jd 4 0]
abbrev r79:RC:=jQ QFX (.seq (jQ QFY (.cond (.t 8) (jQ QFZ (.ret)) (.skip))) (.seq (jQ QF0 (.block 0 (.loop QF7))) (jQ Qos (.ret))))
abbrev o79:List RR:=[.tmp 4]
theorem k79:CT 79 68 r79 o79:=ck Tryz.func79 Tryz.ntmps79 (by decide +kernel)
abbrev QF8:IL:=[je 1 1 0,jh 2]
abbrev QF9:IL:=[jd 3 0]
abbrev QGa:IL:=[jd 4 0]
abbrev QGb:IL:=[ja 6 4,jb 7 1 1,jc 8 7,ji 9 1 8,jn 10 6 9]
abbrev QGc:IL:=[jb 13 1 1,jc 14 13,ja 15 4,jk 16 8 14 15,jb 17 7 16,jc 18 17,ja 5 18]
abbrev QGd:IL:=[ja 20 5,ja 21 3,zm 22 20 21,ja 19 22]
abbrev QGe:IL:=[ja 23 3,jm 24 23 1,ja 3 24]
abbrev QGf:IL:=[ja 26 5,yg 27 26 (-1),ja 28 27,jg 29 4 28,ym 30 29 0 28,jg 31 30 28,jp 32 1 1 31,jt 33 32 31,jv 34 4 31,⟨some 35,.val (.bin .num .sub (.t 34) (.c (.int .i64 1))),(some (31,false))⟩,yz 36 8 33 35 31,jp 37 7 36 31,jt 38 37 31,jv 39 5 31,U8 40 38 39 31,zf 41 31 40 28,jj 42 28 41,ja 25 42]
abbrev QGg:IL:=[jh 2]
abbrev QGh:IL:=[ja 11 4,jm 12 11 1,ja 4 12]
abbrev QGi:RC:=.seq (jQ QGb (jX 10 0)) (.seq (.block 1 (jQ QGc (.block 2 (jQ QGd (.cond (.t 19) (.reg QGe) (jQ QGf (.cond (.t 25) (jQ QGg (.ret)) (.skip)))))))) (.reg QGh))
abbrev Qot:IL:=[jb 43 2 1,jc 44 43,ja 45 3,zm 46 44 45,ja 2 46]
abbrev r80:RC:=jQ QF8 (jQ QF9 (.seq (jQ QGa (.block 0 (.loop QGi))) (jQ Qot (.ret))))
abbrev o80:List RR:=[.tmp 2]
theorem k80:CT 80 47 r80 o80:=ck Tryz.func80 Tryz.ntmps80 (by decide +kernel)
def SO:IL:=[je 2 2 0,je 3 3 1,jh 4]
def SP:IL:=[jb 6 2 3,jc 7 6,jr 8 131 7,jz 9 8,ja 10 9,jp 11 2 3 10,jt 12 11 10,yf 13 0 12 10,yk 14 13 4096 10,jo 15 10 14,ja 16 15,jp 17 3 3 16,jt 18 17 16,Nz 19 18 1 16,jo 20 16 19,ja 21 20,jp 22 3 3 21,jt 23 22 21,yk 24 23 5 21,jo 25 21 24,ja 26 25,jp 27 5 3 26,jt 28 27 26,Nz 29 28 1 26,jo 30 26 29,ja 31 30,jp 32 5 3 31,jt 33 32 31,yk 34 33 10 31,jo 35 31 34]
def SQ:IL:=[jh 4]
def SR:IL:=[jb 36 4 3,jc 37 36,yn 38 37 1,ja 39 38,jl 40 4 3 39,ju 41 40 39,yy 42 41 5 39,jj 43 39 42,ja 44 43,jp 45 4 3 44,jt 46 45 44,ys 47 46 7 44,jo 48 44 47,ja 5 48]
def SS:IL:=[jb 49 3 3,jc 50 49,yg 51 50 5]
def STw:IL:=[jb 52 4 3,jc 53 52,jq 54 53 0,ja 5 54]
def VP:IL:=[ja 55 5,ja 56 55,zk 57 2 2 56,zk 58 8 3 56,Gk 59 132 57 58 56,jj 60 56 59,ja 61 60,jl 62 7 3 61,ju 63 62 61,ym 64 63 (-1) 61,jg 65 64 61,jp 66 3 3 65,jt 67 66 65,ys 68 67 2 65,zf 69 65 68 61,jj 70 61 69,ja 4 70]
def r81:RC:=jQ SO (.seq (jQ SP (.cond (.t 35) (jQ SQ (.ret)) (.skip))) (jQ SR (.seq (jQ SS (.cond (.t 51) (.reg STw) (.skip))) (jQ VP (.ret)))))
def o81:List RR:=[.tmp 4]
theorem k81:CT 81 71 r81 o81:=ck Tryz.func81 Tryz.ntmps81 (by decide +kernel)
abbrev QGj:IL:=[jd 2 0]
abbrev QGk:IL:=[ja 5 0,⟨some 6,.val (.bin .num .and (.t 5) (.c (.int .u64 9218868437227405312))),none⟩,ja 7 0,⟨some 8,.val (.bin .num .and (.t 7) (.c (.int .u64 4503599627370495))),none⟩,ja 3 6,ja 4 8]
abbrev QGl:IL:=[ja 10 3,Gi 11 10 9218868437227405312,ja 12 11,jg 13 4 12,⟨some 14,.val (.bin .num .neq (.t 13) (.c (.int .u64 0))),(some (12,true))⟩,jj 15 12 14,ja 9 15]
abbrev QGm:IL:=[jd 2 0]
abbrev QGn:IL:=[ja 17 3,Gi 18 17 9218868437227405312,ja 16 18]
abbrev QGo:IL:=[jd 2 1]
abbrev QGp:IL:=[ja 20 3,Gi 21 20 0,ja 22 21,jg 23 4 22,Me 24 23 0 22,jj 25 22 24,ja 19 25]
abbrev QGq:IL:=[jd 2 2]
abbrev QGr:IL:=[ja 27 3,Gi 28 27 0,ja 26 28]
abbrev QGs:IL:=[jd 2 3]
abbrev Qou:IL:=[jd 2 4]
abbrev r82:RC:=jQ QGj (.seq (jQ QGk (.block 0 (jQ QGl (.cond (.t 9) (jQ QGm (.ret)) (jQ QGn (.cond (.t 16) (jQ QGo (.ret)) (jQ QGp (.cond (.t 19) (jQ QGq (.ret)) (jQ QGr (.cond (.t 26) (jQ QGs (.ret)) (.skip))))))))))) (jQ Qou (.ret)))
abbrev o82:List RR:=[.tmp 2]
theorem k82:CT 82 29 r82 o82:=ck Tryz.func82 Tryz.ntmps82 (by decide +kernel)
abbrev Qov:IL:=[je 2 2 0,je 3 3 1,jd 4 0]
abbrev Qow:IL:=[jb 5 0 2,jc 6 5,jb 7 0 3,jc 8 7,jy 9 102 6 8,ja 4 9]
abbrev QKU:RC:=jQ Qov (jQ Qow (.ret))
abbrev QKV:List RR:=[.tmp 4]
theorem QKW:CT 101 10 QKU QKV:=ck Tryz.func101 Tryz.ntmps101 (by decide +kernel)
abbrev Qox:IL:=[yi 2]
abbrev Qoy:IL:=[⟨some 5,.mk 5 5 1 1 [.int .u8 0] (.c (.int .i64 8)) (.c (.int .i64 8)),none⟩,ja 3 5]
abbrev Qoz:IL:=[ja 6 3,ji 7 1 6,jd 8 0]
abbrev QoA:IL:=[jn 9 8 7]
abbrev QoB:IL:=[ja 10 8,ja 4 10]
abbrev QoC:IL:=[ja 11 3,ja 12 4,ja 13 0,ja 14 4,Mh 15 8 14,⟨some 16,.val (.bin .num .shr (.t 13) (.t 15)),none⟩,DO 17 16,jk 18 1 11 12,js 1 18 17]
abbrev QoD:IL:=[jm 19 8 1,ja 8 19]
abbrev QoE:RC:=jQ QoA (.seq (jX 9 0) (.seq (.block 1 (jQ QoB (.reg QoC))) (.reg QoD)))
abbrev QoF:IL:=[ja 20 3,NH 21 20,ja 2 21]
abbrev QKX:RC:=jQ Qox (jQ Qoy (.seq (jQ Qoz (.block 0 (.loop QoE))) (jQ QoF (.ret))))
abbrev QKY:List RR:=[.tmp 2]
theorem QKZ:CT 106 22 QKX QKY:=ck Tryz.func106 Tryz.ntmps106 (by decide +kernel)
abbrev QoG:IL:=[je 4 4 0,je 5 5 1,jd 8 0]
abbrev QoH:IL:=[jd 9 0]
abbrev QoI:IL:=[ja 13 9,ja 14 2,ji 15 1 14,jn 16 13 15]
abbrev QoJ:IL:=[jw 19 0 4 2 4,jb 20 4 5,yb 21 0 5 20,ja 22 2,ja 23 9,jk 24 14 22 23,jb 25 0 24,ya 26 7 25,⟨some 27,.call (.f 190) [(.t 19),(.t 21),(.c (.int .i64 (-1))),(.t 26)],none⟩,ja 10 27]
abbrev QoK:IL:=[ja 28 10,yg 29 28 0]
abbrev QoL:IL:=[ja 30 10,ja 8 30]
abbrev QoM:IL:=[jd 11 0]
abbrev QoN:IL:=[ja 31 11,ja 32 9,jn 33 31 32]
abbrev E5:IL:=[ja 36 2,ja 37 11,jk 38 14 36 37,jb 39 0 38,ya 40 7 39,ja 41 2,ja 42 9,jk 43 14 41 42,jb 44 0 43,ya 45 7 44,jy 46 191 40 45]
abbrev E6:IL:=[jd 8 9]
abbrev QoO:IL:=[ja 34 11,jm 35 34 1,ja 11 35]
abbrev ME:RC:=.seq (jQ QoN (jX 33 2)) (.seq (.block 3 (jD E5 (.cond (.t 46) (jQ E6 (.ret)) (.skip)))) (.reg QoO))
abbrev E7:IL:=[jw 47 0 4 2 4,jw 48 0 5 8 5,ja 49 2,ja 50 9,jk 51 14 49 50,jb 52 7 51,ya 53 7 52,ja 54 3,zj 55 111 47 48 53 54,ja 12 55]
abbrev E8:IL:=[ja 56 12,yg 57 56 0]
abbrev E9:IL:=[ja 58 12,ja 8 58]
abbrev QoP:IL:=[ja 17 9,jm 18 17 1,ja 9 18]
abbrev QoQ:RC:=.seq (jQ QoI (jX 16 0)) (.seq (.block 1 (.seq (jD QoJ (jQ QoK (.cond (.t 29) (jQ QoL (.ret)) (.skip)))) (.seq (jQ QoM (.block 2 (.loop ME))) (jD E7 (jQ E8 (.cond (.t 57) (jQ E9 (.ret)) (.skip))))))) (.reg QoP))
abbrev Ia:IL:=[jd 8 0]
abbrev QK0:RC:=jQ QoG (.seq (jQ QoH (.block 0 (.loop QoQ))) (jQ Ia (.ret)))
abbrev QK1:List RR:=[.tmp 8]
theorem QK2:CT 110 59 QK0 QK1:=ck Tryz.func110 Tryz.ntmps110 (by decide +kernel)
abbrev QoR:IL:=[je 4 4 0,je 5 5 1,je 6 6 2,jd 8 0]
abbrev QoS:IL:=[jb 9 5 5,jc 10 9,jq 11 10 10]
abbrev QoT:IL:=[jf 12 2 4,jb 13 6 5,jc 14 13,jf 15 7 6,ja 16 3,jm 17 16 1,zj 18 31 12 14 15 17,ja 8 18]
abbrev QoU:IL:=[jf 19 2 4,jb 20 5 5,jc 21 20,jb 22 6 5,jc 23 22,jf 24 7 6,zj 25 190 19 21 23 24,ja 8 25]
abbrev QK3:RC:=jQ QoR (.seq (jQ QoS (.cond (.t 11) (jQ QoT (.ret)) (.skip))) (jQ QoU (.ret)))
abbrev QK4:List RR:=[.tmp 8]
theorem QK5:CT 111 26 QK3 QK4:=ck Tryz.func111 Tryz.ntmps111 (by decide +kernel)
abbrev QoV:IL:=[je 3 3 0,jh 6]
abbrev QoW:IL:=[ja 9 1,yo 10 9 0,ja 11 10,jv 12 1 11,jp 13 1 3 11,jt 14 13 11,yf 15 1 14 11,FQ 16 12 15 11,jo 17 11 16,ja 18 17,jv 19 2 18,⟨some 20,.val (.bin .num .gtr (.t 19) (.c (.int .u64 2147483647))),(some (18,false))⟩,jo 21 18 20]
abbrev QoX:IL:=[jh 6]
abbrev QoY:IL:=[jb 22 1 3,jc 23 22,ja 24 1,jk 25 5 23 24,jb 26 1 25,jc 27 26,ja 7 27]
abbrev QoZ:IL:=[jd 8 0]
abbrev Qo0:IL:=[ja 28 8,jb 29 1 3,jc 30 29,ja 31 1,jk 32 5 30 31,jb 33 2 32,jc 34 33,ji 35 1 34,jn 36 28 35]
abbrev Qo1:IL:=[ja 39 7,ja 40 39,jp 41 1 3 40,jt 42 41 40,jv 43 1 40,yz 44 5 42 43 40,jp 45 2 44 40,jt 46 45 40,jv 47 8 40,yz 48 3 46 47 40,jp 49 1 48 40,jt 50 49 40,jv 51 2 40,⟨some 52,.val (.cvi .i64 (.t 51)),(some (40,false))⟩,⟨some 53,.val (.bin .num .eql (.t 50) (.t 52)),(some (40,false))⟩,jo 54 40 53,ja 7 54]
abbrev Qo2:IL:=[ja 37 8,jm 38 37 1,ja 8 38]
abbrev Qo3:RC:=.seq (jQ Qo0 (jX 36 0)) (.seq (.block 1 (.reg Qo1)) (.reg Qo2))
abbrev Qo4:IL:=[ja 55 7,ja 6 55]
abbrev QK6:RC:=jQ QoV (.seq (jQ QoW (.cond (.t 21) (jQ QoX (.ret)) (.skip))) (jQ QoY (.seq (jQ QoZ (.block 0 (.loop Qo3))) (jQ Qo4 (.ret)))))
abbrev QK7:List RR:=[.tmp 6]
theorem QK8:CT 112 56 QK6 QK7:=ck Tryz.func112 Tryz.ntmps112 (by decide +kernel)
abbrev Qo5:IL:=[je 3 3 0,je 4 4 1,je 5 5 2,yu 6 6]
abbrev Qo6:IL:=[jb 7 5 4,jc 8 7,jq 9 8 10]
abbrev Qo7:IL:=[jf 10 2 3,jb 11 6 4,jc 12 11,jf 13 7 5,yd 14 35 10 12 13,js 7 6 14]
abbrev Qo8:IL:=[jf 15 7 5,jr 16 75 15,js 7 6 16]
abbrev QK9:RC:=jQ Qo5 (.seq (jQ Qo6 (.cond (.t 9) (jQ Qo7 (.ret)) (.skip))) (jQ Qo8 (.ret)))
abbrev QLa:List RR:=[.cell 6 (some 7)]
theorem Qo9:CT 113 17 QK9 QLa:=ck Tryz.func113 Tryz.ntmps113 (by decide +kernel)
abbrev Qpa:IL:=[ye 2]
abbrev Qpb:IL:=[ye 3]
abbrev Qpc:IL:=[jd 4 0]
abbrev Qpd:IL:=[ja 9 4,ja 10 0,ji 11 1 10,jn 12 9 11]
abbrev Qpe:IL:=[yl 5]
abbrev Qpf:IL:=[ja 15 4,jm 16 15 1,ja 6 16]
abbrev Qpg:IL:=[ja 17 6,ja 18 0,ji 19 1 18,jn 20 17 19]
abbrev Qph:IL:=[ja 23 5,ja 24 23,jg 25 0 24,jg 26 4 24,yc 27 14 25 26 24,jl 28 0 27 24,Gj 29 7 28 24,jg 30 0 24,jg 31 6 24,yc 32 14 30 31 24,jl 33 0 32 24,Gj 34 7 33 24,Gk 35 192 29 34 24,zv 36 35 0 24,jj 37 24 36,ja 5 37]
abbrev Qpi:IL:=[ja 21 6,jm 22 21 1,ja 6 22]
abbrev MF:RC:=.seq (jQ Qpg (jX 20 2)) (.seq (.block 3 (.draw Qph)) (.reg Qpi))
abbrev Ib:IL:=[ja 38 5]
abbrev Ic:IL:=[jd 7 0]
abbrev Id:IL:=[ja 39 7,ja 40 3,ji 41 1 40,jn 42 39 41,ja 43 42,jg 44 3 43,jg 45 7 43,yc 46 14 44 45 43,jl 47 0 46 43,Gj 48 7 47 43,jg 49 0 43,jg 50 4 43,yc 51 14 49 50 43,jl 52 0 51 43,Gj 53 7 52 43,Gk 54 192 48 53 43,⟨some 55,.val (.bin .num .lss (.t 54) (.c (.int .i64 0))),(some (43,true))⟩,jj 56 43 55]
abbrev Ie:IL:=[ja 57 7,jm 58 57 1,ja 7 58]
abbrev MG:RC:=.seq (jD Id (jX 56 4)) (.block 5 (.reg Ie))
abbrev Ig:IL:=[ja 59 0,ja 60 4,jk 61 14 59 60,ya 62 14 61,⟨some 63,.bslv 63 14 1 [.int .i64 0,.int .u64 0,.str [],.nils,.nils,.nils,.nils,.int .i64 0,.int .u64 0,.str [],.nils,.nils,.nils,.nils] [(0,14,(.t 62))],none⟩,ja 64 3,ja 65 7,⟨some 66,.val (.slcp (some 14) (.t 64) (some (.t 65)) none none),none⟩,yh 67 14 256 75 63 66,ja 8 67]
abbrev Ih:IL:=[⟨some 68,.bsl0 68 14,none⟩,ja 69 3,ja 70 7,FS 71 14 69 70,yh 72 14 256 75 68 71,ja 73 8,yh 74 14 256 75 72 73,ja 3 74]
abbrev Qpj:IL:=[ja 13 4,jm 14 13 1,ja 4 14]
abbrev Qpk:RC:=.seq (jQ Qpd (jX 12 0)) (.seq (.block 1 (jQ Qpe (.seq (jQ Qpf (.block 2 (.loop MF))) (jQ Ib (.cond (.t 38) (jQ Ic (.seq (.block 4 (.loop MG)) (jD Ig (.reg Ih)))) (.skip)))))) (.gho (.pub 3 68) (.reg Qpj)))
abbrev Ii:IL:=[ja 75 3,ja 2 75]
abbrev QLb:RC:=jQ Qpa (jQ Qpb (.gho (.lst 3) (.seq (jQ Qpc (.block 0 (.loop Qpk))) (jQ Ii (.ret)))))
abbrev QLc:List RR:=[.tmp 2]
theorem QLd:CT 114 76 QLb QLc:=ck Tryz.func114 Tryz.ntmps114 (by decide +kernel)
abbrev Qpl:IL:=[je 1 1 0,jh 2]
abbrev Qpm:IL:=[jb 3 0 1,jc 4 3,jr 5 193 4,ja 6 5,jl 7 1 1 6,ju 8 7 6,Me 9 8 0 6,jj 10 6 9,ja 11 10,jl 12 2 1 11,ju 13 12 11,⟨some 14,.val (.bin .str .eql (.t 13) (.c (.str []))),(some (11,true))⟩,jj 15 11 14,ja 16 15,zk 17 7 1 16,zh 18 194 17 16,jj 19 16 18,ja 2 19]
abbrev QLe:RC:=jQ Qpl (jQ Qpm (.ret))
abbrev QLf:List RR:=[.tmp 2]
theorem QLg:CT 115 20 QLe QLf:=ck Tryz.func115 Tryz.ntmps115 (by decide +kernel)
abbrev Qpn:IL:=[je 3 3 0,je 4 4 1,je 5 5 2,ye 6]
abbrev Qpo:IL:=[ye 7]
abbrev Qpp:IL:=[jb 11 4 5,jc 12 11,ji 13 1 12,jd 14 0]
abbrev Qpq:IL:=[jn 15 14 13]
abbrev Qpr:IL:=[jk 16 14 12 14,jf 17 14 16,R6 9 9,js 14 9 17]
abbrev Qps:IL:=[jb 18 0 9,jw 19 0 9 7 18,jr 20 25 19,⟨some 21,.call (.f 196) [(.c (.int .i64 1)),(.t 20)],none⟩,jw 22 0 3 2 3,jw 23 0 4 8 4,jb 24 7 9,jw 25 0 9 7 24,yd 26 197 22 23 25,⟨some 27,.call (.f 196) [(.c (.int .i64 2)),(.t 26)],none⟩,⟨some 28,.bsl 4 2 [.int .i64 0,.int .i64 0,.int .u64 0,.str []] [(0,4,(.t 21)),(4,4,(.t 27))],none⟩,ja 10 28]
abbrev Qpt:IL:=[ja 29 7,jb 30 0 4,yb 31 0 4 30,ja 32 10,jr 33 58 32,⟨some 34,.val (.build [.int .i64 0,.int .i64 0,.int .u64 0,.str []] [(0,1,(.t 31)),(1,1,(.c (.int .i64 6))),(3,1,(.t 33))]),none⟩,zw 35 4 1 0 4 34,yh 36 4 40 52 29 35,ja 7 36]
abbrev Qpu:IL:=[jm 37 14 1,ja 14 37]
abbrev Qpv:RC:=.gho (.drop 9) (jQ Qpq (.seq (jX 15 0) (.seq (.block 1 (jQ Qpr (jD Qps (.draw Qpt)))) (.reg Qpu))))
abbrev Qpw:IL:=[ja 38 7,ja 6 38]
abbrev QLh:RC:=jQ Qpn (jQ Qpo (.gho (.vec 7 7 4) (.seq (jQ Qpp (.block 0 (.loop Qpv))) (jQ Qpw (.ret)))))
abbrev QLi:List RR:=[.tmp 6]
theorem QLj:CT 118 39 QLh QLi:=ck Tryz.func118 Tryz.ntmps118 (by decide +kernel)
abbrev Qpx:IL:=[je 3 3 0,je 4 4 1,je 5 5 2,ye 6]
abbrev Qpy:IL:=[ye 7]
abbrev Qpz:IL:=[jb 10 3 5,jc 11 10,ji 12 1 11,jd 13 0]
abbrev QpA:IL:=[jn 14 13 12]
abbrev QpB:IL:=[jk 15 7 11 13,jf 16 7 15,yu 9 9,js 7 9 16]
abbrev QpC:IL:=[ja 17 7,jb 18 0 4,yb 19 0 4 18,jw 20 0 3 2 3,jw 21 0 4 8 4,jw 22 0 9 7 9,yd 23 197 20 21 22,jy 24 196 19 23,zw 25 4 1 0 4 24,yh 26 4 40 52 17 25,ja 7 26]
abbrev QpD:IL:=[jm 27 13 1,ja 13 27]
abbrev QpE:RC:=.gho (.drop 9) (jQ QpA (.seq (jX 14 0) (.seq (.block 1 (jQ QpB (.draw QpC))) (.reg QpD))))
abbrev QpF:IL:=[ja 28 7,ja 6 28]
abbrev QLk:RC:=jQ Qpx (jQ Qpy (.gho (.vec 7 7 4) (.seq (jQ Qpz (.block 0 (.loop QpE))) (jQ QpF (.ret)))))
abbrev QLl:List RR:=[.tmp 6]
theorem QLm:CT 121 29 QLk QLl:=ck Tryz.func121 Tryz.ntmps121 (by decide +kernel)
abbrev QpG:IL:=[jd 2 0]
abbrev QpH:IL:=[ja 4 0,⟨some 5,.val (.bin .num .rem (.t 4) (.c (.int .u64 9223372036854775808))),none⟩,ja 3 5]
abbrev QpI:IL:=[ja 7 3,⟨some 8,.val (.bin .num .gtr (.t 7) (.c (.int .u64 9218868437227405312))),none⟩,ja 6 8]
abbrev QpJ:IL:=[jd 2 0]
abbrev QpK:IL:=[ja 10 3,Gi 11 10 9218868437227405312,ja 9 11]
abbrev QpL:IL:=[jd 2 1]
abbrev QpM:IL:=[ja 13 3,Gi 14 13 0,ja 12 14]
abbrev QpN:IL:=[jd 2 2]
abbrev QpO:IL:=[ja 16 3,⟨some 17,.val (.bin .num .lss (.t 16) (.c (.int .u64 4503599627370496))),none⟩,ja 15 17]
abbrev QpP:IL:=[jd 2 3]
abbrev Ij:IL:=[jd 2 4]
abbrev QLn:RC:=jQ QpG (jQ QpH (.seq (.block 0 (jQ QpI (.cond (.t 6) (jQ QpJ (.ret)) (jQ QpK (.cond (.t 9) (jQ QpL (.ret)) (jQ QpM (.cond (.t 12) (jQ QpN (.ret)) (jQ QpO (.cond (.t 15) (jQ QpP (.ret)) (.skip)))))))))) (jQ Ij (.ret))))
abbrev QLo:List RR:=[.tmp 2]
theorem QpQ:CT 123 18 QLn QLo:=ck Tryz.func123 Tryz.ntmps123 (by decide +kernel)
abbrev QpR:IL:=[jh 2]
abbrev QpS:IL:=[ja 5 0,ji 6 0 5,yq 7 6 120]
abbrev QpT:IL:=[jh 2]
abbrev QpU:IL:=[yi 3]
abbrev QpV:IL:=[jd 4 0]
abbrev QpW:IL:=[ja 8 4,ja 9 0,ji 10 0 9,jn 11 8 10]
abbrev QpX:IL:=[ja 14 0,ja 15 4,NJ 16 14 15,⟨some 17,.val (.bin .num .neq (.t 16) (.c (.int .u8 46))),none⟩]
abbrev QpY:IL:=[ja 18 3,ja 19 0,ja 20 4,ja 21 4,jm 22 21 1,⟨some 23,.val (.slc none (.t 19) (some (.t 20)) (some (.t 22)) none),none⟩,DQ 24 18 23,ja 3 24]
abbrev QpZ:IL:=[ja 25 3,jr 26 127 25,jz 27 26]
abbrev Ik:IL:=[jh 2]
abbrev Il:IL:=[yi 3]
abbrev Qp0:IL:=[ja 12 4,jm 13 12 1,ja 4 13]
abbrev Qp1:RC:=.seq (jQ QpW (jX 11 0)) (.seq (.block 1 (.seq (jQ QpX (.cond (.t 17) (jQ QpY (.exit 1)) (.skip))) (.seq (jQ QpZ (.cond (.t 27) (jQ Ik (.ret)) (.skip))) (.reg Il)))) (.reg Qp0))
abbrev Im:IL:=[ja 28 3,jr 29 127 28,ja 2 29]
abbrev QLp:RC:=jQ QpR (.seq (jQ QpS (.cond (.t 7) (jQ QpT (.ret)) (.skip))) (jQ QpU (.seq (jQ QpV (.block 0 (.loop Qp1))) (jQ Im (.ret)))))
abbrev QLq:List RR:=[.tmp 2]
theorem QLr:CT 124 30 QLp QLq:=ck Tryz.func124 Tryz.ntmps124 (by decide +kernel)
abbrev Qp2:IL:=[yi 2,yi 3]
abbrev Qp3:IL:=[ja 5 0,ji 6 0 5,za 7 6 1,ja 4 7]
abbrev Qp4:IL:=[ja 8 4,yn 9 8 0]
abbrev Qp5:IL:=[ja 12 0,ja 13 4,NJ 14 12 13,Ml 15 14 46]
abbrev Qp6:IL:=[ja 16 0,ja 17 4,⟨some 18,.val (.slc none (.t 16) none (some (.t 17)) none),none⟩,ja 19 0,ja 20 4,jm 21 20 1,Mi 22 19 21,ja 2 18,ja 3 22]
abbrev Qp7:IL:=[ja 10 4,za 11 10 1,ja 4 11]
abbrev Qp8:RC:=.seq (jQ Qp4 (jX 9 0)) (.seq (.block 1 (jQ Qp5 (.cond (.t 15) (jD Qp6 (.ret)) (.skip)))) (.reg Qp7))
abbrev Qp9:IL:=[ja 23 0,yi 2,ja 3 23]
abbrev QLs:RC:=jQ Qp2 (.seq (jQ Qp3 (.block 0 (.loop Qp8))) (jQ Qp9 (.ret)))
abbrev QLt:List RR:=[.tmp 2,.tmp 3]
theorem QLu:CT 125 24 QLs QLt:=ck Tryz.func125 Tryz.ntmps125 (by decide +kernel)
abbrev Qqa:IL:=[jh 2]
abbrev Qqb:IL:=[ja 3 0]
abbrev Qqc:IL:=[⟨some 5,.val (.bin .str .eql (.t 3) (.c (.str [109,101,115,115,97,103,101]))),none⟩,ja 4 5]
abbrev Qqd:IL:=[⟨some 6,.val (.bin .str .eql (.t 3) (.c (.str [101,110,117,109]))),none⟩,ja 4 6]
abbrev Qqe:IL:=[⟨some 7,.val (.bin .str .eql (.t 3) (.c (.str [115,101,114,118,105,99,101]))),none⟩,ja 4 7]
abbrev Qqf:IL:=[⟨some 8,.val (.bin .str .eql (.t 3) (.c (.str [117,110,105,111,110]))),none⟩,ja 4 8]
abbrev Qqg:IL:=[⟨some 9,.val (.bin .str .eql (.t 3) (.c (.str [109,97,112]))),none⟩,ja 4 9]
abbrev Qqh:IL:=[⟨some 10,.val (.bin .str .eql (.t 3) (.c (.str [108,105,115,116]))),none⟩,ja 4 10]
abbrev Qqi:IL:=[⟨some 11,.val (.bin .str .eql (.t 3) (.c (.str [114,101,113,117,105,114,101,100]))),none⟩,ja 4 11]
abbrev Qqj:IL:=[⟨some 12,.val (.bin .str .eql (.t 3) (.c (.str [111,112,116,105,111,110,97,108]))),none⟩,ja 4 12]
abbrev Io:IL:=[⟨some 13,.val (.bin .str .eql (.t 3) (.c (.str [112,108,97,105,110]))),none⟩,ja 4 13]
abbrev Ip:IL:=[⟨some 14,.val (.bin .str .eql (.t 3) (.c (.str [100,101,102,97,117,108,116]))),none⟩,ja 4 14]
abbrev Iq:IL:=[⟨some 15,.val (.bin .str .eql (.t 3) (.c (.str [114,101,115,101,114,118,101,100]))),none⟩,ja 4 15]
abbrev Ir:IL:=[⟨some 16,.val (.bin .str .eql (.t 3) (.c (.str [105,109,112,111,114,116]))),none⟩,ja 4 16]
abbrev Is:IL:=[⟨some 17,.val (.bin .str .eql (.t 3) (.c (.str [115,112,97,99,101]))),none⟩,ja 4 17]
abbrev It:IL:=[⟨some 18,.val (.bin .str .eql (.t 3) (.c (.str [114,112,99]))),none⟩,ja 4 18]
abbrev Iu:IL:=[⟨some 19,.val (.bin .str .eql (.t 3) (.c (.str [115,116,114,101,97,109]))),none⟩,ja 4 19]
abbrev Iv:IL:=[⟨some 20,.val (.bin .str .eql (.t 3) (.c (.str [114,101,116,117,114,110,115]))),none⟩,ja 4 20]
abbrev Iw:IL:=[⟨some 21,.val (.bin .str .eql (.t 3) (.c (.str [111,112,101,110]))),none⟩,ja 4 21]
abbrev Ix:IL:=[⟨some 22,.val (.bin .str .eql (.t 3) (.c (.str [116,114,117,101]))),none⟩,ja 4 22]
abbrev Iy:IL:=[⟨some 23,.val (.bin .str .eql (.t 3) (.c (.str [102,97,108,115,101]))),none⟩,ja 4 23]
abbrev Iz:IL:=[⟨some 24,.val (.bin .str .eql (.t 3) (.c (.str [110,97,110]))),none⟩,ja 4 24]
abbrev IA:IL:=[⟨some 25,.val (.bin .str .eql (.t 3) (.c (.str [105,110,102]))),none⟩,ja 4 25]
abbrev IB:IL:=[yl 2]
abbrev IC:IL:=[jh 2]
abbrev QLv:RC:=jQ Qqa (.seq (jQ Qqb (.block 0 (.seq (jQ Qqc (.cond (.t 4) (.skip) (jQ Qqd (.cond (.t 4) (.skip) (jQ Qqe (.cond (.t 4) (.skip) (jQ Qqf (.cond (.t 4) (.skip) (jQ Qqg (.cond (.t 4) (.skip) (jQ Qqh (.cond (.t 4) (.skip) (jQ Qqi (.cond (.t 4) (.skip) (jQ Qqj (.cond (.t 4) (.skip) (jQ Io (.cond (.t 4) (.skip) (jQ Ip (.cond (.t 4) (.skip) (jQ Iq (.cond (.t 4) (.skip) (jQ Ir (.cond (.t 4) (.skip) (jQ Is (.cond (.t 4) (.skip) (jQ It (.cond (.t 4) (.skip) (jQ Iu (.cond (.t 4) (.skip) (jQ Iv (.cond (.t 4) (.skip) (jQ Iw (.cond (.t 4) (.skip) (jQ Ix (.cond (.t 4) (.skip) (jQ Iy (.cond (.t 4) (.skip) (jQ Iz (.cond (.t 4) (.skip) (.reg IA))))))))))))))))))))))))))))))))))))))))) (.cond (.t 4) (jQ IB (.ret)) (.skip))))) (jQ IC (.ret)))
abbrev QLw:List RR:=[.tmp 2]
theorem QLx:CT 126 26 QLv QLw:=ck Tryz.func126 Tryz.ntmps126 (by decide +kernel)
abbrev Qqk:IL:=[jh 2]
abbrev Qql:IL:=[ja 4 0,ji 5 0 4,jq 6 5 0,ja 7 6,jv 8 0 7,yf 9 0 8 7,yk 10 9 40 7,jo 11 7 10,ja 12 11,jv 13 0 12,⟨some 14,.val (.idx (.t 13) (.c (.int .i64 0))),(some (12,false))⟩,zi 15 199 14 12,ze 16 15 12,jv 17 16 12,jg 18 0 17,⟨some 19,.val (.idx (.t 18) (.c (.int .i64 0))),(some (17,true))⟩,zh 20 200 19 17,yx 21 20 17,yw 22 17 21 12,jo 23 12 22]
abbrev Qqm:IL:=[jh 2]
abbrev Qqn:IL:=[jd 3 1]
abbrev Qqo:IL:=[ja 24 3,ja 25 0,ji 26 0 25,jn 27 24 26]
abbrev Qqp:IL:=[ja 30 0,ja 31 3,NJ 32 30 31,jr 33 199 32,jz 34 33,ja 35 34,jg 36 0 35,jg 37 3 35,Mm 38 36 37 35,zh 39 200 38 35,yx 40 39 35,jj 41 35 40,ja 42 41,jg 43 0 42,jg 44 3 42,Mm 45 43 44 42,⟨some 46,.val (.bin .num .neq (.t 45) (.c (.int .u8 95))),(some (42,true))⟩,jj 47 42 46,ja 48 47,jg 49 0 48,jg 50 3 48,Mm 51 49 50 48,⟨some 52,.val (.bin .num .lss (.t 51) (.c (.int .u8 48))),(some (48,true))⟩,jg 53 52 48,jv 54 0 53,jv 55 3 53,⟨some 56,.val (.idx (.t 54) (.t 55)),(some (53,false))⟩,⟨some 57,.val (.bin .num .gtr (.t 56) (.c (.int .u8 57))),(some (53,false))⟩,zf 58 53 57 48,jj 59 48 58]
abbrev Qqq:IL:=[jh 2]
abbrev Qqr:IL:=[ja 28 3,jm 29 28 1,ja 3 29]
abbrev MH:RC:=.seq (jQ Qqo (jX 27 0)) (.seq (.block 1 (jQ Qqp (.cond (.t 59) (jQ Qqq (.ret)) (.skip)))) (.reg Qqr))
abbrev Qqs:IL:=[yl 2]
abbrev QLy:RC:=jQ Qqk (.seq (jQ Qql (.cond (.t 23) (jQ Qqm (.ret)) (.skip))) (.seq (jQ Qqn (.block 0 (.loop MH))) (jQ Qqs (.ret))))
abbrev QLz:List RR:=[.tmp 2]
theorem QLA:CT 127 60 QLy QLz:=ck Tryz.func127 Tryz.ntmps127 (by decide +kernel)
abbrev Qqt:IL:=[jd 2 0]
abbrev Qqu:IL:=[ja 3 0]
abbrev Qqv:IL:=[⟨some 5,.val (.bin .str .eql (.t 3) (.c (.str [100,101,112,114,101,99,97,116,101,100]))),none⟩,ja 4 5]
abbrev Qqw:IL:=[⟨some 6,.val (.bin .str .eql (.t 3) (.c (.str [115,101,99,114,101,116]))),none⟩,ja 4 6]
abbrev Qqx:IL:=[⟨some 7,.val (.bin .str .eql (.t 3) (.c (.str [105,100,101,109,112,111,116,101,110,116]))),none⟩,ja 4 7]
abbrev Qqy:IL:=[jd 2 1]
abbrev Qqz:IL:=[⟨some 9,.val (.bin .str .eql (.t 3) (.c (.str [100,111,99]))),none⟩,ja 8 9]
abbrev QqA:IL:=[⟨some 10,.val (.bin .str .eql (.t 3) (.c (.str [97,108,105,97,115]))),none⟩,ja 8 10]
abbrev QqB:IL:=[⟨some 11,.val (.bin .str .eql (.t 3) (.c (.str [114,111,117,116,101]))),none⟩,ja 8 11]
abbrev QqC:IL:=[⟨some 12,.val (.bin .str .eql (.t 3) (.c (.str [111,119,110,101,114]))),none⟩,ja 8 12]
abbrev ID:IL:=[jd 2 7]
abbrev IE:IL:=[⟨some 14,.val (.bin .str .eql (.t 3) (.c (.str [115,105,110,99,101]))),none⟩,ja 13 14]
abbrev IF:IL:=[⟨some 15,.val (.bin .str .eql (.t 3) (.c (.str [117,110,116,105,108]))),none⟩,ja 13 15]
abbrev IG:IL:=[⟨some 16,.val (.bin .str .eql (.t 3) (.c (.str [108,101,110,103,116,104]))),none⟩,ja 13 16]
abbrev IH:IL:=[⟨some 17,.val (.bin .str .eql (.t 3) (.c (.str [116,105,109,101,111,117,116]))),none⟩,ja 13 17]
abbrev II:IL:=[jd 2 4]
abbrev IJ:IL:=[⟨some 19,.val (.bin .str .eql (.t 3) (.c (.str [109,105,110]))),none⟩,ja 18 19]
abbrev IK:IL:=[⟨some 20,.val (.bin .str .eql (.t 3) (.c (.str [109,97,120]))),none⟩,ja 18 20]
abbrev IM:IL:=[jd 2 3]
abbrev IN:IL:=[jd 2 0]
abbrev QLB:RC:=jQ Qqt (.seq (jQ Qqu (.block 0 (.seq (jQ Qqv (.cond (.t 4) (.skip) (jQ Qqw (.cond (.t 4) (.skip) (.reg Qqx))))) (.cond (.t 4) (jQ Qqy (.ret)) (.seq (jQ Qqz (.cond (.t 8) (.skip) (jQ QqA (.cond (.t 8) (.skip) (jQ QqB (.cond (.t 8) (.skip) (.reg QqC))))))) (.cond (.t 8) (jQ ID (.ret)) (.seq (jQ IE (.cond (.t 13) (.skip) (jQ IF (.cond (.t 13) (.skip) (jQ IG (.cond (.t 13) (.skip) (.reg IH))))))) (.cond (.t 13) (jQ II (.ret)) (.seq (jQ IJ (.cond (.t 18) (.skip) (.reg IK))) (.cond (.t 18) (jQ IM (.ret)) (.skip))))))))))) (jQ IN (.ret)))
abbrev QLC:List RR:=[.tmp 2]
theorem QLD:CT 128 21 QLB QLC:=ck Tryz.func128 Tryz.ntmps128 (by decide +kernel)
abbrev QqD:IL:=[jh 4]
abbrev QqE:IL:=[ja 5 0]
abbrev QqF:IL:=[⟨some 7,.val (.bin .str .eql (.t 5) (.c (.str [100,101,112,114,101,99,97,116,101,100]))),none⟩,ja 6 7]
abbrev QqG:IL:=[⟨some 8,.val (.bin .str .eql (.t 5) (.c (.str [100,111,99]))),none⟩,ja 6 8]
abbrev QqH:IL:=[ja 9 1,yn 10 9 1,ja 11 10,jg 12 1 11,yy 13 12 6 11,jj 14 11 13,ja 4 14]
abbrev QqI:IL:=[⟨some 16,.val (.bin .str .eql (.t 5) (.c (.str [97,108,105,97,115]))),none⟩,ja 15 16]
abbrev QqJ:IL:=[⟨some 17,.val (.bin .str .eql (.t 5) (.c (.str [115,105,110,99,101]))),none⟩,ja 15 17]
abbrev QqK:IL:=[⟨some 18,.val (.bin .str .eql (.t 5) (.c (.str [117,110,116,105,108]))),none⟩,ja 15 18]
abbrev QqL:IL:=[ja 19 1,jq 20 19 2,ja 21 20,jv 22 1 21,ys 23 22 4 21,jo 24 21 23,ja 25 24,jv 26 1 25,ys 27 26 6 25,jo 28 25 27,ja 4 28]
abbrev QqM:IL:=[⟨some 30,.val (.bin .str .eql (.t 5) (.c (.str [109,105,110]))),none⟩,ja 29 30]
abbrev IP:IL:=[⟨some 31,.val (.bin .str .eql (.t 5) (.c (.str [109,97,120]))),none⟩,ja 29 31]
abbrev IQ:IL:=[⟨some 32,.val (.bin .str .eql (.t 5) (.c (.str [108,101,110,103,116,104]))),none⟩,ja 29 32]
abbrev IR:IL:=[⟨some 33,.val (.bin .str .eql (.t 5) (.c (.str [115,101,99,114,101,116]))),none⟩,ja 29 33]
abbrev IS:IL:=[ja 34 1,jq 35 34 2,ja 4 35]
abbrev IU:IL:=[⟨some 37,.val (.bin .str .eql (.t 5) (.c (.str [105,100,101,109,112,111,116,101,110,116]))),none⟩,ja 36 37]
abbrev IV:IL:=[⟨some 38,.val (.bin .str .eql (.t 5) (.c (.str [116,105,109,101,111,117,116]))),none⟩,ja 36 38]
abbrev IW:IL:=[⟨some 39,.val (.bin .str .eql (.t 5) (.c (.str [114,111,117,116,101]))),none⟩,ja 36 39]
abbrev IX:IL:=[ja 40 1,jq 41 40 6,ja 4 41]
abbrev IY:IL:=[ja 42 1,jq 43 42 1,ja 44 43,jv 45 1 44,ys 46 45 5 44,jo 47 44 46,ja 4 47]
abbrev QLE:RC:=jQ QqD (.seq (jQ QqE (.block 0 (.seq (jQ QqF (.cond (.t 6) (.skip) (.reg QqG))) (.cond (.t 6) (jQ QqH (.ret)) (.seq (jQ QqI (.cond (.t 15) (.skip) (jQ QqJ (.cond (.t 15) (.skip) (.reg QqK))))) (.cond (.t 15) (jQ QqL (.ret)) (.seq (jQ QqM (.cond (.t 29) (.skip) (jQ IP (.cond (.t 29) (.skip) (jQ IQ (.cond (.t 29) (.skip) (.reg IR))))))) (.cond (.t 29) (jQ IS (.ret)) (.seq (jQ IU (.cond (.t 36) (.skip) (jQ IV (.cond (.t 36) (.skip) (.reg IW))))) (.cond (.t 36) (jQ IX (.ret)) (.skip))))))))))) (jQ IY (.ret)))
abbrev QLF:List RR:=[.tmp 4]
theorem QLG:CT 129 48 QLE QLF:=ck Tryz.func129 Tryz.ntmps129 (by decide +kernel)
abbrev QqN:IL:=[je 1 1 0,jh 2]
abbrev QqO:IL:=[jb 4 0 1,jc 5 4,jr 6 128 5,ja 3 6]
abbrev QqP:IL:=[ja 7 3,yg 8 7 0,ja 9 8,jl 10 1 1 9,jl 11 0 10 9,ju 12 11 9,jg 13 3 9,Mg 14 12 13 9,jj 15 9 14,ja 16 15,jg 17 3 16,jl 18 1 1 16,zk 19 7 18 16,Gk 20 201 17 19 16,jj 21 16 20,ja 2 21]
abbrev QLH:RC:=jQ QqN (jQ QqO (jQ QqP (.ret)))
abbrev QLI:List RR:=[.tmp 2]
theorem QLJ:CT 130 22 QLH QLI:=ck Tryz.func130 Tryz.ntmps130 (by decide +kernel)
abbrev QqQ:IL:=[jh 2]
abbrev QqR:IL:=[ja 3 0,jr 4 202 3,yo 5 4 0,ja 2 5]
abbrev QLK:RC:=jQ QqQ (jQ QqR (.ret))
abbrev QLL:List RR:=[.tmp 2]
theorem QLM:CT 131 6 QLK QLL:=ck Tryz.func131 Tryz.ntmps131 (by decide +kernel)
abbrev QqS:IL:=[je 2 2 0,je 3 3 1,jh 4]
abbrev QqT:IL:=[jb 5 5 3,jc 6 5]
abbrev QqU:IL:=[jq 8 6 10,ja 7 8]
abbrev QqV:IL:=[jb 9 6 3,jc 10 9,yn 11 10 0,ja 12 11,jl 13 6 3 12,ju 14 13 12,jl 15 0 2 12,ju 16 15 12,yt 17 1 16 12,zu 18 14 17 12,jj 19 12 18,ja 20 19,jl 21 3 3 20,ju 22 21 20,zv 23 22 3 20,jj 24 20 23,ja 4 24]
abbrev QqW:IL:=[jq 26 6 9,ja 25 26]
abbrev QqX:IL:=[jb 27 6 3,jc 28 27,yn 29 28 0,ja 30 29,jl 31 6 3 30,ju 32 31 30,jl 33 1 2 30,ju 34 33 30,yt 35 1 34 30,zu 36 32 35 30,jj 37 30 36,ja 4 37]
abbrev QqY:IL:=[jb 38 6 3,jc 39 38,jq 40 39 (-1),ja 4 40]
abbrev QLN:RC:=jQ QqS (.seq (jQ QqT (.block 0 (jQ QqU (.cond (.t 7) (jQ QqV (.ret)) (jQ QqW (.cond (.t 25) (jQ QqX (.ret)) (.skip))))))) (jQ QqY (.ret)))
abbrev QLO:List RR:=[.tmp 4]
theorem QLP:CT 132 41 QLN QLO:=ck Tryz.func132 Tryz.ntmps132 (by decide +kernel)
abbrev QqZ:IL:=[je 1 1 0,jh 2]
abbrev Qq0:IL:=[jb 3 2 1,jc 4 3,ji 5 1 4,yo 6 5 1,ja 7 6,jp 8 2 1 7,jt 9 8 7,yf 10 1 9 7,yk 11 10 64 7,jo 12 7 11,ja 13 12,jp 14 3 1 13,jt 15 14 13,yf 16 1 15 13,yk 17 16 16 13,jo 18 13 17,ja 2 18]
abbrev QLQ:RC:=jQ QqZ (jQ Qq0 (.ret))
abbrev QLR:List RR:=[.tmp 2]
theorem QLS:CT 136 19 QLQ QLR:=ck Tryz.func136 Tryz.ntmps136 (by decide +kernel)
abbrev Qq1:IL:=[je 1 1 0,jh 2]
abbrev Qq2:IL:=[jb 3 0 1,jc 4 3,jr 5 138 4,jz 6 5,ja 7 6,jp 8 2 1 7,jt 9 8 7,zq 10 143 9 144 7,jo 11 7 10,ja 2 11]
abbrev QLT:RC:=jQ Qq1 (jQ Qq2 (.ret))
abbrev QLU:List RR:=[.tmp 2]
theorem QLV:CT 142 12 QLT QLU:=ck Tryz.func142 Tryz.ntmps142 (by decide +kernel)
abbrev Qq3:IL:=[jh 4]
abbrev Qq4:IL:=[ja 5 0,ja 6 1,yr 7 211 5 6,ja 4 7]
abbrev QLW:RC:=jQ Qq3 (jQ Qq4 (.ret))
abbrev QLX:List RR:=[.tmp 4]
theorem QLY:CT 143 8 QLW QLX:=ck Tryz.func143 Tryz.ntmps143 (by decide +kernel)
abbrev Qq5:IL:=[je 1 1 0,jh 2]
abbrev Qq6:IL:=[jb 3 0 1,jc 4 3,jr 5 141 4,jz 6 5,ja 2 6]
abbrev QLZ:RC:=jQ Qq5 (jQ Qq6 (.ret))
abbrev QL0:List RR:=[.tmp 2]
theorem QL1:CT 144 7 QLZ QL0:=ck Tryz.func144 Tryz.ntmps144 (by decide +kernel)
abbrev Qq7:IL:=[je 2 2 0,je 3 3 1,jh 4]
abbrev Qq8:IL:=[jb 5 0 2,jc 6 5,jb 7 0 3,jc 8 7,⟨some 9,.val (.bin .str .lss (.t 6) (.t 8)),none⟩,ja 4 9]
abbrev QL2:RC:=jQ Qq7 (jQ Qq8 (.ret))
abbrev QL3:List RR:=[.tmp 4]
theorem QL4:CT 146 10 QL2 QL3:=ck Tryz.func146 Tryz.ntmps146 (by decide +kernel)
abbrev Qq9:IL:=[je 2 2 0,je 3 3 1,jh 4]
abbrev Qra:IL:=[jb 5 0 2,jc 6 5,jb 7 0 3,jc 8 7,⟨some 9,.val (.bin .str .lss (.t 6) (.t 8)),none⟩,ja 4 9]
abbrev QL5:RC:=jQ Qq9 (jQ Qra (.ret))
abbrev QL6:List RR:=[.tmp 4]
theorem QL7:CT 148 10 QL5 QL6:=ck Tryz.func148 Tryz.ntmps148 (by decide +kernel)
abbrev Qrb:IL:=[je 1 1 0,jh 2]
abbrev Qrc:IL:=[jb 3 2 1,jc 4 3,U7 5 153 4 154,jz 6 5,ja 2 6]
abbrev QL8:RC:=jQ Qrb (jQ Qrc (.ret))
abbrev QL9:List RR:=[.tmp 2]
theorem QMa:CT 152 7 QL8 QL9:=ck Tryz.func152 Tryz.ntmps152 (by decide +kernel)
abbrev Qrd:IL:=[jh 4]
abbrev Qre:IL:=[jd 5 1]
abbrev Qrf:IL:=[ja 6 5,ja 7 0,ji 8 1 7,jn 9 6 8]
abbrev Qrg:IL:=[ja 12 1,ja 13 0,ja 14 5,za 15 14 1,jk 16 3 13 15,ya 17 3 16,ja 18 0,ja 19 5,jk 20 3 18 19,ya 21 3 20,⟨some 22,.callF (.t 12) [(.t 17),(.t 21)],none⟩,jz 23 22]
abbrev Qrh:IL:=[jh 4]
abbrev Qri:IL:=[ja 10 5,jm 11 10 1,ja 5 11]
abbrev Qrj:RC:=.seq (jQ Qrf (jX 9 0)) (.seq (.block 1 (jD Qrg (.cond (.t 23) (jQ Qrh (.ret)) (.skip)))) (.reg Qri))
abbrev Qrk:IL:=[yl 4]
abbrev QMb:RC:=jQ Qrd (.seq (jQ Qre (.block 0 (.loop Qrj))) (jQ Qrk (.ret)))
abbrev QMc:List RR:=[.tmp 4]
theorem QMd:CT 153 24 QMb QMc:=ck Tryz.func153 Tryz.ntmps153 (by decide +kernel)
abbrev Qrl:IL:=[je 2 2 0,je 3 3 1,jh 4]
abbrev Qrm:IL:=[jb 5 1 2,jc 6 5,jb 7 1 3,jc 8 7,jn 9 6 8,ja 4 9]
abbrev QMe:RC:=jQ Qrl (jQ Qrm (.ret))
abbrev QMf:List RR:=[.tmp 4]
theorem QMg:CT 154 10 QMe QMf:=ck Tryz.func154 Tryz.ntmps154 (by decide +kernel)
abbrev Qrn:IL:=[je 2 2 0,jh 3]
abbrev Qro:IL:=[jb 4 0 2,jc 5 4,jb 6 0 1,jc 7 6,Nx 8 5 7,ja 3 8]
abbrev QMh:RC:=jQ Qrn (jQ Qro (.ret))
abbrev QMi:List RR:=[.tmp 3]
theorem QMj:CT 156 9 QMh QMi:=ck Tryz.func156 Tryz.ntmps156 (by decide +kernel)
abbrev Qrp:IL:=[je 1 1 0,jh 2]
abbrev Qrq:IL:=[jb 3 2 1,jc 4 3,U7 5 160 4 161,ja 2 5]
abbrev QMk:RC:=jQ Qrp (jQ Qrq (.ret))
abbrev QMl:List RR:=[.tmp 2]
theorem QMm:CT 159 6 QMk QMl:=ck Tryz.func159 Tryz.ntmps159 (by decide +kernel)
abbrev Qrr:IL:=[je 3 3 1,jh 4]
abbrev Qrs:IL:=[ja 7 0,ji 8 1 7,jd 9 0]
abbrev Qrt:IL:=[jn 10 9 8]
abbrev Qru:IL:=[ja 11 9,jk 12 3 7 9,jf 13 3 12,⟨some 6,.allocN 6 [.str [],.int .i64 0,.nils],none⟩,ja 5 11,js 3 6 13]
abbrev Qrv:IL:=[ja 14 0,ja 15 5,FS 16 3 14 15,⟨some 17,.val (.mkfn (.func 213) [] [(.t 3),(.t 6)]),none⟩,yr 18 143 16 17]
abbrev Qrw:IL:=[yl 4]
abbrev Qrx:IL:=[jm 19 9 1,ja 9 19]
abbrev Qry:RC:=.gho (.drop 6) (jQ Qrt (.seq (jX 10 0) (.seq (.block 1 (jQ Qru (jQ Qrv (.cond (.t 18) (jQ Qrw (.ret)) (.skip))))) (.reg Qrx))))
abbrev Qrz:IL:=[jh 4]
abbrev QMn:RC:=jQ Qrr (.seq (jQ Qrs (.block 0 (.loop Qry))) (jQ Qrz (.ret)))
abbrev QMo:List RR:=[.tmp 4]
theorem QMp:CT 160 20 QMn QMo:=ck Tryz.func160 Tryz.ntmps160 (by decide +kernel)
abbrev QrA:IL:=[je 1 1 0,yi 2]
abbrev QrB:IL:=[jb 3 0 1,jc 4 3,ja 2 4]
abbrev QMq:RC:=jQ QrA (jQ QrB (.ret))
abbrev QMr:List RR:=[.tmp 2]
theorem QMs:CT 161 5 QMq QMr:=ck Tryz.func161 Tryz.ntmps161 (by decide +kernel)
abbrev QrC:IL:=[je 1 1 0,jh 2]
abbrev QrD:IL:=[jb 5 3 1,jc 6 5,ji 7 1 6,jd 8 0]
abbrev QrE:IL:=[jn 9 8 7]
abbrev QrF:IL:=[ja 10 8,jk 11 2 6 8,jf 12 2 11,⟨some 4,.allocN 4 [.int .i64 0,.int .i64 0],none⟩,ja 3 10,js 2 4 12]
abbrev QrG:IL:=[jb 13 0 4,yb 14 0 4 13,yo 15 14 0,ja 16 15,jp 17 1 4 16,zl 18 0 4 17 16,yk 19 18 2147483647 16,jo 20 16 19,ja 21 20,jp 22 1 4 21,zl 23 0 4 22 21,jp 24 0 4 21,zl 25 0 4 24 21,⟨some 26,.val (.bin .num .lss (.t 23) (.t 25)),(some (21,false))⟩,jo 27 21 26,ja 28 27,jv 29 3 28,yk 30 29 0 28,jv 31 30 28,jl 32 0 4 31,zb 33 0 4 32 31,jl 34 3 1 31,zb 35 0 1 34 31,jg 36 3 31,DP 37 36 1 31,yc 38 2 35 37 31,jl 39 1 38 31,yp 40 39 31,Mk 41 33 40 31,yw 42 31 41 28,jo 43 28 42]
abbrev QrH:IL:=[yl 2]
abbrev QrI:IL:=[jm 44 8 1,ja 8 44]
abbrev QrJ:RC:=.gho (.drop 4) (jQ QrE (.seq (jX 9 0) (.seq (.block 1 (jQ QrF (jD QrG (.cond (.t 43) (jQ QrH (.ret)) (.skip))))) (.reg QrI))))
abbrev QrK:IL:=[jb 45 2 1,jc 46 45,⟨some 47,.val (.iaddr 3 none (.t 46) (.c (.int .i64 0))),none⟩,jb 48 1 47,jc 49 48,yg 50 49 0,ja 51 50,jp 52 2 1 51,jt 53 52 51,⟨some 54,.val (.mkfn (.func 214) [] [(.t 1)]),(some (51,false))⟩,⟨some 55,.callF (.f 143) [(.t 53),(.t 54)],(some (51,false))⟩,jo 56 51 55,ja 2 56]
abbrev QMt:RC:=jQ QrC (.seq (jQ QrD (.block 0 (.loop QrJ))) (jQ QrK (.ret)))
abbrev QMu:List RR:=[.tmp 2]
theorem QMv:CT 164 57 QMt QMu:=ck Tryz.func164 Tryz.ntmps164 (by decide +kernel)
abbrev QrL:IL:=[je 1 1 0,jh 2]
abbrev QrM:IL:=[jb 3 4 1,jc 4 3,ji 5 1 4,yq 6 5 0,ja 7 6,jp 8 2 1 7,jt 9 8 7,zq 10 143 9 172 7,jo 11 7 10,ja 2 11]
abbrev QMw:RC:=jQ QrL (jQ QrM (.ret))
abbrev QMx:List RR:=[.tmp 2]
theorem QMy:CT 171 12 QMw QMx:=ck Tryz.func171 Tryz.ntmps171 (by decide +kernel)
abbrev QrN:IL:=[je 1 1 0,jh 2]
abbrev QrO:IL:=[jb 3 2 1,jc 4 3,ji 5 1 4,yq 6 5 1,ja 7 6,jp 8 2 1 7,jt 9 8 7,yf 10 1 9 7,ys 11 10 1 7,jv 12 11 7,jl 13 2 1 12,ju 14 13 12,NB 15 8 14 0 12,jl 16 0 15 12,ju 17 16 12,⟨some 18,.val (.bin .str .neq (.t 17) (.c (.str [97,108,105,97,115]))),(some (12,true))⟩,jg 19 18 12,jp 20 2 1 19,jt 21 20 19,⟨some 22,.call (.f 173) [(.t 21),(.c (.int .i64 4))],(some (19,false))⟩,NE 23 22 0 19,zf 24 19 23 12,yw 25 12 24 7,jo 26 7 25,ja 2 26]
abbrev QMz:RC:=jQ QrN (jQ QrO (.ret))
abbrev QMA:List RR:=[.tmp 2]
theorem QMB:CT 172 27 QMz QMA:=ck Tryz.func172 Tryz.ntmps172 (by decide +kernel)
abbrev QrP:IL:=[jd 4 0]
abbrev QrQ:IL:=[ja 9 0,ji 10 1 9,yq 11 10 8]
abbrev QrR:IL:=[jd 4 3]
abbrev QrS:IL:=[yi 5]
abbrev QrT:IL:=[ja 12 0,ji 13 1 12,jd 14 0]
abbrev QrU:IL:=[jn 15 14 13]
abbrev QrV:IL:=[ja 16 14,jk 17 8 12 14,jf 18 8 17,⟨some 7,.allocN 7 [.str [],.int .i64 0,.int .u64 0,.str [],.nils,.nils,.nils,.nils],none⟩,ja 6 16,js 8 7 18]
abbrev QrW:IL:=[jf 19 8 7,ja 20 1,ja 21 5,ja 22 6,yq 23 22 0,zj 24 218 19 20 21 23,ja 8 24]
abbrev QrX:IL:=[ja 25 8,yg 26 25 0]
abbrev QrY:IL:=[ja 27 8,ja 4 27]
abbrev IZ:IL:=[jb 28 0 7,jc 29 28,ja 5 29]
abbrev I0:IL:=[jm 30 14 1,ja 14 30]
abbrev QrZ:RC:=.gho (.drop 7) (jQ QrU (.seq (jX 15 0) (.seq (.block 1 (jQ QrV (.seq (jQ QrW (jQ QrX (.cond (.t 26) (jQ QrY (.ret)) (.skip)))) (.reg IZ)))) (.reg I0))))
abbrev I1:IL:=[jd 4 0]
abbrev QMC:RC:=jQ QrP (.seq (jQ QrQ (.cond (.t 11) (jQ QrR (.ret)) (.skip))) (jQ QrS (.seq (jQ QrT (.block 0 (.loop QrZ))) (jQ I1 (.ret)))))
abbrev QMD:List RR:=[.tmp 4]
theorem QME:CT 173 31 QMC QMD:=ck Tryz.func173 Tryz.ntmps173 (by decide +kernel)
abbrev Qr0:IL:=[ye 2]
abbrev Qr1:IL:=[ja 7 0,ND 8 224 7,ja 3 8]
abbrev Qr2:IL:=[ja 9 3,U7 10 225 9 226]
abbrev Qr3:IL:=[ye 4]
abbrev Qr4:IL:=[ja 11 3,ji 12 1 11,jd 13 0]
abbrev Qr5:IL:=[jn 14 13 12]
abbrev Qr6:IL:=[ja 15 13,jk 16 14 11 13,jf 17 14 16,R6 6 6,ja 5 15,js 14 6 17]
abbrev Qr7:IL:=[ja 18 5,jm 19 18 1,ja 20 3,ji 21 1 20,zm 22 19 21,ja 23 22,jp 24 0 6 23,⟨some 25,.val (.loadv 0 6 (some 7) (.t 24)),(some (23,false))⟩,jv 26 3 23,jv 27 5 23,⟨some 28,.val (.bin .num .add (.t 27) (.c (.int .i64 1))),(some (23,false))⟩,yz 29 14 26 28 23,jp 30 0 29 23,Mj 31 7 30 23,NI 32 228 25 31 23,ze 33 32 23,jo 34 23 33]
abbrev Qr8:IL:=[ja 35 4,jf 36 14 6,⟨some 37,.bsl 14 1 [.int .i64 0,.int .u64 0,.str [],.nils,.nils,.nils,.nils,.int .i64 0,.int .u64 0,.str [],.nils,.nils,.nils,.nils] [(0,14,(.t 36))],none⟩,yh 38 14 256 75 35 37,ja 4 38]
abbrev Qr9:IL:=[jm 39 13 1,ja 13 39]
abbrev Qsa:RC:=.gho (.drop 6) (jQ Qr5 (.seq (jX 14 0) (.seq (.block 1 (jQ Qr6 (jD Qr7 (.cond (.t 34) (.reg Qr8) (.skip))))) (.reg Qr9))))
abbrev I2:IL:=[ja 40 4,ja 2 40]
abbrev QMF:RC:=jQ Qr0 (jQ Qr1 (jQ Qr2 (jQ Qr3 (.gho (.vec 4 4 14) (.seq (jQ Qr4 (.block 0 (.loop Qsa))) (jQ I2 (.ret)))))))
abbrev QMG:List RR:=[.tmp 2]
theorem QMH:CT 185 41 QMF QMG:=ck Tryz.func185 Tryz.ntmps185 (by decide +kernel)
abbrev Qsb:IL:=[je 4 4 0,je 7 7 3,jd 8 0]
abbrev Qsc:IL:=[jb 10 0 7,jc 11 10,ja 12 1,zs 13 11 12,ja 14 13,yv 15 7 7 14,zi 16 59 15 14,jo 17 14 16,ja 9 17]
abbrev Qsd:IL:=[jd 8 12]
abbrev Qse:IL:=[jb 19 2 7,jc 20 19,ji 21 0 20,yq 22 21 4096,ja 18 22]
abbrev Qsf:IL:=[jd 8 3]
abbrev Qsg:IL:=[ja 24 1,jq 25 24 7,ja 26 25,jl 27 2 7 26,ju 28 27 26,zh 29 131 28 26,yx 30 29 26,jj 31 26 30,ja 23 31]
abbrev Qsh:IL:=[jd 8 7]
abbrev Qsi:IL:=[ja 33 1,jf 34 7 7,jy 35 201 33 34,jz 36 35,ja 32 36]
abbrev Qsj:IL:=[jd 8 12]
abbrev Qsk:IL:=[ja 38 1,jq 39 38 9,ja 40 39,zk 41 2 4 40,jg 42 2 40,jl 43 1 7 40,ju 44 43 40,FT 45 112 41 42 44 40,yx 46 45 40,jj 47 40 46,ja 37 47]
abbrev I3:IL:=[jd 8 16]
abbrev I4:IL:=[jd 8 0]
abbrev QMI:RC:=jQ Qsb (.seq (.block 0 (jQ Qsc (.cond (.t 9) (jQ Qsd (.ret)) (jQ Qse (.cond (.t 18) (jQ Qsf (.ret)) (jQ Qsg (.cond (.t 23) (jQ Qsh (.ret)) (jQ Qsi (.cond (.t 32) (jQ Qsj (.ret)) (jQ Qsk (.cond (.t 37) (jQ I3 (.ret)) (.skip)))))))))))) (jQ I4 (.ret)))
abbrev QMJ:List RR:=[.tmp 8]
theorem QMK:CT 190 48 QMI QMJ:=ck Tryz.func190 Tryz.ntmps190 (by decide +kernel)
abbrev Qsl:IL:=[je 2 2 0,je 3 3 1,jh 4]
abbrev Qsm:IL:=[jf 5 7 2,jf 6 7 3,jy 7 192 5 6,jq 8 7 0,ja 4 8]
abbrev QML:RC:=jQ Qsl (jQ Qsm (.ret))
abbrev QMM:List RR:=[.tmp 4]
theorem QMN:CT 191 9 QML QMM:=ck Tryz.func191 Tryz.ntmps191 (by decide +kernel)
abbrev Qsn:IL:=[je 2 2 0,je 3 3 1,jd 4 0]
abbrev Qso:IL:=[jb 6 0 2,jc 7 6,jb 8 0 3,jc 9 8,zs 10 7 9]
abbrev Qsp:IL:=[jb 11 0 2,jc 12 11,jb 13 0 3,jc 14 13,jy 15 233 12 14,ja 4 15]
abbrev Qsq:IL:=[jb 16 0 2,jc 17 16]
abbrev Qsr:IL:=[jq 19 17 11,ja 18 19]
abbrev Qss:IL:=[jb 20 3 2,jc 21 20,jb 22 3 3,jc 23 22,jy 24 234 21 23,ja 4 24]
abbrev Qst:IL:=[jq 26 17 12,ja 25 26]
abbrev Qsu:IL:=[jb 27 4 2,jc 28 27,jb 29 4 3,jc 30 29,jy 31 235 28 30,ja 4 31]
abbrev Qsv:IL:=[jq 33 17 10,ja 32 33]
abbrev Qsw:IL:=[jb 34 5 2,jc 35 34,jb 36 5 3,jc 37 36,jy 38 236 35 37,ja 5 38]
abbrev I5:IL:=[ja 39 5,yg 40 39 0]
abbrev I6:IL:=[ja 41 5,ja 4 41]
abbrev I7:IL:=[jb 42 6 2,jc 43 42,jb 44 6 3,jc 45 44,jy 46 237 43 45,ja 4 46]
abbrev I8:IL:=[jf 47 7 2,jf 48 7 3,jy 49 238 47 48,ja 4 49]
abbrev QMO:RC:=jQ Qsn (.seq (jQ Qso (.cond (.t 10) (jQ Qsp (.ret)) (.skip))) (.seq (jQ Qsq (.block 0 (jQ Qsr (.cond (.t 18) (jQ Qss (.ret)) (jQ Qst (.cond (.t 25) (jQ Qsu (.ret)) (jQ Qsv (.cond (.t 32) (.seq (jQ Qsw (jQ I5 (.cond (.t 40) (jQ I6 (.ret)) (.skip)))) (jQ I7 (.ret))) (.skip))))))))) (jQ I8 (.ret))))
abbrev QMP:List RR:=[.tmp 4]
theorem QMQ:CT 192 50 QMO QMP:=ck Tryz.func192 Tryz.ntmps192 (by decide +kernel)
abbrev Qsx:IL:=[jh 2]
abbrev Qsy:IL:=[ja 3 0,yn 4 3 1,ja 5 4,jg 6 0 5,yy 7 6 9 5,jj 8 5 7,ja 2 8]
abbrev QMR:RC:=jQ Qsx (jQ Qsy (.ret))
abbrev QMS:List RR:=[.tmp 2]
theorem QMT:CT 193 9 QMR QMS:=ck Tryz.func193 Tryz.ntmps193 (by decide +kernel)
abbrev Qsz:IL:=[je 1 1 0,jh 2]
abbrev QsA:IL:=[jb 3 3 1,jc 4 3,ji 5 1 4,jq 6 5 0,ja 7 6,jl 8 4 1 7,ju 9 8 7,yt 10 1 9 7,ym 11 10 0 7,jj 12 7 11,ja 13 12,jl 14 5 1 13,ju 15 14 13,yt 16 1 15 13,ym 17 16 0 13,jj 18 13 17,ja 19 18,jl 20 6 1 19,ju 21 20 19,yt 22 1 21 19,ym 23 22 0 19,jj 24 19 23,ja 2 24]
abbrev QMU:RC:=jQ Qsz (jQ QsA (.ret))
abbrev QMV:List RR:=[.tmp 2]
theorem QMW:CT 194 25 QMU QMV:=ck Tryz.func194 Tryz.ntmps194 (by decide +kernel)
abbrev QsB:IL:=[jh 2]
abbrev QsC:IL:=[ja 3 0,Mn 4 3 97,ja 5 4,jg 6 0 5,Mo 7 6 122 5,jj 8 5 7,ja 2 8]
abbrev QMX:RC:=jQ QsB (jQ QsC (.ret))
abbrev QMY:List RR:=[.tmp 2]
theorem QMZ:CT 199 9 QMX QMY:=ck Tryz.func199 Tryz.ntmps199 (by decide +kernel)
abbrev QsD:IL:=[jh 2]
abbrev QsE:IL:=[ja 3 0,Mn 4 3 65,ja 5 4,jg 6 0 5,Mo 7 6 90 5,jj 8 5 7,ja 2 8]
abbrev QM0:RC:=jQ QsD (jQ QsE (.ret))
abbrev QM1:List RR:=[.tmp 2]
theorem QM2:CT 200 9 QM0 QM1:=ck Tryz.func200 Tryz.ntmps200 (by decide +kernel)
abbrev QsF:IL:=[je 3 3 1,jh 4]
abbrev QsG:IL:=[ja 6 0,jr 7 193 6,jz 8 7,ja 9 8,jp 10 0 3 9,jt 11 10 9,jv 12 0 9,U8 13 11 12 9,jo 14 9 13,ja 15 14,yv 16 7 3 15,zi 17 194 16 15,ze 18 17 15,jo 19 15 18]
abbrev QsH:IL:=[jh 4]
abbrev QsI:IL:=[ja 20 0,jr 21 239 20]
abbrev QsJ:IL:=[jb 22 1 3,jc 23 22,Gi 24 23 0,ja 25 24,jl 26 2 3 25,ju 27 26 25,yt 28 0 27 25,yy 29 28 4096 25,jj 30 25 29,ja 31 30,jg 32 0 31,ym 33 32 8 31,jg 34 33 31,jp 35 2 3 34,jt 36 35 34,zi 37 131 36 34,zf 38 34 37 31,jj 39 31 38,ja 4 39]
abbrev QsK:IL:=[jb 40 2 3,jc 41 40,⟨some 42,.val (.bin .str .neq (.t 41) (.c (.str []))),none⟩]
abbrev QsL:IL:=[jh 4]
abbrev QsM:IL:=[ja 43 0]
abbrev QsN:IL:=[jq 45 43 1,ja 44 45]
abbrev QsO:IL:=[jb 46 1 3,jc 47 46,⟨some 48,.val (.bin .num .leq (.t 47) (.c (.int .u64 1))),none⟩,ja 4 48]
abbrev I9:IL:=[jq 50 43 2,ja 49 50]
abbrev La:IL:=[jb 51 1 3,jc 52 51,Nw 53 52,ja 5 53]
abbrev Lb:IL:=[ja 54 5,yn 55 54 (-2147483648),ja 56 55,jg 57 5 56,yy 58 57 2147483647 56,jj 59 56 58,ja 4 59]
abbrev Lc:IL:=[jq 61 43 4,ja 60 61]
abbrev Ld:IL:=[jb 62 1 3,jc 63 62,⟨some 64,.val (.bin .num .lss (.t 63) (.c (.int .u64 4294967296))),none⟩,ja 4 64]
abbrev Le:IL:=[jq 66 43 9,ja 65 66]
abbrev Lf:IL:=[jb 67 1 3,jc 68 67,⟨some 69,.val (.bin .num .lss (.t 68) (.c (.int .u64 2147483648))),none⟩,ja 4 69]
abbrev Lg:IL:=[yl 4]
abbrev QM3:RC:=jQ QsF (.seq (jQ QsG (.cond (.t 19) (jQ QsH (.ret)) (.skip))) (.seq (jQ QsI (.cond (.t 21) (jQ QsJ (.ret)) (.skip))) (.seq (jQ QsK (.cond (.t 42) (jQ QsL (.ret)) (.skip))) (.seq (jQ QsM (.block 0 (jQ QsN (.cond (.t 44) (jQ QsO (.ret)) (jQ I9 (.cond (.t 49) (jQ La (jQ Lb (.ret))) (jQ Lc (.cond (.t 60) (jQ Ld (.ret)) (jQ Le (.cond (.t 65) (jQ Lf (.ret)) (.skip))))))))))) (jQ Lg (.ret))))))
abbrev QM4:List RR:=[.tmp 4]
theorem QsP:CT 201 70 QM3 QM4:=ck Tryz.func201 Tryz.ntmps201 (by decide +kernel)
abbrev QsQ:IL:=[jd 2 0]
abbrev QsR:IL:=[jd 3 0]
abbrev QsS:IL:=[ja 5 3,ja 6 0,ji 7 0 6,jn 8 5 7]
abbrev QsT:IL:=[ja 9 0,ja 10 3,jy 11 240 9 10,ja 4 11]
abbrev QsU:IL:=[ja 12 4,jq 13 12 0]
abbrev QsV:IL:=[ja 14 3,ja 2 14]
abbrev QsW:IL:=[ja 15 3,ja 16 4,yj 17 15 16,ja 3 17]
abbrev QsX:RC:=.seq (jQ QsS (jX 8 0)) (.block 1 (jQ QsT (.seq (jQ QsU (.cond (.t 13) (jQ QsV (.ret)) (.skip))) (.reg QsW))))
abbrev QsY:IL:=[jd 2 (-1)]
abbrev QM5:RC:=jQ QsQ (.seq (jQ QsR (.block 0 (.loop QsX))) (jQ QsY (.ret)))
abbrev QM6:List RR:=[.tmp 2]
theorem QM7:CT 202 18 QM5 QM6:=ck Tryz.func202 Tryz.ntmps202 (by decide +kernel)
abbrev QsZ:IL:=[jh 4]
abbrev Qs0:IL:=[ja 5 0,ja 6 1,yr 7 245 5 6,yn 8 7 0,ja 4 8]
abbrev QM8:RC:=jQ QsZ (jQ Qs0 (.ret))
abbrev QM9:List RR:=[.tmp 4]
theorem QNa:CT 211 9 QM8 QM9:=ck Tryz.func211 Tryz.ntmps211 (by decide +kernel)
abbrev Qs1:IL:=[je 3 3 0,jh 4]
abbrev Qs2:IL:=[jc 5 1,jw 6 0 3 3 3,⟨some 7,.call (.t 5) [(.t 6)],none⟩,jc 8 1,jf 9 3 2,⟨some 10,.call (.t 8) [(.t 9)],none⟩,Nx 11 7 10,ja 4 11]
abbrev QNb:RC:=jQ Qs1 (jD Qs2 (.ret))
abbrev QNc:List RR:=[.tmp 4]
theorem QNd:CT 213 12 QNb QNc:=ck Tryz.func213 Tryz.ntmps213 (by decide +kernel)
abbrev Qs3:IL:=[je 2 2 0,jh 3]
abbrev Qs4:IL:=[jb 4 1 2,jc 5 4,yq 6 5 2147483647,ja 7 6,jp 8 3 1 7,jt 9 8 7,jp 10 1 2 7,jt 11 10 7,NI 12 215 9 11 7,jo 13 7 12,ja 3 13]
abbrev QNe:RC:=jQ Qs3 (jQ Qs4 (.ret))
abbrev QNf:List RR:=[.tmp 3]
theorem QNg:CT 214 14 QNe QNf:=ck Tryz.func214 Tryz.ntmps214 (by decide +kernel)
abbrev Qs5:IL:=[je 3 3 1,jh 4]
abbrev Qs6:IL:=[ja 5 0,FP 6 247 3,yr 7 246 5 6,ja 4 7]
abbrev QNh:RC:=jQ Qs5 (jQ Qs6 (.ret))
abbrev QNi:List RR:=[.tmp 4]
theorem QNj:CT 215 8 QNh QNi:=ck Tryz.func215 Tryz.ntmps215 (by decide +kernel)
abbrev Qs7:IL:=[je 4 4 0,jd 8 0]
abbrev Qs8:IL:=[zz 12 249,jb 13 0 4,yb 14 0 4 13,⟨some 15,.val (.mgetp true (.agg [.int .i64 0,.int .i64 0]) (.t 12) (.t 14)),none⟩,ja 11 15,jx 16 11 0,jx 17 11 1,⟨some 9,.allocN 9 [.int .i64 0,.int .i64 0],none⟩,zp 0 9 2 9 16,ja 10 17]
abbrev Qs9:IL:=[ja 19 10,jz 20 19,ja 18 20]
abbrev Qta:IL:=[jd 8 8]
abbrev Qtb:IL:=[ja 22 1,yo 23 22 1,ja 24 23,jv 25 1 24,yk 26 25 6 24,jo 27 24 26,ja 28 27,jp 29 1 9 28,jt 30 29 28,jv 31 1 28,⟨some 32,.val (.bin .num .shr (.t 30) (.t 31)),(some (28,false))⟩,⟨some 33,.val (.bin .num .and (.t 32) (.c (.int .i64 1))),(some (28,false))⟩,ys 34 33 0 28,jo 35 28 34,ja 21 35]
abbrev Qtc:IL:=[jd 8 1]
abbrev Qtd:IL:=[jf 37 8 4,jr 38 250 37,jz 39 38,ja 36 39]
abbrev Qte:IL:=[jd 8 12]
abbrev Qtf:IL:=[ja 41 3,ja 42 41,jl 43 0 4 42,ju 44 43 42,jg 45 2 42,⟨some 46,.val (.bin .str .lss (.t 44) (.t 45)),(some (42,true))⟩,jj 47 42 46,ja 40 47]
abbrev Qtg:IL:=[jd 8 11]
abbrev Lh:IL:=[ja 49 3,ja 50 49,jl 51 0 4 50,ju 52 51 50,jg 53 2 50,Md 54 52 53 50,jj 55 50 54,ja 48 55]
abbrev Li:IL:=[jd 8 9]
abbrev Lj:IL:=[jd 8 0]
abbrev QNk:RC:=jQ Qs7 (jD Qs8 (.seq (.block 0 (jQ Qs9 (.cond (.t 18) (jQ Qta (.ret)) (jQ Qtb (.cond (.t 21) (jQ Qtc (.ret)) (jQ Qtd (.cond (.t 36) (jQ Qte (.ret)) (jQ Qtf (.cond (.t 40) (jQ Qtg (.ret)) (jQ Lh (.cond (.t 48) (jQ Li (.ret)) (.skip)))))))))))) (jQ Lj (.ret))))
abbrev QNl:List RR:=[.tmp 8]
theorem QNm:CT 218 56 QNk QNl:=ck Tryz.func218 Tryz.ntmps218 (by decide +kernel)
def MI:IL:=[ye 2]
def MJ:IL:=[ja 3 0,⟨some 4,.isnil false (.t 3),none⟩]
def MK:IL:=[ye 2]
def ML:IL:=[⟨some 5,.bsl0 5 14,none⟩,ja 6 0,yh 7 14 256 75 5 6,ja 2 7]
def Qth:RC:=jQ MI (.seq (jQ MJ (.cond (.t 4) (jQ MK (.gho (.vec 2 2 14) (.gho (.give 2 2 1 1000) (.ret)))) (.skip))) (jQ ML (.gho (.give 2 5 1 1000) (.ret))))
def Ra:List RR:=[.tmp 2]
theorem QNn:CT 224 8 Qth Ra:=ck Tryz.func224 Tryz.ntmps224 (by decide +kernel)
abbrev Qti:IL:=[je 2 2 0,je 3 3 1,jd 4 0]
abbrev Qtj:IL:=[jb 5 0 2,jf 6 7 5,jb 7 0 3,jf 8 7 7,jy 9 227 6 8,ja 4 9]
abbrev QNo:RC:=jQ Qti (jQ Qtj (.ret))
abbrev QNp:List RR:=[.tmp 4]
theorem QNq:CT 226 10 QNo QNp:=ck Tryz.func226 Tryz.ntmps226 (by decide +kernel)
abbrev Qtk:IL:=[je 2 2 0,je 3 3 1,jd 4 0]
abbrev Qtl:IL:=[jb 11 0 2,jc 12 11,jb 13 0 3,jc 14 13,zs 15 12 14]
abbrev Qtm:IL:=[jb 16 0 2,jc 17 16,jb 18 0 3,jc 19 18,jy 20 102 17 19,ja 4 20]
abbrev Qtn:IL:=[jf 21 7 3,jr 22 257 21,ja 5 22]
abbrev Qto:IL:=[jf 23 7 2,jr 24 257 23]
abbrev Qtp:IL:=[⟨some 25,.val (.tas 218 true (.agg [.int .i64 0,.int .u64 0,.str [],.nils,.nils,.nils,.nils]) (.t 24)),none⟩,jx 26 25 1,jx 27 25 0]
abbrev Qtq:IL:=[yu 6 6,js 7 6 27]
abbrev Qtr:IL:=[jf 28 7 6,jf 29 7 3,jy 30 258 28 29,ja 4 30]
abbrev Qts:IL:=[⟨some 31,.val (.tas 219 true (.nils) (.t 24)),none⟩,jx 32 31 1,jx 33 31 0]
abbrev Qtt:IL:=[ja 7 33]
abbrev Lk:IL:=[ja 34 7,ja 35 5,⟨some 36,.val (.tas 219 false (.nils) (.t 35)),none⟩,⟨some 37,.callF (.f 259) [(.t 34),(.t 36),(.f 227)],none⟩,ja 4 37]
abbrev Ll:IL:=[⟨some 38,.val (.tas 221 true (.nils) (.t 24)),none⟩,jx 39 38 1,jx 40 38 0]
abbrev Lm:IL:=[ja 8 40]
abbrev Ln:IL:=[ja 41 8,ja 42 5,⟨some 43,.val (.tas 221 false (.nils) (.t 42)),none⟩,⟨some 44,.callF (.f 260) [(.t 41),(.t 43),(.f 261)],none⟩,ja 4 44]
abbrev Lo:IL:=[⟨some 45,.val (.tas 224 true (.agg [.nils,.nils]) (.t 24)),none⟩,jx 46 45 1,jx 47 45 0]
abbrev Lp:IL:=[⟨some 9,.allocN 9 [.nils,.nils],none⟩,js 2 9 47]
abbrev Lq:IL:=[ja 48 5,⟨some 49,.val (.tas 224 false (.agg [.nils,.nils]) (.t 48)),none⟩,⟨some 10,.allocN 10 [.nils,.nils],none⟩,js 2 10 49]
abbrev Lr:IL:=[jd 4 0]
abbrev QNr:RC:=jQ Qtk (.seq (jQ Qtl (.cond (.t 15) (jQ Qtm (.ret)) (.skip))) (jQ Qtn (.seq (jQ Qto (.block 0 (jQ Qtp (.cond (.t 26) (jQ Qtq (jQ Qtr (.ret))) (jQ Qts (.cond (.t 32) (jQ Qtt (jQ Lk (.ret))) (jQ Ll (.cond (.t 39) (jQ Lm (jQ Ln (.ret))) (jQ Lo (.cond (.t 46) (jQ Lp (jQ Lq (.seq (.no) (.ret)))) (.skip))))))))))) (jQ Lr (.ret)))))
abbrev QNs:List RR:=[.tmp 4]
theorem QNt:CT 227 62 QNr QNs:=ck Tryz.func227 Tryz.ntmps227 (by decide +kernel)
abbrev Qtu:IL:=[je 2 2 0,je 3 3 1,jh 4]
abbrev Qtv:IL:=[jf 5 7 2,jf 6 7 3,jy 7 227 5 6,jq 8 7 0,ja 4 8]
abbrev QNu:RC:=jQ Qtu (jQ Qtv (.ret))
abbrev QNv:List RR:=[.tmp 4]
theorem QNw:CT 228 9 QNu QNv:=ck Tryz.func228 Tryz.ntmps228 (by decide +kernel)
abbrev Qtw:IL:=[je 2 2 0,je 3 3 1,jd 4 0]
abbrev Qtx:IL:=[jb 6 0 2,jc 7 6,jb 8 0 3,jc 9 8,jn 10 7 9,ja 5 10]
abbrev Qty:IL:=[jd 4 (-1)]
abbrev Qtz:IL:=[jb 12 0 2,jc 13 12,jb 14 0 3,jc 15 14,FO 16 13 15,ja 11 16]
abbrev QtA:IL:=[jd 4 1]
abbrev QtB:IL:=[jb 18 0 2,jc 19 18,jr 20 193 19,jz 21 20,ja 17 21]
abbrev QtC:IL:=[jd 4 0]
abbrev QtD:IL:=[jb 23 0 2,jc 24 23,jr 25 239 24,ja 26 25,jl 27 2 2 26,ju 28 27 26,jl 29 2 3 26,ju 30 29 26,⟨some 31,.val (.bin .str .lss (.t 28) (.t 30)),(some (26,true))⟩,jj 32 26 31,ja 22 32]
abbrev QtE:IL:=[jd 4 (-1)]
abbrev QtF:IL:=[jb 34 0 2,jc 35 34,jr 36 239 35,ja 37 36,jl 38 2 2 37,ju 39 38 37,jl 40 2 3 37,ju 41 40 37,⟨some 42,.val (.bin .str .gtr (.t 39) (.t 41)),(some (37,true))⟩,jj 43 37 42,ja 33 43]
abbrev Ls:IL:=[jd 4 1]
abbrev Lt:IL:=[jb 45 0 2,jc 46 45,jr 47 239 46,ja 44 47]
abbrev Lu:IL:=[jd 4 0]
abbrev Lv:IL:=[jw 49 0 2 7 2,jr 50 270 49,jw 51 0 3 7 3,jr 52 270 51,jn 53 50 52,ja 48 53]
abbrev Lw:IL:=[jd 4 (-1)]
abbrev Lx:IL:=[jw 55 0 2 7 2,jr 56 270 55,jw 57 0 3 7 3,jr 58 270 57,FO 59 56 58,ja 54 59]
abbrev Ly:IL:=[jd 4 1]
abbrev Lz:IL:=[jd 4 0]
abbrev QNx:RC:=jQ Qtw (.seq (.block 0 (jQ Qtx (.cond (.t 5) (jQ Qty (.ret)) (jQ Qtz (.cond (.t 11) (jQ QtA (.ret)) (jQ QtB (.cond (.t 17) (jQ QtC (.ret)) (jQ QtD (.cond (.t 22) (jQ QtE (.ret)) (jQ QtF (.cond (.t 33) (jQ Ls (.ret)) (jQ Lt (.cond (.t 44) (jQ Lu (.ret)) (jD Lv (.cond (.t 48) (jQ Lw (.ret)) (jD Lx (.cond (.t 54) (jQ Ly (.ret)) (.skip)))))))))))))))))) (jQ Lz (.ret)))
abbrev QNy:List RR:=[.tmp 4]
theorem QNz:CT 238 60 QNx QNy:=ck Tryz.func238 Tryz.ntmps238 (by decide +kernel)
abbrev QtG:IL:=[jh 2]
abbrev QtH:IL:=[ja 3 0,jq 4 3 7,ja 5 4,jv 6 0 5,ys 7 6 8 5,jo 8 5 7,ja 2 8]
abbrev QNA:RC:=jQ QtG (jQ QtH (.ret))
abbrev QNB:List RR:=[.tmp 2]
theorem QNC:CT 239 9 QNA QNB:=ck Tryz.func239 Tryz.ntmps239 (by decide +kernel)
def MM:IL:=[jd 4 0]
def MN:IL:=[ja 6 0,ja 7 1,NJ 8 6 7,ja 5 8]
def MO:IL:=[ja 10 5,⟨some 11,.val (.bin .num .lss (.t 10) (.c (.int .u8 128))),none⟩,ja 9 11]
def MP:IL:=[jd 4 1]
def F3:IL:=[ja 13 5,Mn 14 13 194,ja 15 14,jg 16 5 15,Mo 17 16 223 15,jj 18 15 17,ja 19 18,jg 20 0 19,jg 21 1 19,zy 22 21 1 19,FY 23 271 20 22 1 19,jj 24 19 23,ja 12 24]
def MQ:IL:=[jd 4 2]
def F4:IL:=[ja 26 5,Ml 27 26 224,ja 28 27,jg 29 0 28,jg 30 1 28,zy 31 30 1 28,⟨some 32,.call (.f 272) [(.t 29),(.t 31),(.c (.int .u8 160)),(.c (.int .u8 191))],(some (28,true))⟩,jj 33 28 32,ja 34 33,jg 35 0 34,jg 36 1 34,zy 37 36 2 34,FY 38 271 35 37 1 34,jj 39 34 38,ja 25 39]
def MS:IL:=[jd 4 3]
def F5:IL:=[ja 41 5,Ml 42 41 237,ja 43 42,jg 44 0 43,jg 45 1 43,zy 46 45 1 43,⟨some 47,.call (.f 272) [(.t 44),(.t 46),(.c (.int .u8 128)),(.c (.int .u8 159))],(some (43,true))⟩,jj 48 43 47,ja 49 48,jg 50 0 49,jg 51 1 49,zy 52 51 2 49,FY 53 271 50 52 1 49,jj 54 49 53,ja 40 54]
def MT:IL:=[jd 4 3]
def De:IL:=[ja 56 5,Mn 57 56 225,ja 58 57,jg 59 5 58,Mo 60 59 239 58,jj 61 58 60,ja 62 61,jg 63 5 62,⟨some 64,.val (.bin .num .neq (.t 63) (.c (.int .u8 237))),(some (62,true))⟩,jj 65 62 64,ja 66 65,jg 67 0 66,jg 68 1 66,zy 69 68 1 66,FY 70 271 67 69 2 66,jj 71 66 70,ja 55 71]
def NL:IL:=[jd 4 3]
def Df:IL:=[ja 73 5,Ml 74 73 240,ja 75 74,jg 76 0 75,jg 77 1 75,zy 78 77 1 75,⟨some 79,.call (.f 272) [(.t 76),(.t 78),(.c (.int .u8 144)),(.c (.int .u8 191))],(some (75,true))⟩,jj 80 75 79,ja 81 80,jg 82 0 81,jg 83 1 81,zy 84 83 2 81,FY 85 271 82 84 2 81,jj 86 81 85,ja 72 86]
def NM:IL:=[jd 4 4]
def Dg:IL:=[ja 88 5,Mn 89 88 241,ja 90 89,jg 91 5 90,Mo 92 91 243 90,jj 93 90 92,ja 94 93,jg 95 0 94,jg 96 1 94,zy 97 96 1 94,FY 98 271 95 97 3 94,jj 99 94 98,ja 87 99]
def NN:IL:=[jd 4 4]
def Dh:IL:=[ja 101 5,Ml 102 101 244,ja 103 102,jg 104 0 103,jg 105 1 103,zy 106 105 1 103,⟨some 107,.call (.f 272) [(.t 104),(.t 106),(.c (.int .u8 128)),(.c (.int .u8 143))],(some (103,true))⟩,jj 108 103 107,ja 109 108,jg 110 0 109,jg 111 1 109,zy 112 111 2 109,FY 113 271 110 112 2 109,jj 114 109 113,ja 100 114]
def NO:IL:=[jd 4 4]
def NP:IL:=[jd 4 0]
def QtI:RC:=jQ MM (jQ MN (.seq (.block 0 (jQ MO (.cond (.t 9) (jQ MP (.ret)) (jQ F3 (.cond (.t 12) (jQ MQ (.ret)) (jQ F4 (.cond (.t 25) (jQ MS (.ret)) (jQ F5 (.cond (.t 40) (jQ MT (.ret)) (jQ De (.cond (.t 55) (jQ NL (.ret)) (jQ Df (.cond (.t 72) (jQ NM (.ret)) (jQ Dg (.cond (.t 87) (jQ NN (.ret)) (jQ Dh (.cond (.t 100) (jQ NO (.ret)) (.skip)))))))))))))))))) (jQ NP (.ret))))
def QtJ:List RR:=[.tmp 4]
theorem QND:CT 240 115 QtI QtJ:=ck Tryz.func240 Tryz.ntmps240 (by decide +kernel)
abbrev QtK:IL:=[jd 4 0]
abbrev QtL:IL:=[ja 6 0,ji 7 1 6,jd 8 0]
abbrev QtM:IL:=[jn 9 8 7]
abbrev QtN:IL:=[ja 10 8,ja 5 10]
abbrev QtO:IL:=[ja 11 1,ja 12 0,ja 13 5,jk 14 3 12 13,jf 15 3 14,FR 16 11 15]
abbrev QtP:IL:=[ja 17 5,ja 4 17]
abbrev QtQ:IL:=[jm 18 8 1,ja 8 18]
abbrev QtR:RC:=jQ QtM (.seq (jX 9 0) (.seq (.block 1 (jQ QtN (jQ QtO (.cond (.t 16) (jQ QtP (.ret)) (.skip))))) (.reg QtQ)))
abbrev QtS:IL:=[jd 4 (-1)]
abbrev QNE:RC:=jQ QtK (.seq (jQ QtL (.block 0 (.loop QtR))) (jQ QtS (.ret)))
abbrev QNF:List RR:=[.tmp 4]
theorem QNG:CT 245 19 QNE QNF:=ck Tryz.func245 Tryz.ntmps245 (by decide +kernel)
abbrev QtT:IL:=[jh 4]
abbrev QtU:IL:=[ja 5 0,ja 6 1,yr 7 276 5 6,yn 8 7 0,ja 4 8]
abbrev QNH:RC:=jQ QtT (jQ QtU (.ret))
abbrev QNI:List RR:=[.tmp 4]
theorem QNJ:CT 246 9 QNH QNI:=ck Tryz.func246 Tryz.ntmps246 (by decide +kernel)
abbrev QtV:IL:=[je 2 2 0,jh 3]
abbrev QtW:IL:=[jb 4 0 2,jc 5 4,jc 6 1,FX 7 5 6,ja 8 7,ju 9 1 8,jl 10 1 2 8,ju 11 10 8,Mk 12 9 11 8,jj 13 8 12,ja 3 13]
abbrev QNK:RC:=jQ QtV (jQ QtW (.ret))
abbrev QNL:List RR:=[.tmp 3]
theorem QNM:CT 247 14 QNK QNL:=ck Tryz.func247 Tryz.ntmps247 (by decide +kernel)
abbrev QtX:IL:=[jh 6]
abbrev QtY:IL:=[ja 7 2,⟨some 8,.val (.bin .num .eql (.t 7) (.c (.int .i32 65533))),none⟩,ja 9 8,jg 10 0 9,jg 11 1 9,⟨some 12,.val (.slc none (.t 10) (some (.t 11)) none none),(some (9,true))⟩,⟨some 13,.call (.f 277) [(.t 12),(.c (.str [239,191,189]))],(some (9,true))⟩,yx 14 13 9,jj 15 9 14,ja 6 15]
abbrev QNN:RC:=jQ QtX (jQ QtY (.ret))
abbrev QNO:List RR:=[.tmp 6]
theorem QNP:CT 248 16 QNN QNO:=ck Tryz.func248 Tryz.ntmps248 (by decide +kernel)
abbrev QtZ:IL:=[⟨some 0,.val (.mov (.c (.nilm))),none⟩]
abbrev Qt0:IL:=[⟨some 1,.mkm 1,none⟩,⟨some 2,.val (.build [.int .i64 0,.int .i64 0] [(0,1,(.c (.int .i64 1))),(1,1,(.c (.int .i64 126)))]),none⟩,⟨none,.mput (.t 1) (.c (.str [100,101,112,114,101,99,97,116,101,100])) (.t 2),none⟩,⟨some 3,.val (.build [.int .i64 0,.int .i64 0] [(0,1,(.c (.int .i64 7))),(1,1,(.c (.int .i64 126)))]),none⟩,⟨none,.mput (.t 1) (.c (.str [100,111,99])) (.t 3),none⟩,⟨some 4,.val (.build [.int .i64 0,.int .i64 0] [(0,1,(.c (.int .i64 7))),(1,1,(.c (.int .i64 84)))]),none⟩,⟨none,.mput (.t 1) (.c (.str [97,108,105,97,115])) (.t 4),none⟩,⟨some 5,.val (.build [.int .i64 0,.int .i64 0] [(0,1,(.c (.int .i64 4))),(1,1,(.c (.int .i64 84)))]),none⟩,⟨none,.mput (.t 1) (.c (.str [115,105,110,99,101])) (.t 5),none⟩,⟨some 6,.val (.build [.int .i64 0,.int .i64 0] [(0,1,(.c (.int .i64 4))),(1,1,(.c (.int .i64 84)))]),none⟩,⟨none,.mput (.t 1) (.c (.str [117,110,116,105,108])) (.t 6),none⟩,⟨some 7,.val (.build [.int .i64 0,.int .i64 0] [(0,1,(.c (.int .i64 3))),(1,1,(.c (.int .i64 4)))]),none⟩,⟨none,.mput (.t 1) (.c (.str [109,105,110])) (.t 7),none⟩,⟨some 8,.val (.build [.int .i64 0,.int .i64 0] [(0,1,(.c (.int .i64 3))),(1,1,(.c (.int .i64 4)))]),none⟩,⟨none,.mput (.t 1) (.c (.str [109,97,120])) (.t 8),none⟩,⟨some 9,.val (.build [.int .i64 0,.int .i64 0] [(0,1,(.c (.int .i64 4))),(1,1,(.c (.int .i64 4)))]),none⟩,⟨none,.mput (.t 1) (.c (.str [108,101,110,103,116,104])) (.t 9),none⟩,⟨some 10,.val (.build [.int .i64 0,.int .i64 0] [(0,1,(.c (.int .i64 1))),(1,1,(.c (.int .i64 4)))]),none⟩,⟨none,.mput (.t 1) (.c (.str [115,101,99,114,101,116])) (.t 10),none⟩,⟨some 11,.val (.build [.int .i64 0,.int .i64 0] [(0,1,(.c (.int .i64 1))),(1,1,(.c (.int .i64 64)))]),none⟩,⟨none,.mput (.t 1) (.c (.str [105,100,101,109,112,111,116,101,110,116])) (.t 11),none⟩,⟨some 12,.val (.build [.int .i64 0,.int .i64 0] [(0,1,(.c (.int .i64 4))),(1,1,(.c (.int .i64 64)))]),none⟩,⟨none,.mput (.t 1) (.c (.str [116,105,109,101,111,117,116])) (.t 12),none⟩,⟨some 13,.val (.build [.int .i64 0,.int .i64 0] [(0,1,(.c (.int .i64 7))),(1,1,(.c (.int .i64 64)))]),none⟩,⟨none,.mput (.t 1) (.c (.str [114,111,117,116,101])) (.t 13),none⟩,⟨some 14,.val (.build [.int .i64 0,.int .i64 0] [(0,1,(.c (.int .i64 7))),(1,1,(.c (.int .i64 34)))]),none⟩,⟨none,.mput (.t 1) (.c (.str [111,119,110,101,114])) (.t 14),none⟩,ja 15 1,ja 0 15]
abbrev Qt1:RC:=jQ QtZ (jQ Qt0 (.ret))
abbrev Qt2:List RR:=[.tmp 0]
theorem QNQ:CT 249 16 Qt1 Qt2:=ck Tryz.func249 Tryz.ntmps249 (by decide +kernel)
abbrev Qt3:IL:=[je 1 1 0,jh 2]
abbrev Qt4:IL:=[jb 4 0 1,jc 5 4,jr 6 278 5,ja 3 6]
abbrev Qt5:IL:=[ja 7 3,yg 8 7 0,ja 9 8,jg 10 3 9,jl 11 1 1 9,zk 12 7 11 9,Gk 13 279 10 12 9,jj 14 9 13,ja 2 14]
abbrev QNR:RC:=jQ Qt3 (jQ Qt4 (jQ Qt5 (.ret)))
abbrev QNS:List RR:=[.tmp 2]
theorem QNT:CT 250 15 QNR QNS:=ck Tryz.func250 Tryz.ntmps250 (by decide +kernel)
abbrev Qt6:IL:=[je 1 1 0,⟨some 2,.val (.mov (.c (.nili))),none⟩]
abbrev Qt7:IL:=[jb 4 0 1,jc 5 4,jr 6 217 5,ja 3 6]
abbrev Qt8:IL:=[jf 7 7 1,⟨some 8,.val (.mki 218 (.t 7)),none⟩,ja 2 8]
abbrev Qt9:IL:=[jb 10 0 1,jc 11 10,jq 12 11 11,ja 9 12]
abbrev Qua:IL:=[jb 13 3 1,jc 14 13,⟨some 15,.val (.mki 219 (.t 14)),none⟩,ja 2 15]
abbrev Qub:IL:=[jb 17 0 1,jc 18 17,jq 19 18 12,ja 16 19]
abbrev Quc:IL:=[jb 20 4 1,jc 21 20,⟨some 22,.val (.mki 221 (.t 21)),none⟩,ja 2 22]
abbrev Qud:IL:=[jb 24 0 1,jc 25 24,jq 26 25 10,ja 23 26]
abbrev Que:IL:=[jb 27 5 1,jc 28 27,jb 29 6 1,jc 30 29,⟨some 31,.val (.build [.nils,.nils] [(0,1,(.t 28)),(1,1,(.t 30))]),none⟩,⟨some 32,.val (.mki 224 (.t 31)),none⟩,ja 2 32]
abbrev Quf:IL:=[⟨some 2,.val (.mov (.c (.nili))),none⟩]
abbrev QNU:RC:=jQ Qt6 (.seq (.block 0 (jQ Qt7 (.cond (.t 3) (jQ Qt8 (.ret)) (jQ Qt9 (.cond (.t 9) (jQ Qua (.ret)) (jQ Qub (.cond (.t 16) (jQ Quc (.ret)) (jQ Qud (.cond (.t 23) (jQ Que (.ret)) (.skip)))))))))) (jQ Quf (.ret)))
abbrev QNV:List RR:=[.tmp 2]
theorem QNW:CT 257 33 QNU QNV:=ck Tryz.func257 Tryz.ntmps257 (by decide +kernel)
abbrev Qug:IL:=[je 2 2 0,je 3 3 1,jd 4 0]
abbrev Quh:IL:=[jb 6 0 2,jc 7 6,jb 8 0 3,jc 9 8,zs 10 7 9,ja 5 10]
abbrev Qui:IL:=[jb 11 0 2,jc 12 11,jb 13 0 3,jc 14 13,jy 15 102 12 14,ja 4 15]
abbrev Quj:IL:=[jb 17 0 2,jc 18 17,jr 19 217 18,jz 20 19,ja 16 20]
abbrev Quk:IL:=[jd 4 0]
abbrev Qul:IL:=[jb 22 0 2,jc 23 22,jr 24 267 23,ja 21 24]
abbrev Qum:IL:=[jb 25 2 2,jc 26 25,jb 27 2 3,jc 28 27,jy 29 284 26 28,ja 4 29]
abbrev Qun:IL:=[jb 31 0 2,jc 32 31,jq 33 32 2,ja 34 33,jp 35 0 2 34,jt 36 35 34,ys 37 36 3 34,jo 38 34 37,ja 30 38]
abbrev Quo:IL:=[jb 39 1 2,jc 40 39,Nw 41 40,jb 42 1 3,jc 43 42,Nw 44 43,jy 45 102 41 44,ja 4 45]
abbrev Qup:IL:=[jb 47 0 2,jc 48 47,jq 49 48 6,ja 46 49]
abbrev LA:IL:=[jb 50 1 2,yb 51 0 2 50,jr 52 286 51,jb 53 1 3,yb 54 0 3 53,jr 55 286 54,jy 56 285 52 55,ja 4 56]
abbrev LB:IL:=[jb 57 1 2,jc 58 57,jb 59 1 3,jc 60 59,jy 61 285 58 60,ja 4 61]
abbrev QNX:RC:=jQ Qug (.seq (.block 0 (jQ Quh (.cond (.t 5) (jQ Qui (.ret)) (jQ Quj (.cond (.t 16) (jQ Quk (.ret)) (jQ Qul (.cond (.t 21) (jQ Qum (.ret)) (jQ Qun (.cond (.t 30) (jQ Quo (.ret)) (jQ Qup (.cond (.t 46) (jD LA (.ret)) (.skip)))))))))))) (jQ LB (.ret)))
abbrev QNY:List RR:=[.tmp 4]
theorem QNZ:CT 258 62 QNX QNY:=ck Tryz.func258 Tryz.ntmps258 (by decide +kernel)
abbrev Quq:IL:=[je 1 1 0,NC 2 0]
abbrev Qur:IL:=[jb 4 0 1,jc 5 4,jr 6 288 5,ja 3 6]
abbrev Qus:IL:=[jb 7 1 1,jc 8 7,⟨some 9,.val (.bin .num .add (.t 8) (.c (.int .u64 9223372036854775808))),none⟩,ja 2 9]
abbrev Qut:IL:=[jb 11 0 1,jc 12 11,yg 13 12 6,ja 10 13]
abbrev Quu:IL:=[jb 14 1 1,jc 15 14,ja 2 15]
abbrev Quv:IL:=[jb 17 1 1,jc 18 17,jr 19 123 18,jq 20 19 0,ja 16 20]
abbrev Quw:IL:=[NC 2 18446744073709551615]
abbrev Qux:IL:=[jb 22 1 1,jc 23 22,⟨some 24,.val (.bin .num .geq (.t 23) (.c (.int .u64 9223372036854775808))),none⟩,ja 21 24]
abbrev Quy:IL:=[jb 25 1 1,jc 26 25,⟨some 27,.val (.bin .num .sub (.c (.int .u64 18446744073709551615)) (.t 26)),none⟩,ja 2 27]
abbrev Quz:IL:=[jb 28 1 1,jc 29 28,⟨some 30,.val (.bin .num .add (.t 29) (.c (.int .u64 9223372036854775808))),none⟩,ja 2 30]
abbrev QN0:RC:=jQ Quq (.seq (.block 0 (jQ Qur (.cond (.t 3) (jQ Qus (.ret)) (jQ Qut (.cond (.t 10) (jQ Quu (.ret)) (jQ Quv (.cond (.t 16) (jQ Quw (.ret)) (jQ Qux (.cond (.t 21) (jQ Quy (.ret)) (.skip)))))))))) (jQ Quz (.ret)))
abbrev QN1:List RR:=[.tmp 2]
theorem QN2:CT 270 31 QN0 QN1:=ck Tryz.func270 Tryz.ntmps270 (by decide +kernel)
abbrev QuA:IL:=[jh 6]
abbrev QuB:IL:=[jd 7 0]
abbrev QuC:IL:=[ja 8 7,ja 9 2,jn 10 8 9]
abbrev QuD:IL:=[ja 13 0,ja 14 1,ja 15 7,yj 16 14 15,⟨some 17,.call (.f 272) [(.t 13),(.t 16),(.c (.int .u8 128)),(.c (.int .u8 191))],none⟩,jz 18 17]
abbrev QuE:IL:=[jh 6]
abbrev QuF:IL:=[ja 11 7,jm 12 11 1,ja 7 12]
abbrev QuG:RC:=.seq (jQ QuC (jX 10 0)) (.seq (.block 1 (jQ QuD (.cond (.t 18) (jQ QuE (.ret)) (.skip)))) (.reg QuF))
abbrev QuH:IL:=[yl 6]
abbrev QN3:RC:=jQ QuA (.seq (jQ QuB (.block 0 (.loop QuG))) (jQ QuH (.ret)))
abbrev QN4:List RR:=[.tmp 6]
theorem QN5:CT 271 19 QN3 QN4:=ck Tryz.func271 Tryz.ntmps271 (by decide +kernel)
abbrev QuI:IL:=[jh 8]
abbrev QuJ:IL:=[ja 9 1,ja 10 0,ji 11 0 10,jn 12 9 11,ja 13 12,jg 14 0 13,jg 15 1 13,Mm 16 14 15 13,jg 17 2 13,⟨some 18,.val (.bin .num .geq (.t 16) (.t 17)),(some (13,true))⟩,jj 19 13 18,ja 20 19,jg 21 0 20,jg 22 1 20,Mm 23 21 22 20,jg 24 3 20,Mk 25 23 24 20,jj 26 20 25,ja 8 26]
abbrev QN6:RC:=jQ QuI (jQ QuJ (.ret))
abbrev QN7:List RR:=[.tmp 8]
theorem QN8:CT 272 27 QN6 QN7:=ck Tryz.func272 Tryz.ntmps272 (by decide +kernel)
abbrev QuK:IL:=[jd 4 0]
abbrev QuL:IL:=[ja 6 0,ji 7 1 6,jd 8 0]
abbrev QuM:IL:=[jn 9 8 7]
abbrev QuN:IL:=[ja 10 8,ja 5 10]
abbrev QuO:IL:=[ja 11 1,ja 12 0,ja 13 5,jk 14 2 12 13,jf 15 2 14,FR 16 11 15]
abbrev QuP:IL:=[ja 17 5,ja 4 17]
abbrev QuQ:IL:=[jm 18 8 1,ja 8 18]
abbrev QuR:RC:=jQ QuM (.seq (jX 9 0) (.seq (.block 1 (jQ QuN (jQ QuO (.cond (.t 16) (jQ QuP (.ret)) (.skip))))) (.reg QuQ)))
abbrev QuS:IL:=[jd 4 (-1)]
abbrev QN9:RC:=jQ QuK (.seq (jQ QuL (.block 0 (.loop QuR))) (jQ QuS (.ret)))
abbrev QOa:List RR:=[.tmp 4]
theorem QOb:CT 276 19 QN9 QOa:=ck Tryz.func276 Tryz.ntmps276 (by decide +kernel)
abbrev QuT:IL:=[jh 4]
abbrev QuU:IL:=[ja 5 0,ja 6 1,jy 7 293 5 6,ja 4 7]
abbrev QOc:RC:=jQ QuT (jQ QuU (.ret))
abbrev QOd:List RR:=[.tmp 4]
theorem QOe:CT 277 8 QOc QOd:=ck Tryz.func277 Tryz.ntmps277 (by decide +kernel)
abbrev QuV:IL:=[jd 2 0]
abbrev QuW:IL:=[zz 3 249,ja 4 0,⟨some 5,.val (.mget false (.agg [.int .i64 0,.int .i64 0]) (.t 3) (.t 4)),none⟩,⟨some 6,.val (.fld 0 none (.t 5)),none⟩,ja 2 6]
abbrev QOf:RC:=jQ QuV (jQ QuW (.ret))
abbrev QOg:List RR:=[.tmp 2]
theorem QOh:CT 278 7 QOf QOg:=ck Tryz.func278 Tryz.ntmps278 (by decide +kernel)
abbrev QuX:IL:=[jd 4 0]
abbrev QuY:IL:=[ja 7 0,jr 8 297 7,ja 5 8]
abbrev QuZ:IL:=[ja 9 1,jr 10 297 9,ja 6 10]
abbrev Qu0:IL:=[ja 11 5]
abbrev Qu1:IL:=[ja 12 6]
abbrev Qu2:IL:=[jd 4 0]
abbrev Qu3:IL:=[jd 4 (-1)]
abbrev Qu4:IL:=[ja 13 6]
abbrev Qu5:IL:=[jd 4 1]
abbrev Qu6:IL:=[ja 14 0,ja 15 1,⟨some 16,.val (.bin .str .lss (.t 14) (.t 15)),none⟩]
abbrev LC:IL:=[jd 4 (-1)]
abbrev LD:IL:=[ja 17 0,ja 18 1,⟨some 19,.val (.bin .str .gtr (.t 17) (.t 18)),none⟩]
abbrev LE:IL:=[jd 4 1]
abbrev LF:IL:=[jd 4 0]
abbrev QOi:RC:=jQ QuX (jQ QuY (jQ QuZ (.seq (jQ Qu0 (.cond (.t 11) (.seq (jQ Qu1 (.cond (.t 12) (jQ Qu2 (.ret)) (.skip))) (jQ Qu3 (.ret))) (.skip))) (.seq (jQ Qu4 (.cond (.t 13) (jQ Qu5 (.ret)) (.skip))) (.seq (jQ Qu6 (.cond (.t 16) (jQ LC (.ret)) (.skip))) (.seq (jQ LD (.cond (.t 19) (jQ LE (.ret)) (.skip))) (jQ LF (.ret))))))))
abbrev QOj:List RR:=[.tmp 4]
theorem QOk:CT 284 20 QOi QOj:=ck Tryz.func284 Tryz.ntmps284 (by decide +kernel)
abbrev Qu7:IL:=[jd 4 0]
abbrev Qu8:IL:=[ja 7 0,jr 8 298 7,ja 5 8]
abbrev Qu9:IL:=[ja 9 1,jr 10 298 9,ja 6 10]
abbrev Qva:IL:=[ja 11 5]
abbrev Qvb:IL:=[ja 12 6]
abbrev Qvc:IL:=[jd 4 0]
abbrev Qvd:IL:=[jd 4 (-1)]
abbrev Qve:IL:=[ja 13 6]
abbrev Qvf:IL:=[jd 4 1]
abbrev Qvg:IL:=[ja 14 0,ja 15 1,jn 16 14 15]
abbrev LG:IL:=[jd 4 (-1)]
abbrev LH:IL:=[ja 17 0,ja 18 1,FO 19 17 18]
abbrev LI:IL:=[jd 4 1]
abbrev LJ:IL:=[jd 4 0]
abbrev QOl:RC:=jQ Qu7 (jQ Qu8 (jQ Qu9 (.seq (jQ Qva (.cond (.t 11) (.seq (jQ Qvb (.cond (.t 12) (jQ Qvc (.ret)) (.skip))) (jQ Qvd (.ret))) (.skip))) (.seq (jQ Qve (.cond (.t 13) (jQ Qvf (.ret)) (.skip))) (.seq (jQ Qvg (.cond (.t 16) (jQ LG (.ret)) (.skip))) (.seq (jQ LH (.cond (.t 19) (jQ LI (.ret)) (.skip))) (jQ LJ (.ret))))))))
abbrev QOm:List RR:=[.tmp 4]
theorem QOn:CT 285 20 QOl QOm:=ck Tryz.func285 Tryz.ntmps285 (by decide +kernel)
abbrev Qvh:IL:=[jh 2]
abbrev Qvi:IL:=[ja 3 0,jq 4 3 2,ja 5 4,jv 6 0 5,ys 7 6 3 5,jo 8 5 7,ja 2 8]
abbrev QOo:RC:=jQ Qvh (jQ Qvi (.ret))
abbrev QOp:List RR:=[.tmp 2]
theorem QOq:CT 288 9 QOo QOp:=ck Tryz.func288 Tryz.ntmps288 (by decide +kernel)
abbrev Qvj:IL:=[jh 4]
abbrev Qvk:IL:=[ja 5 0,ji 6 0 5,ja 7 1,ji 8 0 7,⟨some 9,.val (.bin .num .geq (.t 6) (.t 8)),none⟩,ja 10 9,jg 11 0 10,jg 12 1 10,yt 13 0 12 10,⟨some 14,.val (.slc none (.t 11) none (some (.t 13)) none),(some (10,true))⟩,jg 15 1 10,Md 16 14 15 10,jj 17 10 16,ja 4 17]
abbrev QOr:RC:=jQ Qvj (jQ Qvk (.ret))
abbrev QOs:List RR:=[.tmp 4]
theorem QOt:CT 293 18 QOr QOs:=ck Tryz.func293 Tryz.ntmps293 (by decide +kernel)
abbrev Qvl:IL:=[jh 2]
abbrev Qvm:IL:=[ja 3 0,ja 4 0,⟨some 5,.val (.bin .str .neq (.t 3) (.t 4)),none⟩,ja 2 5]
abbrev QOu:RC:=jQ Qvl (jQ Qvm (.ret))
abbrev QOv:List RR:=[.tmp 2]
theorem QOw:CT 297 6 QOu QOv:=ck Tryz.func297 Tryz.ntmps297 (by decide +kernel)
abbrev Qvn:IL:=[jh 2]
abbrev Qvo:IL:=[ja 3 0,ja 4 0,zs 5 3 4,ja 2 5]
abbrev QOx:RC:=jQ Qvn (jQ Qvo (.ret))
abbrev QOy:List RR:=[.tmp 2]
theorem QOz:CT 298 6 QOx QOy:=ck Tryz.func298 Tryz.ntmps298 (by decide +kernel)
end Go.Proofs.YtipjfckmopekaaaGreatDoor.Rc

namespace Go.Proofs.YtipjfckmopekaaaGreatDoor.Bt
open Go

theorem Jc (n:Int):IntKind.u64.wrap n=n % 18446744073709551616:=by simp[IntKind.wrap,IntKind.bits,IntKind.signed]
theorem MU (n:Int):IntKind.u8.wrap n=n % 256:=by simp[IntKind.wrap,IntKind.bits,IntKind.signed]
theorem QG (n:Int):IntKind.i64.wrap n=(n+9223372036854775808) % 18446744073709551616-9223372036854775808:=IntKind.wrap_i64 n

theorem WN {n:Nat}(h:n<18446744073709551616):(BitVec.ofInt 64 (n:Int)).toNat=n:=by
 simp;omega

theorem NQ (a b:Nat)(ha:a<18446744073709551616)(hb:b<18446744073709551616):bits .xor .u64 (a:Int) (b:Int)=((a ^^^ b:Nat):Int):=by
 have hx:a ^^^ b<2 ^ 64:=Nat.xor_lt_two_pow (by omega) (by omega);show IntKind.u64.wrap ((BitVec.ofInt 64 (a:Int) ^^^ BitVec.ofInt 64 (b:Int)).toNat:Int)=_;rw[BitVec.toNat_xor,WN ha,WN hb,Jc];omega
theorem UH (a b:Nat)(ha:a<18446744073709551616)(hb:b<18446744073709551616):bits .and .u64 (a:Int) (b:Int)=((a &&& b:Nat):Int):=by
 have hx:a &&& b<2 ^ 64:=Nat.and_lt_two_pow _ (by omega);show IntKind.u64.wrap ((BitVec.ofInt 64 (a:Int) &&& BitVec.ofInt 64 (b:Int)).toNat:Int)=_;rw[BitVec.toNat_and,WN ha,WN hb,Jc];omega
theorem F6 (a:Nat)(ha:a<18446744073709551616):a ^^^ 18446744073709551615=18446744073709551615-a:=by
 have h1:(BitVec.ofNat 64 a ^^^ BitVec.allOnes 64).toNat=a ^^^ 18446744073709551615:=by
  rw[BitVec.toNat_xor,BitVec.toNat_ofNat,BitVec.toNat_allOnes,Nat.mod_eq_of_lt (by omega)]
 rw[←h1,BitVec.xor_allOnes,BitVec.toNat_not,BitVec.toNat_ofNat,Nat.mod_eq_of_lt (by omega)]

theorem F7 (a:Int)(h0:0≤a)(h1:a<18446744073709551616):bits .xor .u64 a 0=a:=by
 obtain⟨n,rfl⟩:=QXq h0;have:=NQ n 0 (by omega) (by omega);rw[Nat.xor_zero]at this;exact this
theorem F8 (a:Int)(h0:0≤a)(h1:a<18446744073709551616):bits .xor .u64 a 18446744073709551615=18446744073709551615-a:=by
 obtain⟨n,rfl⟩:=QXq h0;have:=NQ n 18446744073709551615 (by omega) (by omega);rw[F6 n (by omega)]at this;rw[show((18446744073709551615:Nat):Int)=18446744073709551615 from rfl]at this;rw[this];omega
end Go.Proofs.YtipjfckmopekaaaGreatDoor.Bt

set_option linter.unusedSimpArgs false
namespace Go.Proofs.YtipjfckmopekaaaGreatDoor.Va
open Go Am Rc Bt

def RB (v:AV):Prop:=∃b,v=.bool b
theorem RB.rf {v:AV}{l:List AV}(h:RB v):v.rf=true∧(AV.rfL l=true∨v.nl=true):=by
 obtain⟨b,rfl⟩:=h;exact⟨rfl,.inr rfl⟩

def isk (k:Int):Bool:=decide (k≥1)&&decide (k≤9)
def X9 (k:Int):Bool:=k==7||k==8
def wk (k:Int):Int:=if k=1∨k=4∨k=5∨k=9 then 0 else if k=2∨k=3 then 1 else if k=6 then 2 else if k=7∨k=8 then 3 else if k=10 then 4 else -1

theorem VQ (k:Int):Qj Tryz.prog 193 [.int .i64 k] (.bool (isk k)):=by
 refine QMT.fn (by simp) ?_;simp only[isk,Qa,seval];cases h:decide (k≥1)<;>simp only[QXo,QXh,Qa,seval]

theorem F9 (k:Int):Qj Tryz.prog 217 [.int .i64 k] (.bool (isk k)):=by
 refine Qi0.fn (by simp) ?_;simp only[isk,Qa,seval];cases h:decide (k≥1)<;>simp only[QXo,QXh,Qa,seval]

theorem Hs (k:Int):Qj Tryz.prog 239 [.int .i64 k] (.bool (X9 k)):=by
 refine QNC.fn (by simp) ?_;simp only[X9,Qa,seval];cases h:(k==7)<;>simp only[QXr,QXs,Qa,seval]

theorem Qvp (k:Int):Qj Tryz.prog 267 [.int .i64 k] (.bool (X9 k)):=by
 refine Qk8.fn (by simp) ?_;simp only[X9,Qa,seval];cases h:(k==7)<;>simp only[QXr,QXs,Qa,seval]

def oc (n:Int)(s a:List UInt8)(c k kd t u:Int):AV:=.agg [.int .i64 n,.str s,.str a,.int .i64 c,.int .i64 k,.int .i64 kd,.int .i64 t,.int .i64 u]

def pk (c kd:Int):Bool:=c==4&&((decide (kd≥1)&&decide (kd≤6))||kd==9)
def MV (c kd:Int):Int:=if c=5 then 6 else if pk c kd=true then 5 else wk kd

section
variable (n:Int)(s a:List UInt8)(c k kd t u:Int)

theorem Qvq:Qj Tryz.prog 119 [oc n s a c k kd t u] (.bool (pk c kd)):=by
 refine QcQ.fn (by simp) ?_;simp only[oc,pk,eE,seval];cases h0:(c==4)<;>cases h1:decide (kd≥1)<;>cases h2:decide (kd≤6)<;>simp only[h1,h2,QXo,QXh,QXr,QXs,eE,seval]

theorem y41:Qj Tryz.prog 41 [oc n s a c k kd t u] (.bool (pk c kd)):=by
 refine k41.fn (by simp) ?_;simp only[oc,pk,eE,seval];cases h0:(c==4)<;>cases h1:decide (kd≥1)<;>cases h2:decide (kd≤6)<;>simp only[h1,h2,QXo,QXh,QXr,QXs,eE,seval]

theorem QOA:Qj Tryz.prog 198 [oc n s a c k kd t u] (.int .i64 (MV c kd)):=by
 have hP:=Qvq n s a c k kd t u;simp only[oc]at hP;refine QhG.fn (by simp) ?_;simp only[oc,eE,seval];by_cases hc:c=5
 ·have b0:(c==5)=true:=by simp[hc]
  simp only[b0,MV,QWg hc,Qa,seval]
 ·have b0:(c==5)=false:=by simp[hc]
  simp only[b0,MV,QV1 hc,eE,seval];refine Qb hP rfl rfl rfl (.inl rfl) ?_;cases pk c kd
  ·simp only[QV6,eE,seval]
   repeat' (first|(refine Q1 (fun h=>?_) (fun h=>?_)<;>simp only[h,Qa,seval])|(refine Xz (fun h=>?_) (fun h=>?_)<;>simp only[h,Qo,eE,seval])|(refine XA (fun h=>?_) (fun h=>?_)<;>simp only[h,Qo,eE,seval]))
   all_goals((try simp only[QVT,QXt,ne_eq]at *)<;>unfold wk<;>(repeat' split)<;>first|rfl|(exfalso;omega))
  ·simp only[Qa,seval]

end

theorem Qm (i:Nat)(n:Nat)(h:i<n)(hn:n≤maxLen):IntKind.i64.wrap ((i:Int)+1)=((i+1:Nat):Int):=by
 simp only[maxLen]at hn;rw[QG];omega

theorem Ql {i n:Nat}(h:i<n):decide ((i:Int)<(n:Int))=true:=by simp;omega
theorem Qy {i n:Nat}(h:¬i<n):decide ((i:Int)<(n:Int))=false:=by simp;omega
theorem Qh (i:Nat):(0≤(i:Int))=True:=by simp

end Go.Proofs.YtipjfckmopekaaaGreatDoor.Va

namespace Go.Proofs.YtipjfckmopekaaaGreatDoor.Br
open Go Am Go.RowKit Go.WideShapes Go.ChangeShapes Go.ChangeAt Go.Joins Go.Deep Go.WideElems Go.Maps

section
variable {H:Type}{ZV:TypeId×Value→H}{P:Program}{W:World}{base:Nat}{sp:Nat→Bool}{held:Bool}

end

theorem Ha {X α:Type}{f:X→List α}{sz:Nat}(hsz:0<sz)(hf:∀x,(f x).length=sz):∀(xs:List X) (j:Nat),(xs.flatMap f)[j]? = (xs[j / sz]?).bind fun x=>(f x)[j % sz]?
 | [],j=>by simp
 |x :: xs,j=>by
  rw[QXg];by_cases hj:j<sz
  ·rw[QXc (by rw[hf];exact hj),Nat.div_eq_of_lt hj,Nat.mod_eq_of_lt hj];rfl
  ·obtain⟨i,rfl⟩:∃i,j=sz+i:=⟨j-sz,by omega⟩;rw[QXd (by rw[hf];omega),hf,Ha hsz hf xs,show sz+i-sz=i by omega,show(sz+i) / sz=i / sz+1 by rw[Nat.add_div_left _ hsz],Nat.add_mod_left];rfl

section
variable {H:Type}{ZV:TypeId×Value→H}{P:Program}{W:World}

structure El (ZV:TypeId×Value→H)(P:Program)(e:TypeId)(sz:Nat)(X:Type) where
 av:X→AV
 vals:X→List Value
 Bp:X→DataW H
 ok:X→Prop
 pos:0<sz
 len:∀x,(vals x).length=sz
 cells:∀x,(av x).cells.length=sz
 rfl':∀x,AV.rfL (av x).cells=true
 leaf:∀x,(av x).cells.all AV.leaf=true
 rep:∀(G:Gh) x,RepL G (av x).cells (vals x)
 opened:∀ {W:World} {n:Nat} {cs:List Value} {d:DataW H} {pl:List MemPlace},cs.length=sz→DataW.trod ZV P W 0 (fun _=>true) true n e cs=some (d,pl)→∃x,ok x∧cs=vals x∧d=Bp x∧pl=[]
 shut:∀(W:World) (sp:Nat→Bool) x,ok x→∃n,DataW.trod ZV P W 0 sp true n e (vals x)=some (Bp x,[])

end

def Xn:List AV→AV
 | [x]=>x
 |l=>.agg l

def Gl (P:Program):Nat→List Field→Nat→Bool
 |o,[],n=>Nat.beq o n
 |o,f :: fs,n=>Nat.beq f.offset o&&Gl P (o+P.cellsOf f.type) fs n

def MX (P:Program)(ts:List TypeId)(t:TypeId):Bool :=
 match P.underlying t with
 |some (.int _)|some .bool|some .string=>P.cellsOf t==1
 |some (.struct fs)=>Gl P 0 fs.toList (P.cellsOf t)&&fs.toList.all fun f=>ts.contains f.type
 |some (.slice e)=>P.cellsOf t==1&&(decide (0<P.cellsOf e)&&decide (0<P.bytesOf e))&&ts.contains e
 |_=>false
def MY (P:Program)(ts:List TypeId):Bool:=ts.all (MX P ts)

def Q6 (P:Program)(M:Nat):Nat→TypeId→List AV→Prop
 |0,_,_=>False
 |k+1,t,cs=>match P.underlying t with
  |some (.int ik)=>∃n,cs=[.int ik n]∧(Lit.int ik n).wf=true
  |some .bool=>∃b,cs=[.bool b]
  |some .string=>∃s,cs=[.str s]∧s.length≤M
  |some (.struct fs)=>HasL (Q6 P M k) fs.toList cs
  |some (.slice e)=>∃l:List (List AV),cs=[.list (l.map Xn)]∧(l.length≤maxLen∧(M=reachBytes→l.length*P.bytesOf e≤M))∧(∀c∈l,Q6 P M k e c)∧l.length≤M
  |_=>False
where
 HasL (h:TypeId→List AV→Prop):List Field→List AV→Prop
  | [],cs=>cs=[]
  |f :: fs,cs=>∃a b,cs=a++b∧h f.type a∧HasL h fs b

theorem Hb {l:List AV}(h:l.all AV.leaf=true):(Xn l).cells=l:=by
 match l,h with
 | [],_=>rfl
 | [x],h=>cases x<;>first|rfl|simp[AV.leaf]at h
 |_ :: _ :: _,_=>rfl

mutual
def wt:AV→Nat
 |.list l=>1+JC l
 |.agg l=>JC l
 |_=>1
def JC:List AV→Nat
 | []=>0
 |x :: l=>wt x+JC l
end
theorem NR (a b:List AV):JC (a++b)=JC a+JC b:=by
 induction a with
 |nil=>simp[JC]
 |cons x a ih=>simp only[QV9,JC,ih];omega
theorem Rd:∀l:List AV,wt (Xn l)=JC l
 | []=>by simp[Xn,wt]
 | [x]=>by simp[Xn,JC]
 |_ :: _ :: _=>by simp[Xn,wt]

theorem Uc {G:Gh}:∀ {ls:List (List AV)} {cs:List (List Value)},ls.length=cs.length→(∀i (h1:i<ls.length) (h2:i<cs.length),RepL G ls[i] cs[i])→RepL G ls.flatten cs.flatten
 | [],[],_,_=>.nil
 |l :: ls,c :: cs,hn,h=>by
  rw[List.flatten_cons,List.flatten_cons];exact RepL.append (h 0 (by simp) (by simp)) (Uc (by simpa using hn) fun i h1 h2=>h (i+1) (by simpa using h1) (by simpa using h2))
 | [],_ :: _,hn,_=>by simp at hn
 |_ :: _,[],hn,_=>by simp at hn

section
variable {H:Type}{ZV:TypeId×Value→H}{P:Program}{W:World}{M:Nat}

theorem Ht {d:DataW H}:∀ {l:List (DataW H)},d∈l→Rows.uptoBulk d≤Rows.uptoBulkAll l
 | [],h=>by cases h
 |x :: l,h=>by
  rw[Rows.uptoBulkAll];rcases QW9.1 h with rfl|h
  ·omega
  ·have:=Ht h;omega

theorem Re (d:DataW H):1≤Rows.uptoBulk d:=by unfold Rows.uptoBulk;split<;>omega
theorem Gm {x:AV}(h:wt x=1)(d:DataW H):JC [x]≤Rows.uptoBulk d:=by
 have:=Re d;rw[JC,JC,h];exact this
theorem Rf (a b:List (DataW H)):Rows.uptoBulkAll (a++b)=Rows.uptoBulkAll a+Rows.uptoBulkAll b:=by
 induction a with
 |nil=>simp[Rows.uptoBulkAll]
 |cons x a ih=>simp only[QV9,Rows.uptoBulkAll,ih];omega
theorem Ba (F:Nat→List AV)(xs:List (DataW H))(h:∀i d,xs[i]? = some d→JC (F i)≤Rows.uptoBulk d):∀n,n≤xs.length→JC (((List.range n).map F).map Xn)≤Rows.uptoBulkAll (xs.take n)
 |0,_=>QVV _
 |n+1,hn=>by
  have hx:xs[n]? = some xs[n]:=QVO (by omega);have:=Ba F xs h n (by omega);have h1:=h n _ hx;rw[List.range_succ,QXu,QXu,NR,QXv,hx,Rf];simp only[QWj,QWO,JC,Rd,QXw,Rows.uptoBulkAll];omega

def SU (P:Program)(M:Nat)(t:TypeId)(d:DataW H):Prop:=M=maxLen∨(M≠reachBytes∧Rows.uptoBulk d≤M)∨(d.weights P t).all (·≤M)=true

theorem K8 {t:TypeId}{d:DataW H}:∀ {ts:List TypeId} {ds:List (DataW H)} (i:Nat),(DataW.weightsEach P ts ds).all (·≤M)=true→ts[i]? = some t→ds[i]? = some d→(d.weights P t).all (·≤M)=true
 | [],_,_,_,h,_=>by simp at h
 |_ :: _,[],_,_,_,h=>by simp at h
 |t' :: ts,d' :: ds,0,h,h1,h2=>by
  rw[DataW.weightsEach,QW4,QWb]at h;cases h1;cases h2;exact h.1
 |t' :: ts,d' :: ds,i+1,h,h1,h2=>by
  rw[DataW.weightsEach,QW4,QWb]at h;exact K8 i h.2 (by simpa using h1) (by simpa using h2)

theorem W9 {e:TypeId}{d:DataW H}:∀ {ds:List (DataW H)},(DataW.weightsAll P e ds).all (·≤M)=true→d∈ds→(d.weights P e).all (·≤M)=true
 | [],_,h=>by cases h
 |d' :: ds,h,hd=>by
  rw[DataW.weightsAll,QW4,QWb]at h;rcases QW9.1 hd with rfl|hd
  ·exact h.1
  ·exact W9 h.2 hd

def Opn (W:World)(h:List AV→Prop)(B n:Nat)(cs:List Value):Prop :=
 ∃avs,h avs∧RepL (Gh.bare fun b o=>sv W b o) avs cs∧avs.length=n∧AV.rfL avs=true∧avs.all AV.leaf=true∧JC avs≤B

theorem Hc {h:TypeId→List AV→Prop}{cs:List Value}:∀(fs:List Field) (ds:List (DataW H)) (o:Nat),Gl P o fs cs.length=true→fs.length=ds.length→(∀(i:Nat) (f:Field) (d:DataW H),fs[i]? = some f→ds[i]? = some d→Opn W (h f.type) (Rows.uptoBulk d) (P.cellsOf f.type) ((cs.drop f.offset).take (P.cellsOf f.type)))→
  Opn W (Q6.HasL h fs) (Rows.uptoBulkAll ds) (cs.length-o) (cs.drop o)
 | [],_,o,hc,_,_=>by
  have e:o=cs.length:=QVJ hc;refine⟨[],rfl,?_,by simp[e],rfl,rfl,QVV _⟩;rw[e,List.drop_length];exact .nil
 |_ :: _,[],_,_,hl,_=>by simp at hl
 |f :: fs,d :: ds,o,hc,hl,hf=>by
  simp only[Gl,QWb]at hc;have eo:f.offset=o:=QVJ hc.1;obtain⟨a,a1,a2,a3,a4,a5,a6⟩:=hf 0 f d rfl rfl;obtain⟨b,b1,b2,b3,b4,b5,b6⟩:=Hc fs ds _ hc.2 (by simpa using hl) fun i g d hg hd=>hf (i+1) g d (by simpa using hg) (by simpa using hd)
  rw[eo]at a2;refine⟨a++b,⟨a,b,rfl,a1,b1⟩,?_,?_,by rw[K3,a4,b4]<;>rfl,by rw[QW4,a5,b5]<;>rfl,by rw[NR,Rows.uptoBulkAll];omega⟩
  ·have:=RepL.append a2 b2
   rwa [←QWf,QW3]at this
  ·have hlen:a.length=((cs.drop o).take (P.cellsOf f.type)).length:=(RepL.length a2).symm;rw[QWp,a3,b3];rw[a3,QWK,QWs]at hlen;omega

theorem Ud {ts:List TypeId}(hP:MY P ts=true):∀(k:Nat) (t:TypeId) (cs:List Value) (d:DataW H) (pl:List MemPlace),ts.contains t=true→DataW.trod ZV P W 0 (fun _=>true) true k t cs=some (d,pl)→SU P M t d→
  Opn W (Q6 P M k t) (Rows.uptoBulk d) (P.cellsOf t) cs
 |0,_,_,_,_,_,h,_=>by simp[DataW.trod]at h
 |k+1,t,cs,d,pl,ht,h,hb=>by
  have hp:=QVZ.1 hP t (by simpa using ht);unfold MX at hp;split at hp
  ·rename_i ik hu;obtain⟨v,rfl,_,hw⟩:=DataW.trod_int hu h;refine⟨[.int ik v],?_,.cons (.int ik v) .nil,by rw[QVT]at hp;simp[hp],rfl,rfl,Gm rfl _⟩;simp only[Q6,hu];exact⟨v,rfl,hw⟩
  ·rename_i hu;obtain⟨b,rfl,_⟩:=DataW.trod_bool hu h;refine⟨[.bool b],?_,.cons (.bool b) .nil,by rw[QVT]at hp;simp[hp],rfl,rfl,Gm rfl _⟩;simp only[Q6,hu];exact⟨b,rfl⟩
  ·rename_i hu;obtain⟨⟨⟨s⟩⟩,rfl,e,hw⟩:=DataW.trod_string hu h;have hw:s.length≤M:=by
    cases e;rcases hb with rfl|hb|hb
    ·exact hw
    ·replace hb:=hb.2;rw[Rows.uptoBulk]at hb;exact QVM (Nat.le_succ _) hb
    ·rw[DataW.weights]at hb
     simpa using hb
   refine⟨[.str s],?_,.cons (.str s) .nil,by rw[QVT]at hp;simp[hp],rfl,rfl,Gm rfl _⟩;simp only[Q6,hu];exact⟨s,rfl,hw⟩
  ·rename_i fs hu;simp only[QWb,QVZ]at hp;obtain⟨xs,n',hk,e,hlen,hxl,hx⟩:=DataW.trod_struct hu h;obtain rfl:k=n':=by omega
   have hbx:∀(i:Nat) x (f:Field),xs[i]? = some x→fs[i]? = some f→SU P M f.type x.1:=fun i x f hx hf=>by
    cases e;refine hb.imp id fun hb=>hb.imp (fun hb=>⟨hb.1,?_⟩) fun hb=>?_
    ·replace hb:=hb.2;rw[Rows.uptoBulk]at hb;have:=Ht (l:=xs.map (·.1)) (QW7.2 ⟨x,QV0 hx,rfl⟩);omega
    ·rw[DataW.weights,hu]at hb;exact K8 i hb (by simp[hf]) (by simp[hx])
   have:=Hc (W:=W) (h:=Q6 P M k) (cs:=cs) fs.toList (xs.map (·.1)) 0 (by rw[hlen];exact hp.1) (by simp[hxl]) (fun i f d hi hd=>by
    have hi':fs[i]? = some f:=by simpa using hi
    have hf:f∈fs.toList:=QV0 hi;obtain⟨x,hxi,rfl⟩:∃x,xs[i]? = some x∧x.1=d:=by
     rw[QXa]at hd;obtain⟨x,h1,h2⟩:=QVQ.1 hd;exact⟨x,h1,h2⟩
    have h2:=hx i f hi';rw[hxi]at h2;exact Ud hP k f.type _ _ _ (hp.2 f hf) h2 (hbx i _ f hxi hi'))
   rw[QWu,QW6,hlen]at this;obtain⟨avs,h1,h2,h3,h4,h5,h6⟩:=this;refine⟨avs,?_,h2,h3,h4,h5,by cases e;rw[Rows.uptoBulk];omega⟩;simp only[Q6,hu];exact h1
  ·rename_i e hu;simp only[QWb,QVS,QVT]at hp;obtain⟨⟨h1,h0,hby⟩,hpe⟩:=hp;rcases DataW.trod_slice hu h with⟨rfl,_⟩|⟨a,len,cap,elems,rest,n',hk,rfl,e0,_,hl,hm,hln0,hel,_⟩
   ·refine⟨[.list []],?_,.cons (.list (cs:=[]) (sz:=0) .nil (by simp) rfl rfl (by simp) rfl (QVV _) (QVV _)) .nil,by simp[h1],rfl,rfl,Gm rfl _⟩;simp only[Q6,hu];exact⟨[],rfl,⟨QVV _,fun _=>by simp⟩,by simp,QVV _⟩
   ·obtain rfl:k=n':=by omega
    have hbx:∀x∈elems,SU P M e x.1:=fun x hx=>by
     cases e0;refine hb.imp id fun hb=>hb.imp (fun hb=>⟨hb.1,?_⟩) fun hb=>?_
     ·replace hb:=hb.2;rw[Rows.uptoBulk]at hb;have:=Ht (l:=elems.map (·.1)) (QW7.2 ⟨x,hx,rfl⟩);omega
     ·rw[DataW.weights,hu,QWY,QW4,QWb,QWb]at hb;exact W9 hb.2.1 (QW7.2 ⟨x,hx,rfl⟩)
    have hlenM:len≤M:=by
     cases e0;rcases hb with rfl|hb|hb
     ·omega
     ·have key:∀l:List (DataW H),l.length≤Rows.uptoBulkAll l:=by
       intro l
       induction l with
       |nil=>simp
       |cons x l ih=>
        have:1≤Rows.uptoBulk x:=by unfold Rows.uptoBulk;split<;>omega
        rw[Rows.uptoBulkAll,QV2];omega
      replace hb:=hb.2;rw[Rows.uptoBulk]at hb;have:=key (elems.map (·.1));rw[QWI]at this;omega
     ·rw[DataW.weights,hu,QWY,QWb]at hb;have h5:=hb.1;simp only[QVS,QWI]at h5;have h6:elems.length*1≤(elems.length+rest.length)*P.bytesOf e:=Nat.mul_le_mul (Nat.le_add_right _ _) hby;omega
    have hlenB:M=reachBytes→len*P.bytesOf e≤M:=fun hM=>by
     cases e0;rcases hb with rfl|hb|hb
     ·exact absurd hM (by unfold maxLen reachBytes;omega)
     ·exact absurd hM hb.1
     ·rw[DataW.weights,hu,QWY,QWb]at hb;have h5:=hb.1;simp only[QVS,QWI]at h5;have h6:elems.length*P.bytesOf e≤(elems.length+rest.length)*P.bytesOf e:=Nat.mul_le_mul (Nat.le_add_right _ _) (QVL _);have h7:len*P.bytesOf e=elems.length*P.bytesOf e:=by rw[show len=elems.length by omega]
      omega
    haveI:Inhabited ({c:List Value // c.length=P.cellsOf e}×List AV):=⟨(⟨List.replicate (P.cellsOf e) (.bool false),by simp⟩,[])⟩
    obtain⟨F,hF⟩:=choose_lt (α:={c:List Value // c.length=P.cellsOf e}×List AV) (n:=len) (p:=fun i x=>W.cells? 0 (a.add (i*P.cellsOf e)) (P.cellsOf e)=some x.1.1∧Q6 P M k e x.2∧RepL (Gh.bare fun b o=>sv W b o) x.2 x.1.1∧x.2.length=P.cellsOf e∧AV.rfL x.2=true∧x.2.all AV.leaf=true∧∀d,elems[i]? = some d→JC x.2≤Rows.uptoBulk d.1) (fun i hi=>by
     have hb:=hel i hi;rw[QVO (by omega)]at hb;obtain⟨cs',c1,c2⟩:=Option.bind_eq_some_iff.1 hb;obtain⟨_,hln,_⟩:=World.cells?_some c1;obtain⟨avs,o1,o2,o3,o4,o5,o6⟩:=Ud hP k e cs' _ _ hpe c2 (hbx _ (QWF _));exact⟨(⟨cs',hln⟩,avs),c1,o1,o2,o3,o4,o5,fun d hd=>by
      rw[QVO (by omega)]at hd;cases hd;exact o6⟩)
    have cellAt:∀i j,i<len→j<P.cellsOf e→W.cell? (a.add (i*P.cellsOf e+j))=(F i).1.1[j]?:=by
     intro i j hi hj;obtain⟨_,_,h3⟩:=World.cells?_some (hF i hi).1;rw[←h3 j hj,add_add]
    have hspot:0<len→a.spot=none:=by
     intro hc;have:=cellAt 0 0 hc h0;rw[Nat.zero_mul,show a.add (0+0)=a from rfl,QVO (by rw[(F 0).1.2];exact h0)]at this;unfold World.cell? at this;split at this
     ·split at this
      ·cases this
      ·rename_i h;simpa using h
     ·cases this
    have hel':∀c∈(List.range len).map (fun i=>(F i).2),∃i,i<len∧c=(F i).2:=by
     intro c hc;obtain⟨i,hi,rfl⟩:=QW7.1 hc;exact⟨i,QXj.1 hi,rfl⟩
    have hflat:∀L:List (List AV),(∀c∈L,c.all AV.leaf=true)→QN (L.map Xn)=L.flatten:=by
     intro L
     induction L with
     |nil=>intro _;rfl
     |cons c L ih=>
      intro hh;show(Xn c).cells++QN (L.map Xn)=c++L.flatten;rw[Hb (hh c (by simp)),ih fun x hx=>hh x (by simp[hx])]
    have hrf:∀L:List (List AV),(∀c∈L,AV.rfL c=true)→AV.rfL L.flatten=true:=by
     intro L
     induction L with
     |nil=>intro _;rfl
     |cons c L ih=>
      intro hh;rw[List.flatten_cons,K3,hh c (by simp),ih fun x hx=>hh x (by simp[hx])]<;>rfl
    have hlf:∀L:List (List AV),(∀c∈L,c.all AV.leaf=true)→L.flatten.all AV.leaf=true:=by
     intro L
     induction L with
     |nil=>intro _;rfl
     |cons c L ih=>
      intro hh;rw[List.flatten_cons,QW4,hh c (by simp),ih fun x hx=>hh x (by simp[hx])]<;>rfl
    have hl1:∀c∈(List.range len).map (fun i=>(F i).2),c.all AV.leaf=true:=fun c hc=>by
     obtain⟨i,hi,rfl⟩:=hel' c hc;exact(hF i hi).2.2.2.2.2.1
    have hl2:∀c∈(List.range len).map (fun i=>(F i).2),AV.rfL c=true:=fun c hc=>by
     obtain⟨i,hi,rfl⟩:=hel' c hc;exact(hF i hi).2.2.2.2.1
    have hwt:JC [.list (((List.range len).map fun i=>(F i).2).map Xn)]≤Rows.uptoBulk d:=by
     cases e0;have hw:=fun n hn=>Ba (fun i=>if i<len then(F i).2 else []) (elems.map (·.1)) (fun i d hd=>by
      rw[QXa]at hd;obtain⟨x,h1,rfl⟩:=QVQ.1 hd;by_cases hi:i<len
      ·rw[QWg hi];exact(hF i hi).2.2.2.2.2.2 x h1
      ·rw[QV1 hi];exact QVV _) n hn
     have h1:=hw len (by rw[QWI];omega);rw[QWl (by rw[QWI];omega)]at h1;have h2:(List.range len).map (fun i=>if i<len then(F i).2 else [])=(List.range len).map fun i=>(F i).2:=by
      refine List.map_congr_left fun i hi=>?_
      rw[QWg (QXj.1 hi)]
     rw[h2]at h1;rw[JC,JC,wt,Rows.uptoBulk];omega
    refine⟨[.list (((List.range len).map fun i=>(F i).2).map Xn)],?_,.cons (.list (cs:=((List.range len).map fun i=>(F i).1.1).flatten) (sz:=P.cellsOf e) ?_ ?_ ?_ ?_ ?_ (by simp) hl (by omega)) .nil,by simp[h1],rfl,rfl,hwt⟩
    ·simp only[Q6,hu];refine⟨_,rfl,⟨by simp;omega,fun hM=>by simpa using hlenB hM⟩,?_,by simpa using hlenM⟩;intro c hc;obtain⟨i,hi,rfl⟩:=hel' c hc;exact(hF i hi).2.1
    ·rw[hflat _ hl1];refine Uc (by simp) fun i g1 g2=>?_
     simp only[QWI,List.length_range]at g1;simp only[List.getElem_map,List.getElem_range];exact(hF i (by omega)).2.2.1
    ·intro x hx;obtain⟨c,hc,rfl⟩:=QW7.1 hx;rw[Hb (hl1 c hc)];obtain⟨i,hi,rfl⟩:=hel' c hc;exact(hF i hi).2.2.2.1
    ·rw[hflat _ hl1];exact hrf _ hl2
    ·rw[hflat _ hl1];exact hlf _ hl1
    ·intro j u hj;rw[←List.flatMap_def,Ha h0 (fun i=>(F i).1.2)]at hj;by_cases hi:j / P.cellsOf e<len
     ·rw[List.getElem?_range hi]at hj;have hj:(F (j / P.cellsOf e)).1.1[j % P.cellsOf e]? = some u:=hj;have hk:=cellAt (j / P.cellsOf e) (j % P.cellsOf e) (by omega) (Nat.mod_lt _ h0);rw[hj,Nat.div_add_mod']at hk;have hs:=hspot (Nat.lt_of_le_of_lt (QVV _) hi);obtain⟨b,o,s⟩:=a;subst hs;refine⟨b,o,rfl,?_⟩;refine UD ?_;show W.cell? ⟨b,o+j,none⟩=some u;rw[←hk];unfold Addr.add;split
      ·rename_i h;rw[h];rfl
      ·rfl
     ·rw[QXb (by simp;omega)]at hj;cases hj
  ·cases hp

theorem Gn {t:TypeId}{v:Value}{d:DataW H}{p:List MemPlace}(hl:laidOutB P=true)(hr:P.readableRec t=true)(hrow:t<P.types.size)(h:DataW.Trod ZV P W 0 (fun _=>true) true t v d p) :
  ∀(W':World) (sp:Nat→Bool),Below W.heap.size W W'→(∀q∈p,sp q.block=true)→DataW.Trod ZV P W' 0 sp true t v d p:=by
 intro W' sp hb hs;obtain⟨n,hn⟩:=h;exact Trod_stays hl hr hrow ⟨n,hn⟩ (fun x hx=>hb.same (DataW.trod_lt n _ _ _ hn x hx)) hs

theorem Hd {t:TypeId}{fs:Array Field}{ts:List TypeId}{r:Reach}{b0:Nat}{v:Value}{d:DataW H}{p:List MemPlace}(hP:MY P ts=true)(ht:ts.contains t=true)(hs:P.underlying t=some (.struct fs))(hv:Value.okWide P W r b0 t v)
  (h:DataW.Trod ZV P W 0 (fun _=>true) true t v d p) (hb:SU P M t d):∃k avs,Q6 P M k t avs∧Rep (Gh.bare fun b o=>sv W b o) (.agg avs) v:=by
 obtain⟨⟨cs⟩,rfl,_⟩:=okWide_struct hs hv;obtain⟨n,hn⟩:=h;obtain⟨avs,h1,h2,_⟩:=Ud hP n t _ _ _ ht hn hb;exact⟨n,avs,h1,.agg h2⟩
theorem Zn {X:Type}{f:X→List AV}{ok:X→Prop}:∀ {l:List (List AV)},(∀c∈l,∃x,ok x∧c=f x)→∃xs:List X,l=xs.map f∧∀x∈xs,ok x
 | [],_=>⟨[],rfl,by simp⟩
 |c :: l,h=>by
  obtain⟨x,hx,rfl⟩:=h c (by simp);obtain⟨xs,rfl,hxs⟩:=Zn (l:=l) fun c hc=>h c (by simp[hc])
  exact⟨x :: xs,rfl,by simpa using ⟨hx,hxs⟩⟩

end

end Go.Proofs.YtipjfckmopekaaaGreatDoor.Br

namespace Go.Proofs.YtipjfckmopekaaaGreatDoor.Br
open Go Am

section
variable {P:Program}{M k:Nat}{t:TypeId}{cs:List AV}

theorem Xo {ik:IntKind}(hu:P.underlying t=some (.int ik))(h:Q6 P M k t cs):∃n,cs=[.int ik n]∧(Lit.int ik n).wf=true:=by
 cases k with
 |zero=>cases h
 |succ k=>simpa only [Q6,hu]using h

theorem Rg (hu:P.underlying t=some .bool)(h:Q6 P M k t cs):∃b,cs=[.bool b]:=by
 cases k with
 |zero=>cases h
 |succ k=>simpa only [Q6,hu]using h

theorem Jq (hu:P.underlying t=some .string)(h:Q6 P M k t cs):∃s,cs=[.str s]∧s.length≤M:=by
 cases k with
 |zero=>cases h
 |succ k=>simpa only [Q6,hu]using h

theorem Jd {e:TypeId}(hu:P.underlying t=some (.slice e))(h:Q6 P M k t cs):∃(k':Nat) (l:List (List AV)),cs=[.list (l.map Xn)]∧l.length≤maxLen∧∀c∈l,Q6 P M k' e c:=by
 cases k with
 |zero=>cases h
 |succ k=>
  simp only[Q6,hu]at h;obtain⟨l,h1,h2,h3,_⟩:=h;exact⟨k,l,h1,h2.1,h3⟩

theorem K9 {e:TypeId}(hu:P.underlying t=some (.slice e))(h:Q6 P M k t cs):∃(k':Nat) (l:List (List AV)),cs=[.list (l.map Xn)]∧l.length≤M∧∀c∈l,Q6 P M k' e c:=by
 cases k with
 |zero=>cases h
 |succ k=>
  simp only[Q6,hu]at h;obtain⟨l,h1,_,h3,h4⟩:=h;exact⟨k,l,h1,h4,h3⟩

theorem X6 {fs:Array Field}(hu:P.underlying t=some (.struct fs))(h:Q6 P M k t cs):∃k',Q6.HasL (Q6 P M k') fs.toList cs:=by
 cases k with
 |zero=>cases h
 |succ k=>
  simp only[Q6,hu]at h;exact⟨k,h⟩

end

structure PO where
 num:Int
 name:List UInt8
 alias:List UInt8
 card:Int
 key:Int
 kind:Int
 target:Int
 union:Int

def PO.cells (o:PO):List AV:=[.int .i64 o.num,.str o.name,.str o.alias,.int .i64 o.card,.int .i64 o.key,.int .i64 o.kind,.int .i64 o.target,.int .i64 o.union]

structure PO.ok (M:Nat)(o:PO):Prop where
 num:(Lit.int .i64 o.num).wf=true
 name:o.name.length≤M
 alias:o.alias.length≤M
 card:(Lit.int .i64 o.card).wf=true
 key:(Lit.int .i64 o.key).wf=true
 kind:(Lit.int .i64 o.kind).wf=true
 target:(Lit.int .i64 o.target).wf=true
 union:(Lit.int .i64 o.union).wf=true

theorem Qvs {M k:Nat}{cs:List AV}(h:Q6 Tryz.prog M k 68 cs):∃o:PO,o.ok M∧cs=o.cells:=by
 obtain⟨k,h⟩:=X6 Tryz.underlying68 h;simp only[Q6.HasL]at h;obtain⟨_,_,rfl,h0,_,_,rfl,h1,_,_,rfl,h2,_,_,rfl,h3,_,_,rfl,h4,_,_,rfl,h5,_,_,rfl,h6,_,_,rfl,h7,rfl⟩:=h;obtain⟨a0,rfl,w0⟩:=Xo Tryz.underlying3 h0;obtain⟨a1,rfl,w1⟩:=Jq Tryz.underlying9 h1;obtain⟨a2,rfl,w2⟩:=Jq Tryz.underlying9 h2;obtain⟨a3,rfl,w3⟩:=Xo Tryz.underlying3 h3;obtain⟨a4,rfl,w4⟩:=Xo Tryz.underlying3 h4;obtain⟨a5,rfl,w5⟩:=Xo Tryz.underlying3 h5;obtain⟨a6,rfl,w6⟩:=Xo Tryz.underlying3 h6;obtain⟨a7,rfl,w7⟩:=Xo Tryz.underlying3 h7;exact⟨⟨a0,a1,a2,a3,a4,a5,a6,a7⟩,⟨w0,w1,w2,w3,w4,w5,w6,w7⟩,rfl⟩

structure PG where
 name:List UInt8
 ops:List PO
 unions:Int

def PG.cells (g:PG):List AV:=[.str g.name,.list (g.ops.map fun o=>.agg o.cells),.int .i64 g.unions]

structure PG.ok (M:Nat)(g:PG):Prop where
 name:g.name.length≤M
 len:g.ops.length≤maxLen
 ops:∀o∈g.ops,o.ok M
 unions:(Lit.int .i64 g.unions).wf=true

theorem Rh {M k:Nat}{cs:List AV}(h:Q6 Tryz.prog M k 73 cs):∃g:PG,g.ok M∧cs=g.cells:=by
 obtain⟨k,h⟩:=X6 Tryz.underlying73 h;simp only[Q6.HasL]at h;obtain⟨_,_,rfl,h0,_,_,rfl,h1,_,_,rfl,h2,rfl⟩:=h;obtain⟨a0,rfl,w0⟩:=Jq Tryz.underlying9 h0;obtain⟨k',l,rfl,w1,hl⟩:=Jd Tryz.underlying71 h1;obtain⟨a2,rfl,w2⟩:=Xo Tryz.underlying3 h2;obtain⟨ops,rfl,hok⟩:=Zn (f:=PO.cells) (ok:=PO.ok M) fun c hc=>Qvs (hl c hc)
 refine⟨⟨a0,ops,a2⟩,⟨w0,by simpa using w1,hok,w2⟩,?_⟩;simp only[PG.cells,QXx,QV9,QWa];rfl

structure PS where
 lo:Int
 hi:Int

def PS.cells (x:PS):List AV:=[.int .i64 x.lo,.int .i64 x.hi]
def PS.ok (x:PS):Prop:=(Lit.int .i64 x.lo).wf=true∧(Lit.int .i64 x.hi).wf=true

theorem Ri {M k:Nat}{cs:List AV}(h:Q6 Tryz.prog M k 111 cs):∃x:PS,x.ok∧cs=x.cells:=by
 obtain⟨k,h⟩:=X6 Tryz.underlying111 h;simp only[Q6.HasL]at h;obtain⟨_,_,rfl,h0,_,_,rfl,h1,rfl⟩:=h;obtain⟨a0,rfl,w0⟩:=Xo Tryz.underlying3 h0;obtain⟨a1,rfl,w1⟩:=Xo Tryz.underlying3 h1;exact⟨⟨a0,a1⟩,⟨w0,w1⟩,rfl⟩

structure PN where
 name:List UInt8
 val:List AV

def PN.cells (x:PN):List AV:=.str x.name :: x.val
def PN.ok (P:Program)(M:Nat)(t:TypeId)(x:PN):Prop:=x.name.length≤M∧∃k,Q6 P M k t x.val

theorem Bb {M k:Nat}{cs:List AV}(h:Q6 Tryz.prog M k 87 cs):∃x:PN,x.ok Tryz.prog M 32∧cs=x.cells:=by
 obtain⟨k,h⟩:=X6 Tryz.underlying87 h;simp only[Q6.HasL]at h;obtain⟨_,_,rfl,h0,a1,_,rfl,h1,rfl⟩:=h;obtain⟨a0,rfl,w0⟩:=Jq Tryz.underlying9 h0;exact⟨⟨a0,a1⟩,⟨w0,k,h1⟩,by simp[PN.cells]⟩

structure PI where
 name:List UInt8
 num:Int
 notes:List PN

def PI.cells (x:PI):List AV:=[.str x.name,.int .i64 x.num,.list (x.notes.map fun n=>Xn n.cells)]

structure PI.ok (M:Nat)(x:PI):Prop where
 name:x.name.length≤M
 num:(Lit.int .i64 x.num).wf=true
 len:x.notes.length≤maxLen
 notes:∀n∈x.notes,n.ok Tryz.prog M 32

theorem Rj {M k:Nat}{cs:List AV}(h:Q6 Tryz.prog M k 85 cs):∃x:PI,x.ok M∧cs=x.cells:=by
 obtain⟨k,h⟩:=X6 Tryz.underlying85 h;simp only[Q6.HasL]at h;obtain⟨_,_,rfl,h0,_,_,rfl,h1,_,_,rfl,h2,rfl⟩:=h;obtain⟨a0,rfl,w0⟩:=Jq Tryz.underlying9 h0;obtain⟨a1,rfl,w1⟩:=Xo Tryz.underlying3 h1;obtain⟨k',l,rfl,w2,hl⟩:=Jd Tryz.underlying81 h2;obtain⟨ns,rfl,hok⟩:=Zn (f:=PN.cells) (ok:=PN.ok Tryz.prog M 32) fun c hc=>Bb (hl c hc)
 refine⟨⟨a0,a1,ns⟩,⟨w0,w1,by simpa using w2,hok⟩,?_⟩;simp only[PI.cells,QXx,QV9,QWa];rfl

structure PE where
 name:List UInt8
 opn:Bool
 items:List PI
 free:List PS
 notes:List PN

def PE.cells (x:PE):List AV:=[.str x.name,.bool x.opn,.list (x.items.map fun n=>.agg n.cells),.list (x.free.map fun n=>.agg n.cells),.list (x.notes.map fun n=>Xn n.cells)]

structure PE.ok (M:Nat)(x:PE):Prop where
 name:x.name.length≤M
 len1:x.items.length≤maxLen
 items:∀n∈x.items,n.ok M
 len2:x.free.length≤maxLen
 free:∀n∈x.free,n.ok
 len3:x.notes.length≤maxLen
 notes:∀n∈x.notes,n.ok Tryz.prog M 32

theorem Rk {M k:Nat}{cs:List AV}(h:Q6 Tryz.prog M k 83 cs):∃x:PE,x.ok M∧cs=x.cells:=by
 obtain⟨k,h⟩:=X6 Tryz.underlying83 h;simp only[Q6.HasL]at h;obtain⟨_,_,rfl,h0,_,_,rfl,h1,_,_,rfl,h2,_,_,rfl,h3,_,_,rfl,h4,rfl⟩:=h;obtain⟨a0,rfl,w0⟩:=Jq Tryz.underlying9 h0;obtain⟨a1,rfl⟩:=Rg Tryz.underlying4 h1;obtain⟨k2,l2,rfl,w2,hl2⟩:=Jd Tryz.underlying79 h2;obtain⟨k3,l3,rfl,w3,hl3⟩:=Jd Tryz.underlying80 h3;obtain⟨k4,l4,rfl,w4,hl4⟩:=Jd Tryz.underlying81 h4;obtain⟨x2,rfl,o2⟩:=Zn (f:=PI.cells) (ok:=PI.ok M) fun c hc=>Rj (hl2 c hc)
 obtain⟨x3,rfl,o3⟩:=Zn (f:=PS.cells) (ok:=PS.ok) fun c hc=>Ri (hl3 c hc)
 obtain⟨x4,rfl,o4⟩:=Zn (f:=PN.cells) (ok:=PN.ok Tryz.prog M 32) fun c hc=>Bb (hl4 c hc)
 refine⟨⟨a0,a1,x2,x3,x4⟩,⟨w0,by simpa using w2,o2,by simpa using w3,o3,by simpa using w4,o4⟩,?_⟩;simp only[PE.cells,QXx,QV9,QWa];rfl

structure PL where
 progs:List PG
 enums:List PE

def PL.av (p:PL):AV:=.agg [.list (p.progs.map fun n=>.agg n.cells),.list (p.enums.map fun n=>.agg n.cells)]

structure PL.ok (M:Nat)(x:PL):Prop where
 len1:x.progs.length≤maxLen
 progs:∀n∈x.progs,n.ok M
 len2:x.enums.length≤maxLen
 enums:∀n∈x.enums,n.ok M

theorem Rl {M k:Nat}{cs:List AV}(h:Q6 Tryz.prog M k 25 cs):∃x:PL,x.ok M∧.agg cs=x.av:=by
 obtain⟨k,h⟩:=X6 Tryz.underlying25 h;simp only[Q6.HasL]at h;obtain⟨_,_,rfl,h0,_,_,rfl,h1,rfl⟩:=h;obtain⟨k2,l2,rfl,w2,hl2⟩:=Jd Tryz.underlying22 h0;obtain⟨k3,l3,rfl,w3,hl3⟩:=Jd Tryz.underlying23 h1;obtain⟨x2,rfl,o2⟩:=Zn (f:=PG.cells) (ok:=PG.ok M) fun c hc=>Rh (hl2 c hc)
 obtain⟨x3,rfl,o3⟩:=Zn (f:=PE.cells) (ok:=PE.ok M) fun c hc=>Rk (hl3 c hc)
 refine⟨⟨x2,x3⟩,⟨by simpa using w2,o2,by simpa using w3,o3⟩,?_⟩;simp only[PL.av,QXx,QV9,QWa];rfl

end Go.Proofs.YtipjfckmopekaaaGreatDoor.Br

namespace Go.Proofs.YtipjfckmopekaaaGreatDoor.Va
open Go Am Rc Bt Br

def XH {α:Type}(p:α→Bool):List α→Nat→Int
 | [],_=>-1
 |x :: l,i=>if p x=true then(i:Int)else XH p l (i+1)

theorem Hu {α:Type}(p:α→Bool):∀(l:List α) (i:Nat),(XH p l i = -1∧l.find? p=none)∨∃k o,XH p l i=((i+k:Nat):Int)∧l[k]? = some o∧l.find? p=some o
 | [],_=>.inl ⟨rfl,rfl⟩
 |x :: l,i=>by
  unfold XH;rw[List.find?_cons];cases h:p x with
  |true=>exact .inr ⟨0,x,by simp,rfl,rfl⟩
  |false=>
   simp only[QV6,if_false];rcases Hu p l (i+1)with h'|⟨k,o,h1,h2,h3⟩
   ·exact .inl h'
   ·exact .inr ⟨k+1,o,by rw[h1];congr 1;omega,by simpa using h2,h3⟩

theorem Je {α:Type}(p:α→Bool){l:List α}{i:Nat}{x:α}(hx:l[i]? = some x):XH p (l.drop i) i=if p x=true then(i:Int)else XH p (l.drop (i+1)) (i+1):=by
 have hlt:i<l.length:=(QVN.1 hx).1;rw[QWv hlt,show l[i]=x from(QVN.1 hx).2];rfl

def Qt (o:PO):AV:=.agg o.cells
def Qn (g:PG):AV:=.agg g.cells
def Xg (x:PI):AV:=.agg x.cells
def Qr (x:PE):AV:=.agg x.cells

section ops
variable (L:List PO)(hl:L.length≤maxLen)(p:PO→Bool)(c:Nat)(cap:AV)(m:Qq)

def IxO (k:Nat)(st:St):Prop :=
 ∃f i,st=⟨f,Qe :: m,[]⟩∧k=L.length-i∧XH p L 0=XH p (L.drop i) i∧f 0=.list (L.map Qt)∧f 1=.fn (.func c) [] [cap.sh]∧f 7=.int .i64 (L.length:Nat)∧f 8=.int .i64 (i:Nat)

include hl in
theorem QOB (hc:∀o∈L,Qi Tryz.prog c [Qt o,cap.sh] (Qe :: m) fun y m1=>y=.bool (p o)∧m1=Qe :: m) :
  Qi Tryz.prog 195 [.list (L.map Qt),.fn (.func c) [] [cap]] m fun y m1=>y=.int .i64 (XH p L 0)∧m1=m:=by
 refine P6.go (by simp) ?_;simp only[QWI,Qa,seval];refine Qd (IxO L p c cap m) _ ⟨_,0,rfl,rfl,rfl,(by rfl),(by rfl),(by rfl),(by rfl)⟩ ?_;rintro _ st ⟨f,i,rfl,rfl,hx,h0,h1,h7,h8⟩;simp only[h7,h8,Qa,seval];by_cases hlt:i<L.length
 ·obtain⟨x,hi⟩:∃x,L[i]? = some x:=⟨L[i],QVO hlt⟩;have hcl:=hc x (QV0 hi);have hg:(L.map Qt)[i]? = some (Qt x):=by simp[hi]
  have e1:=Qm i _ hlt hl;simp only[Qt,PO.cells]at hcl;simp only[Ql hlt,Qh,QXe,Qc,hg,Qt,PO.cells,h0,h1,h8,eE,seval];refine XJ (fa:=[]) (fb:=[cap.sh]) (by rfl) hcl (by simp only[QWj,QWO,QWa,QV9,Qa,seval]) ?_;rw[Je p hi]at hx;cases hp:p x
  ·rw[hp]at hx;simp only[QV6,if_false]at hx;simp only[h8,e1,Qa,seval];exact⟨L.length-(i+1),by omega,_,i+1,rfl,rfl,hx,(by exact h0),(by exact h1),(by exact h7),(by rfl)⟩
  ·rw[hp]at hx;simp only[if_true]at hx;simp only[hx,Qa,seval]
 ·have hx':XH p L 0 = -1:=by rw[hx,QWo (by omega)];rfl
  simp only[Qy hlt,hx',Qa,seval]

end ops

def Gp:PO:=⟨0,[],[],0,0,0,0,0⟩
def Gq (p:PO→Bool)(L:List PO):AV:=.tup [Qt ((L.find? p).getD Gp),.bool (L.find? p).isSome]

theorem QOC (g:PG)(hl:g.ops.length≤maxLen)(p:PO→Bool)(c:Nat)(cap:AV)(m:Qq)(hc:∀fr,∀o∈g.ops,Qi Tryz.prog c [Qt o,cap.sh.sh] (Qe :: fr :: m) fun y m1=>y=.bool (p o)∧m1=Qe :: fr :: m) :
  Qi Tryz.prog 117 [.agg [.fn (.func c) [] [cap]],Qn g] m fun y m1=>y=Gq p g.ops∧m1=m:=by
 refine QcL.go (by simp) ?_;simp only[Qn,PG.cells,eE,seval];refine Qk (QOB g.ops hl p c cap.sh _ fun o ho=>hc _ o ho) (by simp only[QWj,QWO,Qa,seval];rfl) ?_;rcases Hu p g.ops 0 with⟨h1,h2⟩|⟨j,o,h1,h2,h3⟩
 ·simp only[h1,Gq,h2,QXl,QWC,Gp,Qt,PO.cells,splice,QWV,QWa,QWn,QWu,QW1,QWQ,QV2,QWJ,QWY,QWZ,AV.leaf,eE,seval]
 ·have hj:(g.ops.map fun o=>AV.agg o.cells)[j]? = some (.agg o.cells):=by simp[h2]
  have d:decide ((j:Int)<0)=false:=QXy (by omega);rw[QWt]at h1;simp only[PO.cells]at hj;simp only[h1,d,Qh,QXe,Qc,QWt,hj,Gq,h3,QWX,QXz,Qt,PO.cells,splice,QWV,QWa,QWn,QWu,QW1,QWQ,QV2,QWJ,QWY,QWZ,AV.leaf,eE,seval]

section
variable (o:PO)(fr frO:Nat→Ob)

theorem QOD (n:Int)(hf:frO 3=.cells [.int .i64 n]):Qi Tryz.prog 116 [Qt o,.ptr 2 3 0] [Qe,fr,frO] fun y m1=>y=.bool (o.num==n)∧m1=[Qe,fr,frO]:=by
 refine QcD.go (by simp) ?_;simp only[hf,Qt,PO.cells,eE,seval]

end

theorem y72 (g:PG)(hl:g.ops.length≤maxLen)(n:Int):Qj Tryz.prog 72 [Qn g,.int .i64 n] (Gq (fun o=>o.num==n) g.ops):=by
 refine k72.fn (by simp) ?_;simp only[Qn,PG.cells,eE,seval];refine Qk (QOC g hl (fun o=>o.num==n) 116 (.ptr 0 3 0) _ fun fr o _=>QOD o fr _ n (by rfl)) (by simp only[QWj,QWO,Qn,PG.cells,Qa,seval]) ?_;simp only[Gq,Qt,PO.cells,splice,QWV,QWa,QWn,QWu,QW1,QWQ,QV2,QWJ,QWY,QWZ,AV.leaf,eE,seval]

def QC (p:Nat→Bool):Nat→Bool
 |0=>true
 |n+1=>QC p n&&p n

theorem QK {p:Nat→Bool}{n:Nat}:QC p n=true↔∀i,i<n→p i=true:=by
 induction n with
 |zero=>simp[QC]
 |succ n ih=>
  simp only[QC,QWb,ih]
  constructor
  ·rintro⟨h1,h2⟩ i hi;rcases Nat.lt_succ_iff_lt_or_eq.1 hi with h|rfl
   ·exact h1 i h
   ·exact h2
  ·intro h;exact⟨fun i hi=>h i (by omega),h n (by omega)⟩

theorem VR {p:Nat→Bool}{n i:Nat}(hi:i<n)(h:p i=false):QC p n=false:=by
 rw[QXA];intro h';rw[QK.1 h' i hi]at h;cases h

theorem Hv {p q:Nat→Bool}{n:Nat}:QC (fun i=>p i&&q i) n=(QC p n&&QC q n):=by
 induction n with
 |zero=>rfl
 |succ n ih=>
  simp only[QC,ih];cases QC p n<;>cases QC q n<;>cases p n<;>cases q n<;>rfl

def He {α:Type}(l:List α)(q:α→Bool)(i:Nat):Bool:=match l[i]? with
 |some x=>q x
 |none=>true

theorem Ya {α:Type}{l:List α}{q:α→Bool}{i:Nat}{x:α}(h:l[i]? = some x):He l q i=q x:=by
 unfold He;rw[h]

theorem Hw {α:Type}(l:List α)(q:α→Bool):QC (He l q) l.length=l.all q:=by
 rw[QWH,QK,QVZ]
 constructor
 ·intro h x hx;obtain⟨i,hi⟩:=QVY.1 hx;have:=h i (QVN.1 hi).1
  rwa [Ya hi]at this
 ·intro h i hi;rw[Ya (QVO hi)];exact h _ (QWF _)

def Xc {α:Type}(l:List α)(lt:α→α→Bool)(i:Nat):Bool:=match i with
 |0=>true
 |k+1=>match l[k]?,l[k+1]? with
  |some x,some y=>lt x y
  |_,_=>true

theorem Jf {α:Type}{l:List α}{lt:α→α→Bool}{k:Nat}{x y:α}(h:l[k]? = some x)(h':l[k+1]? = some y):Xc l lt (k+1)=lt x y:=by
 unfold Xc;simp only[h,h']
theorem Yv {α:Type}{l:List α}{lt:α→α→Bool}:Xc l lt 0=true:=rfl

def XR {α:Type}(l:List α)(lt:α→α→Bool):Bool:=QC (Xc l lt) l.length

def uniq {α:Type}(l:List α)(nm:α→List UInt8)(i:Nat):Bool:=match l[i]? with
 |some x=>(l.take i).all fun y=>!(nm y==nm x)
 |none=>true
theorem UI {α:Type}{l:List α}{nm:α→List UInt8}{i:Nat}{x:α}(h:l[i]? = some x):uniq l nm i=(l.take i).all fun y=>!(nm y==nm x):=by
 unfold uniq;rw[h]
def Ku {α:Type}(l:List α)(nm:α→List UInt8):Bool:=QC (uniq l nm) l.length

theorem Q3 {α:Type}{l:List α}{q:α→Bool}{i:Nat}{x:α}(h:l[i]? = some x):(l.take (i+1)).all q=((l.take i).all q&&q x):=by
 rw[QXv,h];simp
theorem Rm {α:Type}{l:List α}{q:α→Bool}{i:Nat}{x:α}(h:l[i]? = some x):(l.take (i+1)).any q=((l.take i).any q||q x):=by
 rw[QXv,h];simp
theorem Di {α:Type}{l:List α}{q:α→Bool}:(l.all fun x=>!q x)=!l.any q:=by
 induction l with
 |nil=>rfl
 |cons x l ih=>simp[ih]

def JD (c:UInt8):Bool:=(decide (97≤c.toNat)&&decide (c.toNat≤122))||(decide (65≤c.toNat)&&decide (c.toNat≤90))
def Z3 (c:UInt8):Bool:=JD c||c.toNat==95||(decide (48≤c.toNat)&&decide (c.toNat≤57))
def QY:List UInt8→Bool
 | []=>false
 |c :: t=>decide ((c :: t).length≤40)&&JD c&&t.all Z3
def Yw:List (List UInt8):=[[109,101,115,115,97,103,101],[101,110,117,109],[115,101,114,118,105,99,101],[117,110,105,111,110],[109,97,112],[108,105,115,116],[114,101,113,117,105,114,101,100],[111,112,116,105,111,110,97,108],[112,108,97,105,110],[100,101,102,97,117,108,116],[114,101,115,101,114,118,101,100],
 [105,109,112,111,114,116],[115,112,97,99,101],[114,112,99],[115,116,114,101,97,109],[114,101,116,117,114,110,115],[111,112,101,110],[116,114,117,101],[102,97,108,115,101],[110,97,110],[105,110,102]]
def Zd (s:List UInt8):Bool:=Yw.any fun w=>s==w
def XF (s:List UInt8):Bool:=QY s && !Zd s
def Qp:List UInt8→List (List UInt8)
 | []=>[[]]
 |c :: t=>if c=46 then [] :: Qp t else match Qp t with
  | []=>[[c]]
  |p :: ps=>(c :: p) :: ps
def Kd (s:List UInt8):Bool:=decide (s.length≤120)&&(Qp s).all QY && !(Qp s).any Zd

theorem Kv:∀s:List UInt8,Qp s≠[]
 | []=>by simp[Qp]
 |c :: t=>by
  unfold Qp;split
  ·simp
  ·split<;>simp

theorem DS (a:List UInt8):∀s:List UInt8,(∀c∈a,c≠46)→Qp (a++s)=match Qp s with
  | []=>[a]
  |p :: ps=>(a++p) :: ps:=by
 induction a with
 |nil=>intro s _;cases h:Qp s with
  |nil=>exact absurd h (Kv s)
  |cons p ps=>simp[h]
 |cons c a ih=>
  intro s h;have hc:c≠46:=h c (by simp);rw[QV9,Qp,QV1 hc,ih s fun x hx=>h x (by simp[hx])];cases hs:Qp s with
  |nil=>exact absurd hs (Kv s)
  |cons p ps=>rfl

theorem WO {s:List UInt8}(h:∀c∈s,c≠46):Qp s=[s]:=by
 have:=DS s [] h
 simpa [Qp]using this

theorem Gr {a t:List UInt8}(h:∀c∈a,c≠46):Qp (a++46 :: t)=a :: Qp t:=by
 rw[DS a _ h,Qp,QWg rfl];simp

theorem Gs {a t:List UInt8}(h:∀c∈t,c≠46):Qp (a++46 :: t)=Qp a++[t]:=by
 induction a with
 |nil=>
  show Qp (46 :: t)=[[]]++[t];rw[show Qp (46 :: t)=[] :: Qp t from by rw[Qp,QWg rfl],WO h];rfl
 |cons c a ih=>
  rw[QV9,Qp,Qp,ih];split
  ·rfl
  ·cases hs:Qp a with
   |nil=>exact absurd hs (Kv a)
   |cons p ps=>rfl

theorem Ue (s:List UInt8):(Qp s).length=s.count 46+1:=by
 induction s with
 |nil=>rfl
 |cons c t ih=>
  unfold Qp;split
  ·rename_i h;subst h;simp[ih]
  ·rename_i h;rw[List.count_cons_of_ne (by simpa using h)];cases hs:Qp t with
   |nil=>exact absurd hs (Kv t)
   |cons p ps=>rw[hs]at ih;simpa using ih

def ZY (g:PG):Bool:=decide (g.ops.length≤64)
def Jx (e:PE):Bool:=decide (1≤e.items.length)&&decide (e.items.length≤64)&&decide (e.free.length≤16)
def Hf (P:PL):Bool:=decide (P.progs.length≤64)&&decide (P.enums.length≤64)&&P.progs.all ZY&&P.enums.all Jx
def Kw (g:PG):Bool:=Kd g.name&&g.ops.all fun o=>XF o.name
def KR (e:PE):Bool:=Kd e.name&&e.items.all fun o=>XF o.name
def Bc (P:PL):Bool:=P.progs.all Kw&&P.enums.all KR
def X7 {α:Type}(f:α→Int)(x y:α):Bool:=decide (f x<f y)
def XG {α:Type}(f:α→List UInt8)(x y:α):Bool:=Op.bytesLess (f x) (f y)
def Jg (g:PG):Bool:=XR g.ops (X7 PO.num)
def JK (e:PE):Bool:=XR e.items (X7 PI.num)
def Hg (P:PL):Bool:=XR P.progs (XG PG.name)&&XR P.enums (XG PE.name)&&P.progs.all Jg&&P.enums.all JK
def Kx (P:PL)(g:PG):Bool:=(P.enums.all fun e=>!(e.name==g.name))&&Ku g.ops PO.name
def Wq (e:PE):Bool:=Ku e.items PI.name
def Bd (P:PL):Bool:=P.progs.all (Kx P)&&P.enums.all Wq
def Zl (o:PO):Bool:=decide (o.num≥1)&&decide (o.num≤65535)
def Gt (x:PS):Bool:=decide (x.lo≥0)&&decide (x.hi≤2147483647)&&decide (x.lo≤x.hi)
def YY (x y:PS):Bool:=decide (y.lo > x.hi)
def kept (l:List PS)(n:Int):Bool:=l.any fun x=>decide (x.lo≤n)&&decide (n≤x.hi)
def W0 (e:PE)(x:PI):Bool:=decide (x.num≤2147483647) && !kept e.free x.num
def Uf (e:PE):Bool:=match e.items with
 | []=>true
 |x :: _=>x.num==0
def Jh (e:PE):Bool:=e.free.all Gt&&XR e.free YY&&Uf e&&e.items.all (W0 e)
def Be (P:PL):Bool:=P.progs.all (fun g=>g.ops.all Zl)&&P.enums.all Jh

def X3 (x:PS):AV:=.agg x.cells
def Zj (x:List UInt8):AV:=.str x

theorem JL {α:Type}(p:α→Bool)(l:List α):decide (XH p l 0≥0)=l.any p:=by
 rcases Hu p l 0 with⟨h1,h2⟩|⟨k,o,h1,_,h3⟩
 ·rw[h1];have:l.any p=false:=by
   rw[List.any_eq_false];intro x hx;exact fun h=>by have:=List.find?_eq_none.1 h2 x hx;exact this h
  rw[this];rfl
 ·rw[h1];have:l.any p=true:=QXB.2 ⟨o,QXC h3,List.find?_some h3⟩;rw[this];exact QXD (by omega)

theorem Wr (k n:Nat)(h:k+1<n)(hn:n≤maxLen):IntKind.i64.wrap (((k+1:Nat):Int)-1)=(k:Int):=by
 rw[QG];simp only[maxLen]at hn;omega

section
variable (L:List PG)(hl:L.length≤maxLen)(p:PG→Bool)(c:Nat)(cs:List AV)(m:Qq)

def JxG (k:Nat)(st:St):Prop :=
 ∃f i,st=⟨f,Qe :: m,[]⟩∧k=L.length-i∧XH p L 0=XH p (L.drop i) i∧f 0=.list (L.map Qn)∧f 1=.fn (.func c) [] (AV.shL cs)∧f 7=.int .i64 (L.length:Nat)∧f 8=.int .i64 (i:Nat)

include hl in
theorem z52 (hc:∀o∈L,Qi Tryz.prog c (Qn o :: AV.shL cs) (Qe :: m) fun y m1=>y=.bool (p o)∧m1=Qe :: m) :
  Qi Tryz.prog 52 [.list (L.map Qn),.fn (.func c) [] cs] m fun y m1=>y=.int .i64 (XH p L 0)∧m1=m:=by
 refine k52.go (by simp) ?_;simp only[QWI,Qa,seval];refine Qd (JxG L p c cs m) _ ⟨_,0,rfl,rfl,rfl,(by rfl),(by rfl),(by rfl),(by rfl)⟩ ?_;rintro _ st ⟨f,i,rfl,rfl,hx,h0,h1,h7,h8⟩;simp only[h7,h8,Qa,seval];by_cases hlt:i<L.length
 ·obtain⟨x,hi⟩:∃x,L[i]? = some x:=⟨L[i],QVO hlt⟩;have hcl:=hc x (QV0 hi);have hg:(L.map Qn)[i]? = some (Qn x):=by simp[hi]
  have e1:=Qm i _ hlt hl;simp only[Qn,PG.cells]at hcl;simp only[Ql hlt,Qh,QXe,Qc,hg,Qn,PG.cells,h0,h1,h8,eE,seval];refine XJ (fa:=[]) (fb:=AV.shL cs) (by rfl) hcl (by simp only[QWj,QWO,QWa,QV9,Qa,seval]) ?_;rw[Je p hi]at hx;cases hp:p x
  ·rw[hp]at hx;simp only[QV6,if_false]at hx;simp only[h8,e1,Qa,seval];exact⟨L.length-(i+1),by omega,_,i+1,rfl,rfl,hx,(by exact h0),(by exact h1),(by exact h7),(by rfl)⟩
  ·rw[hp]at hx;simp only[if_true]at hx;simp only[hx,Qa,seval]
 ·have hx':XH p L 0 = -1:=by rw[hx,QWo (by omega)];rfl
  simp only[Qy hlt,hx',Qa,seval]

include hl in
theorem QOE (hc:∀o∈L,Qi Tryz.prog c (Qn o :: AV.shL (AV.shL cs)) (Qe :: Qe :: m) fun y m1=>y=.bool (p o)∧m1=Qe :: Qe :: m) :
  Qi Tryz.prog 203 [.list (L.map Qn),.fn (.func c) [] cs] m fun y m1=>y=.bool (L.any p)∧m1=m:=by
 refine QhL.go (by simp) ?_;simp only[Qa,seval];refine Qk (z52 L hl p c (AV.shL cs) _ hc) (by simp only[QWj,QWO,Qa,seval]<;>rfl) ?_;simp only[JL,Qa,seval]

include hl in
theorem Dj (hc:∀o∈L,Qi Tryz.prog c (Qn o :: AV.shL (AV.shL (AV.shL cs))) (Qe :: Qe :: Qe :: m) fun y m1=>y=.bool (p o)∧m1=Qe :: Qe :: Qe :: m) :
  Qi Tryz.prog 133 [.list (L.map Qn),.fn (.func c) [] cs] m fun y m1=>y=.bool (L.any p)∧m1=m:=by
 refine Qde.go (by simp) ?_;simp only[Qa,seval];refine Qk (QOE L hl p c (AV.shL cs) _ hc) (by simp only[QWj,QWO,Qa,seval]<;>rfl) ?_;simp only[Qa,seval]

end

section
variable (L:List PO)(hl:L.length≤maxLen)(p:PO→Bool)(c:Nat)(cs:List AV)(m:Qq)

def JxO (k:Nat)(st:St):Prop :=
 ∃f i,st=⟨f,Qe :: m,[]⟩∧k=L.length-i∧XH p L 0=XH p (L.drop i) i∧f 0=.list (L.map Qt)∧f 1=.fn (.func c) [] (AV.shL cs)∧f 7=.int .i64 (L.length:Nat)∧f 8=.int .i64 (i:Nat)

include hl in
theorem QOF (hc:∀o∈L,Qi Tryz.prog c (Qt o :: AV.shL cs) (Qe :: m) fun y m1=>y=.bool (p o)∧m1=Qe :: m) :
  Qi Tryz.prog 195 [.list (L.map Qt),.fn (.func c) [] cs] m fun y m1=>y=.int .i64 (XH p L 0)∧m1=m:=by
 refine P6.go (by simp) ?_;simp only[QWI,Qa,seval];refine Qd (JxO L p c cs m) _ ⟨_,0,rfl,rfl,rfl,(by rfl),(by rfl),(by rfl),(by rfl)⟩ ?_;rintro _ st ⟨f,i,rfl,rfl,hx,h0,h1,h7,h8⟩;simp only[h7,h8,Qa,seval];by_cases hlt:i<L.length
 ·obtain⟨x,hi⟩:∃x,L[i]? = some x:=⟨L[i],QVO hlt⟩;have hcl:=hc x (QV0 hi);have hg:(L.map Qt)[i]? = some (Qt x):=by simp[hi]
  have e1:=Qm i _ hlt hl;simp only[Qt,PO.cells]at hcl;simp only[Ql hlt,Qh,QXe,Qc,hg,Qt,PO.cells,h0,h1,h8,eE,seval];refine XJ (fa:=[]) (fb:=AV.shL cs) (by rfl) hcl (by simp only[QWj,QWO,QWa,QV9,Qa,seval]) ?_;rw[Je p hi]at hx;cases hp:p x
  ·rw[hp]at hx;simp only[QV6,if_false]at hx;simp only[h8,e1,Qa,seval];exact⟨L.length-(i+1),by omega,_,i+1,rfl,rfl,hx,(by exact h0),(by exact h1),(by exact h7),(by rfl)⟩
  ·rw[hp]at hx;simp only[if_true]at hx;simp only[hx,Qa,seval]
 ·have hx':XH p L 0 = -1:=by rw[hx,QWo (by omega)];rfl
  simp only[Qy hlt,hx',Qa,seval]

include hl in
theorem QOG (hc:∀o∈L,Qi Tryz.prog c (Qt o :: AV.shL (AV.shL cs)) (Qe :: Qe :: m) fun y m1=>y=.bool (p o)∧m1=Qe :: Qe :: m) :
  Qi Tryz.prog 209 [.list (L.map Qt),.fn (.func c) [] cs] m fun y m1=>y=.bool (L.any p)∧m1=m:=by
 refine Qit.go (by simp) ?_;simp only[Qa,seval];refine Qk (QOF L hl p c (AV.shL cs) _ hc) (by simp only[QWj,QWO,Qa,seval]<;>rfl) ?_;simp only[JL,Qa,seval]

include hl in
theorem Bf (hc:∀o∈L,Qi Tryz.prog c (Qt o :: AV.shL (AV.shL (AV.shL cs))) (Qe :: Qe :: Qe :: m) fun y m1=>y=.bool (p o)∧m1=Qe :: Qe :: Qe :: m) :
  Qi Tryz.prog 139 [.list (L.map Qt),.fn (.func c) [] cs] m fun y m1=>y=.bool (L.any p)∧m1=m:=by
 refine QdD.go (by simp) ?_;simp only[Qa,seval];refine Qk (QOG L hl p c (AV.shL cs) _ hc) (by simp only[QWj,QWO,Qa,seval]<;>rfl) ?_;simp only[Qa,seval]

end

section
variable (L:List PE)(hl:L.length≤maxLen)(p:PE→Bool)(c:Nat)(cs:List AV)(m:Qq)

def JxE (k:Nat)(st:St):Prop :=
 ∃f i,st=⟨f,Qe :: m,[]⟩∧k=L.length-i∧XH p L 0=XH p (L.drop i) i∧f 0=.list (L.map Qr)∧f 1=.fn (.func c) [] (AV.shL cs)∧f 7=.int .i64 (L.length:Nat)∧f 8=.int .i64 (i:Nat)

include hl in
theorem QOH (hc:∀o∈L,Qi Tryz.prog c (Qr o :: AV.shL cs) (Qe :: m) fun y m1=>y=.bool (p o)∧m1=Qe :: m) :
  Qi Tryz.prog 241 [.list (L.map Qr),.fn (.func c) [] cs] m fun y m1=>y=.int .i64 (XH p L 0)∧m1=m:=by
 refine Qj3.go (by simp) ?_;simp only[QWI,Qa,seval];refine Qd (JxE L p c cs m) _ ⟨_,0,rfl,rfl,rfl,(by rfl),(by rfl),(by rfl),(by rfl)⟩ ?_;rintro _ st ⟨f,i,rfl,rfl,hx,h0,h1,h7,h8⟩;simp only[h7,h8,Qa,seval];by_cases hlt:i<L.length
 ·obtain⟨x,hi⟩:∃x,L[i]? = some x:=⟨L[i],QVO hlt⟩;have hcl:=hc x (QV0 hi);have hg:(L.map Qr)[i]? = some (Qr x):=by simp[hi]
  have e1:=Qm i _ hlt hl;simp only[Qr,PE.cells]at hcl;simp only[Ql hlt,Qh,QXe,Qc,hg,Qr,PE.cells,h0,h1,h8,eE,seval];refine XJ (fa:=[]) (fb:=AV.shL cs) (by rfl) hcl (by simp only[QWj,QWO,QWa,QV9,Qa,seval]) ?_;rw[Je p hi]at hx;cases hp:p x
  ·rw[hp]at hx;simp only[QV6,if_false]at hx;simp only[h8,e1,Qa,seval];exact⟨L.length-(i+1),by omega,_,i+1,rfl,rfl,hx,(by exact h0),(by exact h1),(by exact h7),(by rfl)⟩
  ·rw[hp]at hx;simp only[if_true]at hx;simp only[hx,Qa,seval]
 ·have hx':XH p L 0 = -1:=by rw[hx,QWo (by omega)];rfl
  simp only[Qy hlt,hx',Qa,seval]

include hl in
theorem QOI (hc:∀o∈L,Qi Tryz.prog c (Qr o :: AV.shL (AV.shL cs)) (Qe :: Qe :: m) fun y m1=>y=.bool (p o)∧m1=Qe :: Qe :: m) :
  Qi Tryz.prog 204 [.list (L.map Qr),.fn (.func c) [] cs] m fun y m1=>y=.bool (L.any p)∧m1=m:=by
 refine QhQ.go (by simp) ?_;simp only[Qa,seval];refine Qk (QOH L hl p c (AV.shL cs) _ hc) (by simp only[QWj,QWO,Qa,seval]<;>rfl) ?_;simp only[JL,Qa,seval]

include hl in
theorem Hx (hc:∀o∈L,Qi Tryz.prog c (Qr o :: AV.shL (AV.shL (AV.shL cs))) (Qe :: Qe :: Qe :: m) fun y m1=>y=.bool (p o)∧m1=Qe :: Qe :: Qe :: m) :
  Qi Tryz.prog 135 [.list (L.map Qr),.fn (.func c) [] cs] m fun y m1=>y=.bool (L.any p)∧m1=m:=by
 refine Qdo.go (by simp) ?_;simp only[Qa,seval];refine Qk (QOI L hl p c (AV.shL cs) _ hc) (by simp only[QWj,QWO,Qa,seval]<;>rfl) ?_;simp only[Qa,seval]

end

section
variable (L:List PI)(hl:L.length≤maxLen)(p:PI→Bool)(c:Nat)(cs:List AV)(m:Qq)

def JxI (k:Nat)(st:St):Prop :=
 ∃f i,st=⟨f,Qe :: m,[]⟩∧k=L.length-i∧XH p L 0=XH p (L.drop i) i∧f 0=.list (L.map Xg)∧f 1=.fn (.func c) [] (AV.shL cs)∧f 7=.int .i64 (L.length:Nat)∧f 8=.int .i64 (i:Nat)

include hl in
theorem QOJ (hc:∀o∈L,Qi Tryz.prog c (Xg o :: AV.shL cs) (Qe :: m) fun y m1=>y=.bool (p o)∧m1=Qe :: m) :
  Qi Tryz.prog 245 [.list (L.map Xg),.fn (.func c) [] cs] m fun y m1=>y=.int .i64 (XH p L 0)∧m1=m:=by
 refine QNG.go (by simp) ?_;simp only[QWI,Qa,seval];refine Qd (JxI L p c cs m) _ ⟨_,0,rfl,rfl,rfl,(by rfl),(by rfl),(by rfl),(by rfl)⟩ ?_;rintro _ st ⟨f,i,rfl,rfl,hx,h0,h1,h7,h8⟩;simp only[h7,h8,Qa,seval];by_cases hlt:i<L.length
 ·obtain⟨x,hi⟩:∃x,L[i]? = some x:=⟨L[i],QVO hlt⟩;have hcl:=hc x (QV0 hi);have hg:(L.map Xg)[i]? = some (Xg x):=by simp[hi]
  have e1:=Qm i _ hlt hl;simp only[Xg,PI.cells]at hcl;simp only[Ql hlt,Qh,QXe,Qc,hg,Xg,PI.cells,h0,h1,h8,eE,seval];refine XJ (fa:=[]) (fb:=AV.shL cs) (by rfl) hcl (by simp only[QWj,QWO,QWa,QV9,Qa,seval]) ?_;rw[Je p hi]at hx;cases hp:p x
  ·rw[hp]at hx;simp only[QV6,if_false]at hx;simp only[h8,e1,Qa,seval];exact⟨L.length-(i+1),by omega,_,i+1,rfl,rfl,hx,(by exact h0),(by exact h1),(by exact h7),(by rfl)⟩
  ·rw[hp]at hx;simp only[if_true]at hx;simp only[hx,Qa,seval]
 ·have hx':XH p L 0 = -1:=by rw[hx,QWo (by omega)];rfl
  simp only[Qy hlt,hx',Qa,seval]

include hl in
theorem QOK (hc:∀o∈L,Qi Tryz.prog c (Xg o :: AV.shL (AV.shL cs)) (Qe :: Qe :: m) fun y m1=>y=.bool (p o)∧m1=Qe :: Qe :: m) :
  Qi Tryz.prog 211 [.list (L.map Xg),.fn (.func c) [] cs] m fun y m1=>y=.bool (L.any p)∧m1=m:=by
 refine QNa.go (by simp) ?_;simp only[Qa,seval];refine Qk (QOJ L hl p c (AV.shL cs) _ hc) (by simp only[QWj,QWO,Qa,seval]<;>rfl) ?_;simp only[JL,Qa,seval]

include hl in
theorem VS (hc:∀o∈L,Qi Tryz.prog c (Xg o :: AV.shL (AV.shL (AV.shL cs))) (Qe :: Qe :: Qe :: m) fun y m1=>y=.bool (p o)∧m1=Qe :: Qe :: Qe :: m) :
  Qi Tryz.prog 143 [.list (L.map Xg),.fn (.func c) [] cs] m fun y m1=>y=.bool (L.any p)∧m1=m:=by
 refine QLY.go (by simp) ?_;simp only[Qa,seval];refine Qk (QOK L hl p c (AV.shL cs) _ hc) (by simp only[QWj,QWO,Qa,seval]<;>rfl) ?_;simp only[Qa,seval]

end

section
variable (L:List PS)(hl:L.length≤maxLen)(p:PS→Bool)(c:Nat)(cs:List AV)(m:Qq)

def JxS (k:Nat)(st:St):Prop :=
 ∃f i,st=⟨f,Qe :: m,[]⟩∧k=L.length-i∧XH p L 0=XH p (L.drop i) i∧f 0=.list (L.map X3)∧f 1=.fn (.func c) [] (AV.shL cs)∧f 7=.int .i64 (L.length:Nat)∧f 8=.int .i64 (i:Nat)

include hl in
theorem QOL (hc:∀o∈L,Qi Tryz.prog c (X3 o :: AV.shL cs) (Qe :: m) fun y m1=>y=.bool (p o)∧m1=Qe :: m) :
  Qi Tryz.prog 276 [.list (L.map X3),.fn (.func c) [] cs] m fun y m1=>y=.int .i64 (XH p L 0)∧m1=m:=by
 refine QOb.go (by simp) ?_;simp only[QWI,Qa,seval];refine Qd (JxS L p c cs m) _ ⟨_,0,rfl,rfl,rfl,(by rfl),(by rfl),(by rfl),(by rfl)⟩ ?_;rintro _ st ⟨f,i,rfl,rfl,hx,h0,h1,h7,h8⟩;simp only[h7,h8,Qa,seval];by_cases hlt:i<L.length
 ·obtain⟨x,hi⟩:∃x,L[i]? = some x:=⟨L[i],QVO hlt⟩;have hcl:=hc x (QV0 hi);have hg:(L.map X3)[i]? = some (X3 x):=by simp[hi]
  have e1:=Qm i _ hlt hl;simp only[X3,PS.cells]at hcl;simp only[Ql hlt,Qh,QXe,Qc,hg,X3,PS.cells,h0,h1,h8,eE,seval];refine XJ (fa:=[]) (fb:=AV.shL cs) (by rfl) hcl (by simp only[QWj,QWO,QWa,QV9,Qa,seval]) ?_;rw[Je p hi]at hx;cases hp:p x
  ·rw[hp]at hx;simp only[QV6,if_false]at hx;simp only[h8,e1,Qa,seval];exact⟨L.length-(i+1),by omega,_,i+1,rfl,rfl,hx,(by exact h0),(by exact h1),(by exact h7),(by rfl)⟩
  ·rw[hp]at hx;simp only[if_true]at hx;simp only[hx,Qa,seval]
 ·have hx':XH p L 0 = -1:=by rw[hx,QWo (by omega)];rfl
  simp only[Qy hlt,hx',Qa,seval]

include hl in
theorem QOM (hc:∀o∈L,Qi Tryz.prog c (X3 o :: AV.shL (AV.shL cs)) (Qe :: Qe :: m) fun y m1=>y=.bool (p o)∧m1=Qe :: Qe :: m) :
  Qi Tryz.prog 246 [.list (L.map X3),.fn (.func c) [] cs] m fun y m1=>y=.bool (L.any p)∧m1=m:=by
 refine QNJ.go (by simp) ?_;simp only[Qa,seval];refine Qk (QOL L hl p c (AV.shL cs) _ hc) (by simp only[QWj,QWO,Qa,seval]<;>rfl) ?_;simp only[JL,Qa,seval]

end

section
variable (L:List (List UInt8))(hl:L.length≤maxLen)(p:(List UInt8)→Bool)(c:Nat)(cs:List AV)(m:Qq)

def JxR (k:Nat)(st:St):Prop :=
 ∃f i,st=⟨f,Qe :: m,[]⟩∧k=L.length-i∧XH p L 0=XH p (L.drop i) i∧f 0=.list (L.map Zj)∧f 1=.fn (.func c) [] (AV.shL cs)∧f 7=.int .i64 (L.length:Nat)∧f 8=.int .i64 (i:Nat)

include hl in
theorem QON (hc:∀o∈L,Qi Tryz.prog c (Zj o :: AV.shL cs) (Qe :: m) fun y m1=>y=.bool (p o)∧m1=Qe :: m) :
  Qi Tryz.prog 242 [.list (L.map Zj),.fn (.func c) [] cs] m fun y m1=>y=.int .i64 (XH p L 0)∧m1=m:=by
 refine Qkf.go (by simp) ?_;simp only[QWI,Qa,seval];refine Qd (JxR L p c cs m) _ ⟨_,0,rfl,rfl,rfl,(by rfl),(by rfl),(by rfl),(by rfl)⟩ ?_;rintro _ st ⟨f,i,rfl,rfl,hx,h0,h1,h7,h8⟩;simp only[h7,h8,Qa,seval];by_cases hlt:i<L.length
 ·obtain⟨x,hi⟩:∃x,L[i]? = some x:=⟨L[i],QVO hlt⟩;have hcl:=hc x (QV0 hi);have hg:(L.map Zj)[i]? = some (Zj x):=by simp[hi]
  have e1:=Qm i _ hlt hl;simp only[Zj]at hcl;simp only[Ql hlt,Qh,QXe,Qc,hg,Zj,h0,h1,h8,eE,seval];refine XJ (fa:=[]) (fb:=AV.shL cs) (by rfl) hcl (by simp only[QWj,QWO,QWa,QV9,Qa,seval]) ?_;rw[Je p hi]at hx;cases hp:p x
  ·rw[hp]at hx;simp only[QV6,if_false]at hx;simp only[h8,e1,Qa,seval];exact⟨L.length-(i+1),by omega,_,i+1,rfl,rfl,hx,(by exact h0),(by exact h1),(by exact h7),(by rfl)⟩
  ·rw[hp]at hx;simp only[if_true]at hx;simp only[hx,Qa,seval]
 ·have hx':XH p L 0 = -1:=by rw[hx,QWo (by omega)];rfl
  simp only[Qy hlt,hx',Qa,seval]

include hl in
theorem QOO (hc:∀o∈L,Qi Tryz.prog c (Zj o :: AV.shL (AV.shL cs)) (Qe :: Qe :: m) fun y m1=>y=.bool (p o)∧m1=Qe :: Qe :: m) :
  Qi Tryz.prog 206 [.list (L.map Zj),.fn (.func c) [] cs] m fun y m1=>y=.bool (L.any p)∧m1=m:=by
 refine Qh7.go (by simp) ?_;simp only[Qa,seval];refine Qk (QON L hl p c (AV.shL cs) _ hc) (by simp only[QWj,QWO,Qa,seval]<;>rfl) ?_;simp only[JL,Qa,seval]

end

section
variable (L:List PG)(hl:L.length≤maxLen)(lt:PG→PG→Bool)(c:Nat)(cs:List AV)(m:Qq)

def AxG (k:Nat)(st:St):Prop :=
 ∃f i,st=⟨f,Qe :: m,[]⟩∧k=L.length-(i+1)∧QC (Xc L lt) (i+1)=true∧f 0=.list (L.map Qn)∧f 1=.fn (.func c) [] (AV.shL cs)∧f 5=.int .i64 ((i+1:Nat):Int)

include hl in
theorem QOP (hc:∀x∈L,∀y∈L,Qi Tryz.prog c (Qn x :: Qn y :: AV.shL cs) (Qe :: m) fun r m1=>r=.bool (lt x y)∧m1=Qe :: m) :
  Qi Tryz.prog 145 [.list (L.map Qn),.fn (.func c) [] cs] m fun y m1=>y=.bool (XR L lt)∧m1=m:=by
 refine QdY.go (by simp) ?_;simp only[Qa,seval];refine Qd (AxG L lt c cs m) _ ⟨_,0,rfl,rfl,rfl,(by rfl),(by rfl),(by rfl)⟩ ?_;rintro _ st ⟨f,i,rfl,rfl,hx,h0,h1,h5⟩;simp only[QWI,h0,h5,Qa,seval];by_cases hlt:i+1<L.length
 ·obtain⟨x,hi⟩:∃x,L[i]? = some x:=⟨L[i]'(by omega),QVO (by omega)⟩;obtain⟨y,hj⟩:∃y,L[i+1]? = some y:=⟨L[i+1],QVO hlt⟩;have hcl:=hc x (QV0 hi) y (QV0 hj);have hg:(L.map Qn)[i]? = some (Qn x):=by simp[hi]
  have hh:(L.map Qn)[i+1]? = some (Qn y):=by simp[hj]
  have e1:=Qm (i+1) _ hlt hl;have e2:=Wr i _ hlt hl;simp only[Qn,PG.cells]at hcl;simp only[Ql hlt,e2,Qh,QXe,Qc,hg,hh,Qn,PG.cells,h0,h1,h5,eE,seval];refine XJ (fa:=[]) (fb:=AV.shL cs) (by rfl) hcl (by simp only[QWj,QWO,QWa,QV9,Qa,seval]) ?_;have hs:QC (Xc L lt) (i+2)=lt x y:=by
   show(QC (Xc L lt) (i+1)&&Xc L lt (i+1))=_;rw[hx,Jf hi hj,QXo]
  cases hp:lt x y
  ·rw[hp]at hs;have hf:XR L lt=false:=by
    rw[QXA];intro h';rw[QK.2 fun k hk=>QK.1 h' k (by omega)]at hs;cases hs
   simp only[hf,Qa,seval]
  ·rw[hp]at hs;simp only[h5,e1,Qa,seval];exact⟨L.length-(i+2),by omega,_,i+1,rfl,rfl,hs,(by exact h0),(by exact h1),(by rfl)⟩
 ·have hf:XR L lt=true:=QK.2 fun k hk=>QK.1 hx k (by omega)
  simp only[Qy hlt,hf,Qa,seval]

end

section
variable (L:List PO)(hl:L.length≤maxLen)(lt:PO→PO→Bool)(c:Nat)(cs:List AV)(m:Qq)

def AxO (k:Nat)(st:St):Prop :=
 ∃f i,st=⟨f,Qe :: m,[]⟩∧k=L.length-(i+1)∧QC (Xc L lt) (i+1)=true∧f 0=.list (L.map Qt)∧f 1=.fn (.func c) [] (AV.shL cs)∧f 5=.int .i64 ((i+1:Nat):Int)

include hl in
theorem QOQ (hc:∀x∈L,∀y∈L,Qi Tryz.prog c (Qt x :: Qt y :: AV.shL cs) (Qe :: m) fun r m1=>r=.bool (lt x y)∧m1=Qe :: m) :
  Qi Tryz.prog 150 [.list (L.map Qt),.fn (.func c) [] cs] m fun y m1=>y=.bool (XR L lt)∧m1=m:=by
 refine Qep.go (by simp) ?_;simp only[Qa,seval];refine Qd (AxO L lt c cs m) _ ⟨_,0,rfl,rfl,rfl,(by rfl),(by rfl),(by rfl)⟩ ?_;rintro _ st ⟨f,i,rfl,rfl,hx,h0,h1,h5⟩;simp only[QWI,h0,h5,Qa,seval];by_cases hlt:i+1<L.length
 ·obtain⟨x,hi⟩:∃x,L[i]? = some x:=⟨L[i]'(by omega),QVO (by omega)⟩;obtain⟨y,hj⟩:∃y,L[i+1]? = some y:=⟨L[i+1],QVO hlt⟩;have hcl:=hc x (QV0 hi) y (QV0 hj);have hg:(L.map Qt)[i]? = some (Qt x):=by simp[hi]
  have hh:(L.map Qt)[i+1]? = some (Qt y):=by simp[hj]
  have e1:=Qm (i+1) _ hlt hl;have e2:=Wr i _ hlt hl;simp only[Qt,PO.cells]at hcl;simp only[Ql hlt,e2,Qh,QXe,Qc,hg,hh,Qt,PO.cells,h0,h1,h5,eE,seval];refine XJ (fa:=[]) (fb:=AV.shL cs) (by rfl) hcl (by simp only[QWj,QWO,QWa,QV9,Qa,seval]) ?_;have hs:QC (Xc L lt) (i+2)=lt x y:=by
   show(QC (Xc L lt) (i+1)&&Xc L lt (i+1))=_;rw[hx,Jf hi hj,QXo]
  cases hp:lt x y
  ·rw[hp]at hs;have hf:XR L lt=false:=by
    rw[QXA];intro h';rw[QK.2 fun k hk=>QK.1 h' k (by omega)]at hs;cases hs
   simp only[hf,Qa,seval]
  ·rw[hp]at hs;simp only[h5,e1,Qa,seval];exact⟨L.length-(i+2),by omega,_,i+1,rfl,rfl,hs,(by exact h0),(by exact h1),(by rfl)⟩
 ·have hf:XR L lt=true:=QK.2 fun k hk=>QK.1 hx k (by omega)
  simp only[Qy hlt,hf,Qa,seval]

end

section
variable (L:List PE)(hl:L.length≤maxLen)(lt:PE→PE→Bool)(c:Nat)(cs:List AV)(m:Qq)

def AxE (k:Nat)(st:St):Prop :=
 ∃f i,st=⟨f,Qe :: m,[]⟩∧k=L.length-(i+1)∧QC (Xc L lt) (i+1)=true∧f 0=.list (L.map Qr)∧f 1=.fn (.func c) [] (AV.shL cs)∧f 5=.int .i64 ((i+1:Nat):Int)

include hl in
theorem QOR (hc:∀x∈L,∀y∈L,Qi Tryz.prog c (Qr x :: Qr y :: AV.shL cs) (Qe :: m) fun r m1=>r=.bool (lt x y)∧m1=Qe :: m) :
  Qi Tryz.prog 147 [.list (L.map Qr),.fn (.func c) [] cs] m fun y m1=>y=.bool (XR L lt)∧m1=m:=by
 refine Qd9.go (by simp) ?_;simp only[Qa,seval];refine Qd (AxE L lt c cs m) _ ⟨_,0,rfl,rfl,rfl,(by rfl),(by rfl),(by rfl)⟩ ?_;rintro _ st ⟨f,i,rfl,rfl,hx,h0,h1,h5⟩;simp only[QWI,h0,h5,Qa,seval];by_cases hlt:i+1<L.length
 ·obtain⟨x,hi⟩:∃x,L[i]? = some x:=⟨L[i]'(by omega),QVO (by omega)⟩;obtain⟨y,hj⟩:∃y,L[i+1]? = some y:=⟨L[i+1],QVO hlt⟩;have hcl:=hc x (QV0 hi) y (QV0 hj);have hg:(L.map Qr)[i]? = some (Qr x):=by simp[hi]
  have hh:(L.map Qr)[i+1]? = some (Qr y):=by simp[hj]
  have e1:=Qm (i+1) _ hlt hl;have e2:=Wr i _ hlt hl;simp only[Qr,PE.cells]at hcl;simp only[Ql hlt,e2,Qh,QXe,Qc,hg,hh,Qr,PE.cells,h0,h1,h5,eE,seval];refine XJ (fa:=[]) (fb:=AV.shL cs) (by rfl) hcl (by simp only[QWj,QWO,QWa,QV9,Qa,seval]) ?_;have hs:QC (Xc L lt) (i+2)=lt x y:=by
   show(QC (Xc L lt) (i+1)&&Xc L lt (i+1))=_;rw[hx,Jf hi hj,QXo]
  cases hp:lt x y
  ·rw[hp]at hs;have hf:XR L lt=false:=by
    rw[QXA];intro h';rw[QK.2 fun k hk=>QK.1 h' k (by omega)]at hs;cases hs
   simp only[hf,Qa,seval]
  ·rw[hp]at hs;simp only[h5,e1,Qa,seval];exact⟨L.length-(i+2),by omega,_,i+1,rfl,rfl,hs,(by exact h0),(by exact h1),(by rfl)⟩
 ·have hf:XR L lt=true:=QK.2 fun k hk=>QK.1 hx k (by omega)
  simp only[Qy hlt,hf,Qa,seval]

end

section
variable (L:List PI)(hl:L.length≤maxLen)(lt:PI→PI→Bool)(c:Nat)(cs:List AV)(m:Qq)

def AxI (k:Nat)(st:St):Prop :=
 ∃f i,st=⟨f,Qe :: m,[]⟩∧k=L.length-(i+1)∧QC (Xc L lt) (i+1)=true∧f 0=.list (L.map Xg)∧f 1=.fn (.func c) [] (AV.shL cs)∧f 5=.int .i64 ((i+1:Nat):Int)

include hl in
theorem QOS (hc:∀x∈L,∀y∈L,Qi Tryz.prog c (Xg x :: Xg y :: AV.shL cs) (Qe :: m) fun r m1=>r=.bool (lt x y)∧m1=Qe :: m) :
  Qi Tryz.prog 153 [.list (L.map Xg),.fn (.func c) [] cs] m fun y m1=>y=.bool (XR L lt)∧m1=m:=by
 refine QMd.go (by simp) ?_;simp only[Qa,seval];refine Qd (AxI L lt c cs m) _ ⟨_,0,rfl,rfl,rfl,(by rfl),(by rfl),(by rfl)⟩ ?_;rintro _ st ⟨f,i,rfl,rfl,hx,h0,h1,h5⟩;simp only[QWI,h0,h5,Qa,seval];by_cases hlt:i+1<L.length
 ·obtain⟨x,hi⟩:∃x,L[i]? = some x:=⟨L[i]'(by omega),QVO (by omega)⟩;obtain⟨y,hj⟩:∃y,L[i+1]? = some y:=⟨L[i+1],QVO hlt⟩;have hcl:=hc x (QV0 hi) y (QV0 hj);have hg:(L.map Xg)[i]? = some (Xg x):=by simp[hi]
  have hh:(L.map Xg)[i+1]? = some (Xg y):=by simp[hj]
  have e1:=Qm (i+1) _ hlt hl;have e2:=Wr i _ hlt hl;simp only[Xg,PI.cells]at hcl;simp only[Ql hlt,e2,Qh,QXe,Qc,hg,hh,Xg,PI.cells,h0,h1,h5,eE,seval];refine XJ (fa:=[]) (fb:=AV.shL cs) (by rfl) hcl (by simp only[QWj,QWO,QWa,QV9,Qa,seval]) ?_;have hs:QC (Xc L lt) (i+2)=lt x y:=by
   show(QC (Xc L lt) (i+1)&&Xc L lt (i+1))=_;rw[hx,Jf hi hj,QXo]
  cases hp:lt x y
  ·rw[hp]at hs;have hf:XR L lt=false:=by
    rw[QXA];intro h';rw[QK.2 fun k hk=>QK.1 h' k (by omega)]at hs;cases hs
   simp only[hf,Qa,seval]
  ·rw[hp]at hs;simp only[h5,e1,Qa,seval];exact⟨L.length-(i+2),by omega,_,i+1,rfl,rfl,hs,(by exact h0),(by exact h1),(by rfl)⟩
 ·have hf:XR L lt=true:=QK.2 fun k hk=>QK.1 hx k (by omega)
  simp only[Qy hlt,hf,Qa,seval]

end

def cl (c:Nat):Int:=if 97≤c∧c≤122 then 1 else if 65≤c∧c≤90 then 2 else if 48≤c∧c≤57 then 3 else if c=95 then 4 else 0

theorem QOT (c:Nat):Qj Tryz.prog 244 [.int .i32 (c:Nat)] (.int .i64 (cl c)):=by
 refine QkG.fn (by simp) ?_;simp only[Qa,seval]
 repeat' (first|(refine Q1 (fun h=>?_) (fun h=>?_)<;>simp only[h,Qa,seval])|(refine Xz (fun h=>?_) (fun h=>?_)<;>simp only[h,Qo,Qa,seval])|(refine XA (fun h=>?_) (fun h=>?_)<;>simp only[h,Qo,eE,seval]))
 all_goals((try simp only[QVS,QXE,QVT,QXt,ne_eq]at *)<;>unfold cl<;>(repeat' split)<;>first|rfl|(exfalso;omega))

theorem VT {s:List UInt8}{i:Nat}{c:UInt8}(h:s[i]? = some c):(c.toNat<128→Xi s i=(c.toNat,1))∧(128≤c.toNat→128≤(Xi s i).1):=by
 have g0:(⟨⟨s⟩⟩:ByteArray).get! (i+0)=c:=by
  show(⟨s⟩:Array UInt8)[i+0]! = c;simp[h]
 constructor
 ·intro hc;simp only[Xi,Utf8.decode,g0];rw[QWg hc]
 ·intro hc;simp only[Xi,Utf8.decode,g0];rw[QV1 (by omega)]
  (repeat' split)<;>simp only[ge_iff_le,QWb,QVS,Utf8.runeError]at *<;>omega

def pq (s:List UInt8)(j:Nat):Bool:=match s[j]? with
 |some c=>if j=0 then JD c else Z3 c
 |none=>true
theorem WP {s:List UInt8}{j:Nat}{c:UInt8}(h:s[j]? = some c):pq s j=if j=0 then JD c else Z3 c:=by
 unfold pq;rw[h]

theorem Bg {c:UInt8}(h:JD c=true):Z3 c=true:=by unfold Z3;rw[h];rfl

theorem KG (s:List UInt8):QY s=(decide (1≤s.length)&&decide (s.length≤40)&&QC (pq s) s.length):=by
 cases s with
 |nil=>rfl
 |cons c t=>
  have h1:decide (1≤(c :: t).length)=true:=by simp
  rw[h1,QXo];show(decide ((c :: t).length≤40)&&JD c&&t.all Z3)=_;rw[QWx];congr 1
  rw[QWH,QWb,QK,QVZ]
  constructor
  ·rintro⟨h2,h3⟩ i hi;cases i with
   |zero=>rw[WP (c:=c) rfl,QWg rfl];exact h2
   |succ i=>
    have hlt:i<t.length:=by simpa using hi
    rw[WP (c:=t[i]) (by simp[QVO hlt]),QV1 (by omega)];exact h3 _ (QWF _)
  ·intro h;refine⟨?_,fun x hx=>?_⟩
   ·have:=h 0 (by simp)
    rwa [WP (c:=c) rfl,QWg rfl]at this
   ·obtain⟨i,hi⟩:=QVY.1 hx;have hlt:=(QVN.1 hi).1;have:=h (i+1) (by simpa using hlt)
    rwa [WP (c:=x) (by simpa using hi),QV1 (by omega)]at this

theorem QGt {s:List UInt8}{i:Nat}{c:UInt8}(h:s[i]? = some c)(r:Nat)(hr:(c.toNat<128→r=c.toNat)∧(128≤c.toNat→128≤r)) :
  (cl r==0||((i:Int)==0&&(cl r != 1&&cl r != 2)))=!pq s i:=by
 rw[WP h];obtain⟨h1,h2⟩:=hr;have hc:=c.toNat_lt;unfold cl JD Z3 JD;generalize c.toNat=x at *;by_cases hx:x<128
 ·have e:=h1 hx;subst e;by_cases hi:i=0
  ·subst hi;rw[QWg rfl]
   (repeat' split)<;>simp<;>omega
  ·rw[QV1 hi];have hz:((i:Int)==0)=false:=by simp;omega
   rw[hz]
   (repeat' split)<;>simp<;>omega
 ·have:=h2 (by omega);have e:(if 97≤r∧r≤122 then(1:Int)else if 65≤r∧r≤90 then 2 else if 48≤r∧r≤57 then 3 else if r=95 then 4 else 0)=0:=by
   rw[QV1 (by omega),QV1 (by omega),QV1 (by omega),QV1 (by omega)]
  rw[e];split<;>simp<;>omega

def PaI (s:List UInt8)(k:Nat)(st:St):Prop :=
 ∃f fr i,st=⟨f,[fr],[]⟩∧k=s.length-i∧i≤s.length∧QC (pq s) i=true∧f 0=.str s∧f 7=.ptr 0 7 0∧fr 7=.iter (.str s) i

theorem Qvt (s:List UInt8):Qj Tryz.prog 210 [.str s] (.bool (QY s)):=by
 refine QiF.fn (by simp) ?_;simp only[Qa,seval];refine DI rfl rfl ?_;simp only[Qa,seval];refine Qd (PaI s) s.length ⟨_,_,0,rfl,rfl,QVV _,rfl,(by rfl),(by rfl),(by rfl)⟩ ?_;rintro _ st ⟨f,fr,i,rfl,rfl,hi,hx,h0,h7,m7⟩;simp only[Qa,seval];refine DJ (by exact h7) m7 (fun hlt=>?_) (fun hge=>?_)
 ·obtain⟨c,hc⟩:∃c,s[i]? = some c:=⟨s[i],QVO hlt⟩;obtain⟨u1,u2⟩:=VT hc;have hcl:=QOT (Xi s i).1;have hq:=QGt hc (Xi s i).1 ⟨fun h=>by rw[u1 h],u2⟩;have hw:pq s i=true→(Xi s i).2=1:=by
   intro h;rw[u1];rw[WP hc]at h;have hp:Z3 c=true:=by
    split at h
    ·exact Bg h
    ·exact h
   unfold Z3 JD at hp;simp at hp;omega
  generalize Xi s i=cw at hcl hq hw;obtain⟨r,w⟩:=cw;simp only[Qa,seval];refine Qb hcl rfl rfl rfl (.inl rfl) ?_;have hstep:QC (pq s) (i+1)=pq s i:=by rw[QC,hx,QXo]
  have hend:pq s i=false→QY s=false:=by
   intro h;rw[KG,VR hlt h,QXF]
  simp only at hq hw;generalize cl r=k at hq;cases hp:pq s i
  ·rw[hp]at hq;have he:=hend hp;simp only[he,Qa,seval];cases a1:(k==0)
   ·cases a2:((i:Int)==0)
    ·simp[a1,a2]at hq
    ·cases a3:(k != 1)
     ·simp[a1,a2,a3]at hq
     ·cases a4:(k != 2)
      ·simp[a1,a2,a3,a4]at hq
      ·simp only[a2,a3,a4,Qa,seval]
   ·simp only[Qa,seval]
  ·rw[hp]at hq;have hw:=hw hp;subst hw;simp only[Qa,seval];cases a1:(k==0)
   ·cases a2:((i:Int)==0)
    ·simp only[a2,Qa,seval];exact⟨s.length-(i+1),by omega,_,_,i+1,rfl,rfl,by omega,by rw[hstep,hp],(by exact h0),(by exact h7),(by rfl)⟩
    ·cases a3:(k != 1)
     ·simp only[a2,a3,Qa,seval];exact⟨s.length-(i+1),by omega,_,_,i+1,rfl,rfl,by omega,by rw[hstep,hp],(by exact h0),(by exact h7),(by rfl)⟩
     ·cases a4:(k != 2)
      ·simp only[a2,a3,a4,Qa,seval];exact⟨s.length-(i+1),by omega,_,_,i+1,rfl,rfl,by omega,by rw[hstep,hp],(by exact h0),(by exact h7),(by rfl)⟩
      ·simp[a1,a2,a3,a4]at hq
   ·simp[a1]at hq
 ·have hii:i=s.length:=by omega
  subst hii;have e1:decide (((s.length:Nat):Int)≥1)=decide (1≤s.length):=by rw[decide_eq_decide];omega
  have e2:decide (((s.length:Nat):Int)≤40)=decide (s.length≤40):=by rw[decide_eq_decide];omega
  have e3:QY s=(decide (1≤s.length)&&decide (s.length≤40)):=by rw[KG,hx,QW0]
  simp only[h0,e1,e3,Qa,seval];cases a1:decide (1≤s.length)<;>simp only[QXo,QXh,h0,e2,Qa,seval]

theorem QOU (s:List UInt8):Qj Tryz.prog 208 [.str s] (.bool (Zd s)):=by
 refine P8.fn (by simp) ?_;simp only[QL,Qa,seval];have e:Zd s=Yw.any fun w=>s==w:=rfl
 simp only[Yw,List.any_cons,List.any_nil,QXG]at e
 repeat' (first|(refine Q1 (fun h=>?_) (fun h=>?_)<;>simp only[h,QL,Qa,seval])|(refine Xz (fun h=>?_) (fun h=>?_)<;>simp only[h,Qo,QL,eE,seval])|(refine XA (fun h=>?_) (fun h=>?_)<;>simp only[h,Qo,QL,eE,seval]))
 all_goals(simp only[*,QXr,Bool.or_true,QXG]at e;simp only[e])

theorem QOV (s:List UInt8):Qj Tryz.prog 274 [.str s,.str [46]] (.int .i64 (s.count 46:Nat)):=by
 refine Qlm.fn (by simp) ?_;have b0:(((1:Nat):Int)==0)=false:=rfl;have b1:(((1:Nat):Int)==1)=true:=rfl;have b2:([(46:UInt8)])[Int.toNat 0]? = some 46:=rfl;simp only[QV2,QWJ,QWt,Qa,seval];refine Nt rfl rfl ?_;simp only[HX,Lib.countByte,Qa,seval]
 try rfl

theorem QOW (s:List UInt8):Qj Tryz.prog 300 [.str s,.int .u8 46] (.int .i64 (Lib.indexByte s 46)):=by
 refine QlS.fn (by simp) ?_;simp only[Qa,seval];refine Nt rfl rfl ?_;simp only[HX,QV6,Qa,seval]
 try rfl

theorem QOX (s:List UInt8):Qj Tryz.prog 292 [.str s,.str [46]] (.int .i64 (Lib.indexByte s 46)):=by
 refine QlA.fn (by simp) ?_;have b0:(((1:Nat):Int)==0)=false:=rfl;have b1:(((1:Nat):Int)==1)=true:=rfl;have b2:([(46:UInt8)])[Int.toNat 0]? = some 46:=rfl;have hk:=QOW s;simp only[VN,Mu,Mv,Mw,Mx,My,Mz,MA,MB,MD,VN,P9,QV2,QWJ,QWt,QL,Qa,seval];cases h:(([46]:List UInt8)==s)
 ·simp only[Qa,seval];refine Qb hk rfl rfl rfl (.inl rfl) ?_;simp only[Qa,seval]
 ·have hs:s=[46]:=by simpa using (QVT.1 h).symm
  subst hs;simp only[Qa,seval]
  try rfl

theorem QOY (s:List UInt8):Qj Tryz.prog 275 [.str s,.str [46]] (.int .i64 (Lib.indexByte s 46)):=by
 refine Qlr.fn (by simp) ?_;simp only[Qa,seval];refine Qb (QOX s) rfl rfl rfl (.inl rfl) ?_;simp only[Qa,seval]

theorem MZ {t:List UInt8}{o:Nat}(h:Lib.indexByte t 46=(o:Int)):o<t.length∧t=t.take o++46 :: t.drop (o+1)∧∀c∈t.take o,c≠46:=by
 obtain⟨h1,h2⟩:=Lib.indexByte_some h;have hlt:=(QVN.1 h1).1;refine⟨hlt,?_,?_⟩
 ·have h3:t[o]=46:=(QVN.1 h1).2;rw[←h3,←QWv hlt,QW3]
 ·intro c hc e;subst e;obtain⟨k,hk⟩:=QVY.1 hc;rw[QWq]at hk;split at hk
  ·exact h2 k ‹_› hk
  ·cases hk

theorem Rn {t:List UInt8}(h:Lib.indexByte t 46 = -1):Qp t=[t]:=by
 refine WO fun c hc e=>?_
 subst e;obtain⟨k,hk⟩:=QVY.1 hc;exact Lib.indexByte_none h k hk

theorem M0 {t:List UInt8}{o:Nat}(h:Lib.indexByte t 46=(o:Int)):Qp t=t.take o :: Qp (t.drop (o+1)):=by
 obtain⟨_,h2,h3⟩:=MZ h
 conv=>lhs;rw[h2]
 exact Gr h3

theorem Qvu (t:List UInt8):Lib.indexByte t 46 = -1∨∃o:Nat,Lib.indexByte t 46=(o:Int):=by
 have:=Lib.indexByte_ge t 46;by_cases h:Lib.indexByte t 46 = -1
 ·exact .inl h
 ·obtain⟨o,ho⟩:=QXq (a:=Lib.indexByte t 46) (by omega);exact .inr ⟨o,ho⟩

def SpI (s:List UInt8)(n:Nat)(k:Nat)(st:St):Prop :=
 ∃f fr t done,st=⟨f,[fr],[]⟩∧k=(Qp t).length∧Qp s=done++Qp t∧n=done.length+(Qp t).length∧t.length≤s.length∧
  f 0=.str t∧f 1=.str [46]∧f 2=.int .i64 0∧f 3=.int .i64 ((n-1:Nat):Int)∧f 9=.vec 0 31 1 0 n false∧f 10=.int .i64 (done.length:Nat)∧fr 31=.vec 1 1 (done.map Zj++List.replicate (Qp t).length (.str []))

theorem Ro (done:List (List UInt8))(x:List UInt8)(n:Nat)(h:0<n):(done.map Zj++List.replicate n (AV.str [])).set done.length (.str x)=(done++[x]).map Zj++List.replicate (n-1) (AV.str []):=by
 obtain⟨k,rfl⟩:∃k,n=k+1:=⟨n-1,by omega⟩;rw[List.set_append_right _ _ (by simp)];simp[Zj,List.replicate_succ]

theorem QOZ (s:List UInt8)(hs:s.length≤17592186044000):Qj Tryz.prog 243 [.str s,.str [46],.int .i64 0,.int .i64 (-1)] (.list ((Qp s).map Zj)):=by
 have hl:=Ue s;have hc:s.count 46≤s.length:=List.count_le_length;have hm:(Qp s).length≤s.length+1:=by omega
 have b0:((-1:Int)==0)=false:=rfl;have b1:decide ((-1:Int)<0)=true:=rfl;have e1:IntKind.i64.wrap ((s.count 46:Nat)+1:Int)=((Qp s).length:Nat):=by rw[QG];omega
 have e2:IntKind.i64.wrap ((s.length:Nat)+1:Int)=((s.length+1:Nat):Int):=by rw[QG];omega
 have e3':(((s.length+1:Nat):Int)<((Qp s).length:Nat))=False:=eq_false (by omega);have e4:IntKind.i64.wrap (((Qp s).length:Nat)-1:Int)=(((Qp s).length-1:Nat):Int):=by rw[QG];omega
 have hz:JH 1 [AV.str []]=.str []:=rfl;refine Qkt.fn (by simp) ?_;simp only[b0,QL,Qa,seval];have b2:(([46]:List UInt8)==[])=false:=rfl;simp only[b2,Qa,seval];refine Qb (QOV s) rfl rfl rfl (.inl rfl) ?_;simp only[e1,e2,e3',Qa,seval];refine UG (n:=(Qp s).length) (k:=(Qp s).length) rfl rfl (QVL _) (by omega) (by omega) rfl ?_;simp only[e4,hz,Qa,seval];refine Qd (SpI s (Qp s).length) _ ⟨_,_,s,[],rfl,rfl,rfl,by simp,QVL _,(by rfl),(by rfl),(by rfl),(by rfl),(by rfl),(by rfl),(by rfl)⟩ ?_;rintro _ st ⟨f,fr,t,done,rfl,rfl,hp,hn,ht,h0,h1,h2,h3,h9,h10,m31⟩;simp only[h3,h10,Qa,seval];have hpos:0<(Qp t).length:=QW8.2 (Kv t);have ia:Qc [fr] 1 none (.vec 0 31 1 0 (Qp s).length false) ((done.length:Nat):Int)=some (.vptr 0 31 1 done.length 0):=by
  have e:Am.Qg [fr] 0 31=.vec 1 1 (done.map Zj++List.replicate (Qp t).length (.str [])):=m31;simp only[Qc,e,Qh,if_true,QXe];simp;omega
 have ist:∀x:List UInt8,QV [fr] (.vptr 0 31 1 done.length 0) [.str x]=some [QJ fr 31 (.vec 1 1 ((done++[x]).map Zj++List.replicate ((Qp t).length-1) (.str [])))]:=by
  intro x;have e:Am.Qg [fr] 0 31=.vec 1 1 (done.map Zj++List.replicate (Qp t).length (.str [])):=m31;have hy:(done.map Zj++List.replicate (Qp t).length (.str []))[done.length]? = some (.str []):=by
   rw[QXd (by simp)];simp[hpos]
  have hx:ZC (.str []) 0 [.str x]=.str x:=rfl;simp only[QV,e,hy,if_true,←Ro done x _ hpos];simp[AV.cells,AV.rfL,AV.rf,Am.put,hx]
 have ew:IntKind.i64.wrap ((done.length:Nat)+1:Int)=((done.length+1:Nat):Int):=by rw[QG];omega
 rcases Qvu t with hd|⟨o,ho⟩
 ·have hp1:=Rn hd;have hl1:(Qp t).length=1:=by rw[hp1];rfl
  have d1:decide (((done.length:Nat):Int)<(((Qp s).length-1:Nat):Int))=false:=QXy (by omega);have hi:=ist t;have hrow:(done++[t]).map Zj++List.replicate ((Qp t).length-1) (AV.str [])=(Qp s).map Zj:=by
   rw[hl1,hp,hp1];simp
  have hlen:done.length+1=(Qp s).length:=by omega
  rw[hrow]at hi;rw[hlen]at ew;have hle:((Qp s).length≤(Qp s).length)=True:=eq_true (QVL _);have ht:(((Qp s).map Zj).drop 0).take (Qp s).length=(Qp s).map Zj:=by rw[QWu];exact QWl (by simp)
  simp only[d1,ia,hi,h0,h9,h10,ew,eE,seval];simp only[Qh,if_true,QXe,QVV,hle,QWE,and_true,QW6,QWC,QXG,Xq,QWX,X8,QXz];have el:Am.Qg [QJ fr 31 (Ob.vec 1 1 ((Qp s).map Zj))] 0 31=.vec 1 1 ((Qp s).map Zj):=QR _ _ _;simp only[AV.still,el,QXo,bne_self_eq_false,QV6,if_false,QWt,QWI,hle,and_self,if_true,ht,Option.bind_some,AV.un,QXz,QWX]
 ·have hp1:=M0 ho;obtain⟨ho1,ho2,ho3⟩:=MZ ho;have hl1:(Qp t).length=(Qp (t.drop (o+1))).length+1:=by rw[hp1];simp
  have hpos2:0<(Qp (t.drop (o+1))).length:=QW8.2 (Kv _);have d1:decide (((done.length:Nat):Int)<(((Qp s).length-1:Nat):Int))=true:=QXD (by omega);have d2:decide ((o:Int)<0)=false:=QXy (by omega);have w1:IntKind.i64.wrap ((o:Int)+0)=(o:Int):=by rw[QG];omega
  have w2:IntKind.i64.wrap ((o:Int)+1)=((o+1:Nat):Int):=by rw[QG];omega
  have hi:=ist (t.take o);simp only[d1,h0,h1,Qa,seval];refine Qb (QOY t) rfl rfl rfl (.inl rfl) ?_;have hle1:(0≤o∧o≤t.length)=True:=eq_true ⟨QVV _,by omega⟩;have hle2:(o+1≤t.length∧t.length≤t.length)=True:=eq_true ⟨by omega,QVL _⟩;have ht2:(t.drop (o+1)).take (t.length-(o+1))=t.drop (o+1):=QWl (by simp);simp only[ho,d2,w1,w2,Qh,QXe,hle1,hle2,ht2,QW6,h0,h1,h2,h9,h10,eE,seval];simp only[ia,hi,ew,Qa,seval];have hlen:(done++[t.take o]).length=done.length+1:=by simp
  have hk:(Qp t).length-1=(Qp (t.drop (o+1))).length:=by omega
  exact⟨(Qp (t.drop (o+1))).length,by omega,_,_,t.drop (o+1),done++[t.take o],rfl,rfl,by rw[hp,hp1];simp,by rw[hlen];omega,by simp;omega,(by rfl),(by exact h1),(by exact h2),(by exact h3),(by exact h9),by rw[hlen]<;>first|rfl|simp only[eE,seval],by rw[←hk]<;>exact QR _ _ _⟩

def Bh (c:UInt8):Bool:=decide (97≤c.toNat)&&decide (c.toNat≤122)
def Bi (c:UInt8):Bool:=decide (65≤c.toNat)&&decide (c.toNat≤90)

theorem Qvv (c:UInt8):Qj Tryz.prog 199 [.int .u8 (c.toNat:Nat)] (.bool (Bh c)):=by
 refine QMZ.fn (by simp) ?_;have e1:decide ((c.toNat:Int)≥97)=decide (97≤c.toNat):=by rw[decide_eq_decide];omega
 have e2:decide ((c.toNat:Int)≤122)=decide (c.toNat≤122):=by rw[decide_eq_decide];omega
 simp only[e1,Bh,Qa,seval];cases h:decide (97≤c.toNat)<;>simp only[e2,QXo,QXh,Qa,seval]

theorem Qvw (c:UInt8):Qj Tryz.prog 200 [.int .u8 (c.toNat:Nat)] (.bool (Bi c)):=by
 refine QM2.fn (by simp) ?_;have e1:decide ((c.toNat:Int)≥65)=decide (65≤c.toNat):=by rw[decide_eq_decide];omega
 have e2:decide ((c.toNat:Int)≤90)=decide (c.toNat≤90):=by rw[decide_eq_decide];omega
 simp only[e1,Bi,Qa,seval];cases h:decide (65≤c.toNat)<;>simp only[e2,QXo,QXh,Qa,seval]

theorem Rp (c:UInt8):Z3 c=(Bh c||Bi c || !((c.toNat:Int) != 95) || !(decide ((c.toNat:Int)<48)||decide ((c.toNat:Int) > 57))):=by
 unfold Z3 JD Bh Bi;generalize c.toNat=x;rw[QWH];simp only[QVR,QWb,QVS,QVT,QWL,bne_eq_false_iff_eq,QWG,QXE];omega

def PrI (s:List UInt8)(k:Nat)(st:St):Prop :=
 ∃f i,st=⟨f,[Qe],[]⟩∧k=s.length-i∧1≤i∧QC (pq s) i=true∧f 0=.str s∧f 3=.int .i64 (i:Nat)

theorem Rq (s:List UInt8):Qj Tryz.prog 127 [.str s] (.bool (QY s)):=by
 refine QLA.fn (by simp) ?_;simp only[Qa,seval];by_cases hl:s.length=0
 ·have d0:((s.length:Int)==0)=true:=by rw[hl];rfl
  have e:QY s=false:=by rw[KG,hl];rfl
  simp only[d0,e,Qa,seval]
 have d0:((s.length:Int)==0)=false:=by rw[QXt];omega
 by_cases hm:s.length≤40
 case neg=>
  have d1:decide ((s.length:Int) > 40)=true:=QXD (by omega);have e:QY s=false:=by rw[KG,QXy hm,QXF,QXh]
  simp only[d0,d1,e,Qa,seval]
 have d1:decide ((s.length:Int) > 40)=false:=QXy (by omega);have hp:QY s=QC (pq s) s.length:=by rw[KG,QXD hm,QXD (by omega:1≤s.length)];rfl
 obtain⟨c,hc⟩:∃c,s[0]? = some c:=⟨s[0]'(by omega),QVO (by omega)⟩;have hq0:QC (pq s) 1=(Bh c||Bi c):=by
  show(true&&pq s 0)=_;rw[WP hc,QWg rfl];rfl
 have h1:=Qvv c;have h2:=Qvw c;have hn:QC (pq s) 1=false→QY s=false:=fun h=>by
  rw[hp,QXA];intro h';rw[QK.2 fun k hk=>QK.1 h' k (by omega)]at h;cases h
 have z1:Int.toNat 0=0:=rfl;have go:QC (pq s) 1=true→∀(f:Fr),f 0=.str s→f 3=.int .i64 1→∀Q:Exit→St→Prop,(∀f,QC (pq s) s.length=true→Q (.exit 0) ⟨f,[Qe],[]⟩)→(∀f,f 2=.bool false→QC (pq s) s.length=false→Q .ret ⟨f,[Qe],[]⟩)→QH Tryz.prog (.loop MH) ⟨f,[Qe],[]⟩ Q:=by
  intro hq1 f h0 h3 Q hx hr;refine Qd (PrI s) _ ⟨_,1,rfl,rfl,QVL _,hq1,h0,h3⟩ ?_;clear h0 h3 hc hq0 h1 h2 hn;rintro _ st ⟨f,i,rfl,rfl,h1i,hx1,h0,h3⟩;simp only[h0,h3,Qa,seval];by_cases hlt:i<s.length
  ·obtain⟨c,hc⟩:∃c,s[i]? = some c:=⟨s[i],QVO hlt⟩;have e1:=Qm i _ hlt (by simp only[maxLen];omega);have hs1:=Qvv c;have hs2:=Qvw c;have hstep:QC (pq s) (i+1)=Z3 c:=by
    rw[QC,hx1,QXo,WP hc,QV1 (by omega)]
   have hend:Z3 c=false→QC (pq s) s.length=false:=fun h=>by
    rw[QXA];intro h';rw[QK.2 fun k hk=>QK.1 h' k (by omega)]at hstep;rw[h]at hstep;cases hstep
   have fin:∀f':Fr,Z3 c=true→f' 0=.str s→f' 3=.int .i64 ((i+1:Nat):Int)→∃k,k<s.length-i∧PrI s k ⟨f',[Qe],[]⟩:=by
    intro f' hp h0 h3;exact⟨s.length-(i+1),by omega,f',i+1,rfl,rfl,by omega,by rw[hstep,hp],h0,h3⟩
   have hpc:=Rp c;simp only[Ql hlt,Qh,QXe,hc,h0,h3,Qa,seval];refine Qb hs1 rfl rfl rfl (.inl rfl) ?_;cases a1:Bh c
   ·simp only[Qh,QXe,hc,h0,h3,QWU,Qa,seval];refine Qb hs2 rfl rfl rfl (.inl rfl) ?_;cases a2:Bi c
    ·cases a3:((c.toNat:Int) != 95)
     ·rw[a1,a2,a3]at hpc;simp only[a3,Qh,QXe,hc,h0,h3,e1,QWU,Qa,seval];exact fin _ (by rw[hpc];rfl) (by exact h0) (by rfl)
     ·cases a4:decide ((c.toNat:Int)<48)
      ·cases a5:decide ((c.toNat:Int) > 57)
       ·rw[a1,a2,a3,a4,a5]at hpc;simp only[a3,a4,a5,Qh,QXe,hc,h0,h3,e1,QWU,Qa,seval];exact fin _ (by rw[hpc];rfl) (by exact h0) (by rfl)
       ·rw[a1,a2,a3,a4,a5]at hpc;simp only[a3,a4,a5,Qh,QXe,hc,h0,h3,QWU,Qa,seval];exact hr _ (by rfl) (hend (by rw[hpc];rfl))
      ·rw[a1,a2,a3,a4]at hpc;simp only[a3,a4,Qh,QXe,hc,h0,h3,QWU,Qa,seval];exact hr _ (by rfl) (hend (by rw[hpc];rfl))
    ·rw[a1,a2]at hpc;simp only[h3,e1,QXp,Qa,seval];exact fin _ (by rw[hpc];rfl) (by exact h0) (by rfl)
   ·rw[a1]at hpc;simp only[h3,e1,QXp,Qa,seval];exact fin _ (by rw[hpc];rfl) (by exact h0) (by rfl)
  ·simp only[Qy hlt,Qa,seval];exact hx _ (QK.2 fun k hk=>QK.1 hx1 k (by omega))
 simp only[d0,d1,z1,hc,Qa,seval];refine Qb h1 rfl rfl rfl (.inl rfl) ?_;cases a1:Bh c
 ·simp only[z1,hc,QWU,Qa,seval];refine Qb h2 rfl rfl rfl (.inl rfl) ?_;cases a2:Bi c
  ·rw[a1,a2]at hq0;simp only[hn hq0,QWU,Qa,seval]
  ·rw[a1,a2]at hq0;simp only[QXp,Qa,seval];refine go hq0 _ (by rfl) (by rfl) _ (fun f h=>?_) (fun f h2 h=>?_)
   ·simp only[hp,h,Qa,seval]
   ·simp only[hp,h,h2,Qa,seval]
 ·rw[a1,QXr]at hq0;simp only[QXp,Qa,seval];refine go hq0 _ (by rfl) (by rfl) _ (fun f h=>?_) (fun f h2 h=>?_)
  ·simp only[hp,h,Qa,seval]
  ·simp only[hp,h,h2,Qa,seval]

theorem Qvx (s:List UInt8):Qj Tryz.prog 126 [.str s] (.bool (Zd s)):=by
 refine QLx.fn (by simp) ?_;simp only[QL,Qa,seval];have e:Zd s=Yw.any fun w=>s==w:=rfl
 simp only[Yw,List.any_cons,List.any_nil,QXG]at e
 repeat' (first|(refine Q1 (fun h=>?_) (fun h=>?_)<;>simp only[h,QL,Qa,seval])|(refine Xz (fun h=>?_) (fun h=>?_)<;>simp only[h,Qo,QL,eE,seval])|(refine XA (fun h=>?_) (fun h=>?_)<;>simp only[h,Qo,QL,eE,seval]))
 all_goals(simp only[*,QXr,Bool.or_true,QXG]at e;simp only[e])

theorem z77 (s:List UInt8):Qj Tryz.prog 77 [.str s] (.bool (XF s)):=by
 refine k77.fn (by simp) ?_;simp only[XF,Qa,seval];refine Qb (Rq s) rfl rfl rfl (.inl rfl) ?_;cases QY s
 ·simp only[QXh,Qa,seval]
 ·simp only[QXo,Qa,seval];refine Qb (Qvx s) rfl rfl rfl (.inl rfl) ?_;simp only[Qa,seval]

def FuI (s:List UInt8)(k:Nat)(st:St):Prop :=
 ∃f i p,st=⟨f,[Qe],[]⟩∧k=s.length-i∧i≤s.length∧p.length≤i∧(∀c∈p,c≠(46:UInt8))∧(Qp s).all QY=(Qp (p++s.drop i)).all QY∧f 0=.str s∧f 3=.str p∧f 4=.int .i64 (i:Nat)

theorem QO0 (s:List UInt8):Qj Tryz.prog 124 [.str s] (.bool (decide (s.length≤120)&&(Qp s).all QY)):=by
 refine QLr.fn (by simp) ?_;simp only[Qa,seval];by_cases hm:s.length≤120
 case neg=>
  have d1:decide ((s.length:Int) > 120)=true:=QXD (by omega);simp only[d1,QXy hm,QXh,Qa,seval]
 have d1:decide ((s.length:Int) > 120)=false:=QXy (by omega);simp only[d1,QXD hm,QXo,Qa,seval];refine Qd (FuI s) _ ⟨_,0,[],rfl,rfl,QVV _,QVL _,by simp,rfl,(by rfl),(by rfl),(by rfl)⟩ ?_;rintro _ st ⟨f,i,p,rfl,rfl,hi,hpl,hpd,hx,h0,h3,h4⟩;simp only[h0,h4,Qa,seval];by_cases hlt:i<s.length
 ·obtain⟨c,hc⟩:∃c,s[i]? = some c:=⟨s[i],QVO hlt⟩;have e1:=Qm i _ hlt (by simp only[maxLen];omega);have hd:s.drop i=c :: s.drop (i+1):=by
   rw[QWv hlt];congr 1
   exact(QVN.1 hc).2
  have hts:(s.drop i).take (i+1-i)=[c]:=by
   rw[hd,show i+1-i=1 by omega];rfl
  simp only[Ql hlt,Qh,QXe,hc,h0,h4,Qa,seval];by_cases hdot:c=46
  ·subst hdot;have b0:((((46:UInt8).toNat:Nat):Int) != 46)=false:=rfl;have hs:(Qp s).all QY=(QY p&&(Qp (s.drop (i+1))).all QY):=by
    rw[hx,hd,Gr hpd];rfl
   simp only[h3,Qa,seval];refine Qb (Rq p) rfl rfl rfl (.inl rfl) ?_;cases hp:QY p
   ·rw[hp,QXh]at hs;simp only[hs,QWU,Qa,seval]
   ·rw[hp,QXo]at hs;simp only[h4,e1,QXp,Qa,seval];exact⟨s.length-(i+1),by omega,_,i+1,[],rfl,rfl,by omega,QVV _,by simp,by rw[hs];rfl,(by exact h0),(by rfl),(by rfl)⟩
  ·have b0:(((c.toNat:Nat):Int) != 46)=true:=by
    rw[QWd];intro h
    apply hdot
    rw[←UInt8.toNat_inj];have:c.toNat=46:=by omega
    rw[this];rfl
   have hle:(i≤i+1∧i+1≤s.length)=True:=eq_true ⟨by omega,by omega⟩;have hsum:(p.length≤9223372036854775806)=True:=eq_true (by omega);simp only[b0,h0,h3,h4,e1,ZJ,ZB,Q5,Qh,QXe,hle,hts,QL,hsum,Qa,seval];exact⟨s.length-(i+1),by omega,_,i+1,p++[c],rfl,rfl,by omega,by simp;omega,fun x hx=>by
    rcases QW5.1 hx with h|h
    ·exact hpd x h
    ·simp at h;subst h;exact hdot,by rw[hx,hd];simp,(by exact h0),(by rfl),(by rfl)⟩
 ·have hx':(Qp s).all QY=QY p:=by
   rw[hx,QWo (by omega),QWQ,WO hpd];simp
  simp only[Qy hlt,h3,hx',Qa,seval];refine Qb (Rq p) rfl rfl rfl (.inl rfl) ?_;simp only[Qa,seval]

def W2 (s:List UInt8):Nat→Option Nat
 |0=>none
 |j+1=>if s[j]? = some 46 then some j else W2 s j

theorem Ug (s:List UInt8):∀n,match W2 s n with
  |none=>∀k,k<n→s[k]?≠some 46
  |some j=>j<n∧s[j]? = some 46∧∀k,j<k→k<n→s[k]?≠some 46
 |0=>by simp[W2]
 |n+1=>by
  unfold W2;split
  ·rename_i h;split at h
   ·cases h
   ·rename_i h';have:=Ug s n;rw[h]at this;intro k hk;rcases Nat.lt_succ_iff_lt_or_eq.1 hk with h1|rfl
    ·exact this k h1
    ·exact h'
  ·rename_i j h;split at h
   ·rename_i h';cases h;exact⟨by omega,h',fun k h1 h2=>by omega⟩
   ·rename_i h';have:=Ug s n;rw[h]at this;exact⟨by omega,this.2.1,fun k h1 h2=>by
     rcases Nat.lt_succ_iff_lt_or_eq.1 h2 with h3|rfl
     ·exact this.2.2 k h1 h3
     ·exact h'⟩

def ZM (s:List UInt8):List UInt8×List UInt8:=match W2 s s.length with
 |none=>([],s)
 |some j=>(s.take j,s.drop (j+1))

theorem Bj (s:List UInt8):((ZM s).1=[]∧(ZM s).2=s∧∀c∈s,c≠46)∨(s=(ZM s).1++46 :: (ZM s).2∧∀c∈(ZM s).2,c≠46):=by
 have h:=Ug s s.length;unfold ZM;cases hl:W2 s s.length with
 |none=>
  rw[hl]at h;refine .inl ⟨rfl,rfl,fun c hc e=>?_⟩;subst e;obtain⟨k,hk⟩:=QVY.1 hc;exact h k (QVN.1 hk).1 hk
 |some j=>
  rw[hl]at h;obtain⟨h1,h2,h3⟩:=h;refine .inr ⟨?_,fun c hc e=>?_⟩
  ·have:s[j]=46:=(QVN.1 h2).2;show s=s.take j++46 :: s.drop (j+1);rw[←this,←QWv h1,QW3]
  ·subst e;obtain⟨k,hk⟩:=QVY.1 hc;rw[QWr]at hk;exact h3 (j+1+k) (by omega) (QVN.1 hk).1 hk

def SdI (s:List UInt8)(k:Nat)(st:St):Prop :=
 ∃f,st=⟨f,[Qe],[]⟩∧k≤s.length∧W2 s s.length=W2 s k∧f 0=.str s∧f 4=.int .i64 ((k:Int)-1)

theorem QO1 (s:List UInt8)(hs:s.length≤120):Qj Tryz.prog 125 [.str s] (.tup [.str (ZM s).1,.str (ZM s).2]):=by
 refine QLu.fn (by simp) ?_;have w0:IntKind.i64.wrap ((s.length:Int)-1)=(s.length:Int)-1:=by rw[QG];omega
 simp only[w0,Qa,seval];refine Qd (SdI s) _ ⟨_,rfl,QVL _,rfl,(by rfl),(by rfl)⟩ ?_;rintro k st ⟨f,rfl,hk,hx,h0,h4⟩;simp only[h4,Qa,seval];cases k with
 |zero=>
  have d0:decide (((0:Nat):Int)-1≥0)=false:=rfl;have e:ZM s=([],s):=by unfold ZM;rw[hx];rfl
  simp only[e,h0,Qa,seval]
 |succ j=>
  have j1:((j+1:Nat):Int)-1=(j:Int):=by omega
  have d0:decide (((j:Nat):Int)≥0)=true:=QXD (by omega);have w1:IntKind.i64.wrap ((j:Int)-1)=(j:Int)-1:=by rw[QG];omega
  have w2:IntKind.i64.wrap ((j:Int)+1)=((j+1:Nat):Int):=by rw[QG];omega
  obtain⟨c,hc⟩:∃c,s[j]? = some c:=⟨s[j]'(by omega),QVO (by omega)⟩;simp only[j1,Qh,QXe,hc,h0,h4,Qa,seval];by_cases hdot:c=46
  ·subst hdot;have b0:((((46:UInt8).toNat:Nat):Int)==46)=true:=rfl;have e:ZM s=(s.take j,s.drop (j+1)):=by
    unfold ZM;rw[hx];show(match (if s[j]? = some 46 then some j else W2 s j)with|none=>([],s)|some j=>(s.take j,s.drop (j+1)))=_;rw[QWg hc]
   have hle:(0≤j∧j≤s.length)=True:=eq_true ⟨by omega,by omega⟩;have hle2:(j+1≤s.length∧s.length≤s.length)=True:=eq_true ⟨by omega,QVL _⟩;have ht:((s.drop 0).take j)=s.take j:=by simp
   have ht2:((s.drop (j+1)).take (s.length-(j+1)))=s.drop (j+1):=QWl (by simp);simp only[w2,j1,e,ZJ,ZB,Q5,QW6,Qh,QXe,hle,hle2,ht2,h0,h4,Qa,seval]
  ·have b0:(((c.toNat:Nat):Int)==46)=false:=by
    rw[QXt];intro h
    apply hdot
    rw[←UInt8.toNat_inj];have:c.toNat=46:=by omega
    rw[this];rfl
   have hne:¬s[j]? = some 46:=fun h=>by rw[hc]at h;cases h;exact hdot rfl
   simp only[b0,j1,w1,h4,Qa,seval];exact⟨j,by omega,_,rfl,by omega,by rw[hx];show(if s[j]? = some 46 then some j else W2 s j)=_;rw[QV1 hne],(by exact h0),(by rfl)⟩

def M1 (u:List UInt8):Bool:=if u=[]then false else(Qp u).any Zd

def DfI (s:List UInt8)(k:Nat)(st:St):Prop :=
 ∃f u,st=⟨f,[Qe],[]⟩∧k=u.length∧u.length≤120∧(u≠[]→(Qp u).all QY=true)∧(Qp s).any Zd=M1 u∧f 0=.str u

theorem z76 (s:List UInt8):Qj Tryz.prog 76 [.str s] (.bool (Kd s)):=by
 refine k76.fn (by simp) ?_;simp only[Kd,Qa,seval];refine Qb (QO0 s) rfl rfl rfl (.inl rfl) ?_;cases hf:(decide (s.length≤120)&&(Qp s).all QY)
 ·simp only[QXh,QWU,Qa,seval]
 simp only[QXo,QXp,Qa,seval];obtain⟨hl,ha⟩:=QVP.1 hf;have hl:=of_decide_eq_true hl;have hne:s≠[]:=by
  rintro rfl;cases ha
 refine Qd (DfI s) _ ⟨_,s,rfl,rfl,hl,fun _=>ha,by unfold M1;rw[QV1 hne],(by rfl)⟩ ?_;rintro _ st ⟨f,u,rfl,rfl,hul,hua,hx,h0⟩;simp only[h0,QL,Qa,seval];by_cases hu:u=[]
 ·subst hu;have b0:(!(([]:List UInt8)==[]))=false:=rfl;have e:(Qp s).any Zd=false:=hx;simp only[b0,e,QWU,Qa,seval]
 ·have b0:(!(u==[]))=true:=by simp[hu]
  simp only[b0,h0,Qa,seval];refine Qb (QO1 u hul) rfl rfl rfl (.inl rfl) ?_;simp only[Qa,seval];refine Qb (Qvx (ZM u).2) rfl rfl rfl (.inl rfl) ?_;have hw:M1 u=(M1 (ZM u).1||Zd (ZM u).2):=by
   unfold M1;rw[QV1 hu];rcases Bj u with⟨h1,h2,h3⟩|⟨h1,h2⟩
   ·rw[h1,h2,QWg rfl,WO h3];simp
   ·have hp:Qp u=Qp (ZM u).1++[(ZM u).2]:=by
     conv=>lhs;rw[h1]
     exact Gs h2
    have ha':=hua hu;rw[hp,QW4,QWb]at ha';have hn:(ZM u).1≠[]:=by
     intro h;rw[h]at ha';cases ha'.1
    rw[QV1 hn,hp];simp
  cases hq:Zd (ZM u).2
  ·rw[hq,QXG]at hw;simp only[Qa,seval];have hlen:(ZM u).1.length<u.length∧((ZM u).1≠[]→(Qp (ZM u).1).all QY=true):=by
    rcases Bj u with⟨h1,h2,h3⟩|⟨h1,h2⟩
    ·rw[h1];exact⟨QW8.2 hu,fun h=>absurd rfl h⟩
    ·have hp:Qp u=Qp (ZM u).1++[(ZM u).2]:=by
      conv=>lhs;rw[h1]
      exact Gs h2
     have ha':=hua hu;rw[hp,QW4,QWb]at ha';refine⟨?_,fun _=>ha'.1⟩;have:=congrArg List.length h1;simp at this;omega
   exact⟨(ZM u).1.length,hlen.1,_,(ZM u).1,rfl,rfl,by omega,hlen.2,by rw[hx,hw],(by rfl)⟩
  ·rw[hq,Bool.or_true]at hw;have e:(Qp s).any Zd=true:=hx.trans hw;simp only[e,QXp,Qa,seval]

theorem Xk {α:Type}{l:List α}{q:α→Bool}:(l.any fun x=>!q x)=!l.all q:=by
 induction l with
 |nil=>rfl
 |cons x l ih=>simp[ih]

theorem Qvy (s:List UInt8)(hs:s.length≤17592186044000):Qj Tryz.prog 207 [.str s,.str [46]] (.list ((Qp s).map Zj)):=by
 refine Qic.fn (by simp) ?_;simp only[Qa,seval];refine Qb (QOZ s hs) rfl rfl rfl (.inl rfl) ?_;simp only[Qa,seval]

def IfI (s:List UInt8)(k:Nat)(st:St):Prop :=
 ∃f i,st=⟨f,[Qe],[]⟩∧k=(Qp s).length-i∧((Qp s).take i).all QY=true∧f 0=.str s∧f 6=.list ((Qp s).map Zj)∧f 7=.int .i64 ((Qp s).length:Nat)∧f 8=.int .i64 (i:Nat)

theorem QO2 (s:List UInt8)(hs:s.length≤17592186044000):Qj Tryz.prog 205 [.str s] (.bool (decide (s.length≤120)&&(Qp s).all QY)):=by
 have hl:=Ue s;have hc:s.count 46≤s.length:=List.count_le_length;refine Qh2.fn (by simp) ?_;simp only[Qa,seval];refine Qb (Qvy s hs) rfl rfl rfl (.inl rfl) ?_;simp only[QWI,Qa,seval];refine Qd (IfI s) _ ⟨_,0,rfl,rfl,rfl,(by rfl),(by rfl),(by rfl),(by rfl)⟩ ?_;rintro _ st ⟨f,i,rfl,rfl,hx,h0,h6,h7,h8⟩;simp only[h7,h8,Qa,seval];by_cases hlt:i<(Qp s).length
 ·obtain⟨x,hi⟩:∃x,(Qp s)[i]? = some x:=⟨(Qp s)[i],QVO hlt⟩;have hg:((Qp s).map Zj)[i]? = some (.str x):=by simp[hi,Zj]
  have e1:=Qm i _ hlt (by simp only[maxLen];omega);have ht:=Q3 (q:=QY) hi;rw[hx,QXo]at ht;simp only[Ql hlt,Qh,QXe,Qc,hg,h6,h8,eE,seval];refine Qb (Qvt x) rfl rfl rfl (.inl rfl) ?_;cases hp:QY x
  ·have hf:(Qp s).all QY=false:=by
    rw[QXA];intro h';rw[QVZ.1 h' x (QV0 hi)]at hp;cases hp
   simp only[hf,QWU,QXF,Qa,seval]
  ·rw[hp]at ht;simp only[h8,e1,QXp,Qa,seval];exact⟨(Qp s).length-(i+1),by omega,_,i+1,rfl,rfl,ht,(by exact h0),(by exact h6),(by exact h7),(by rfl)⟩
 ·rw[QWl (by omega)]at hx;have e:decide ((s.length:Int)≤120)=decide (s.length≤120):=by rw[decide_eq_decide];omega
  simp only[Qy hlt,h0,hx,e,QW0,Qa,seval]

theorem QGu (s:List UInt8)(m:Qq):Qi Tryz.prog 208 [Zj s] m fun y m1=>y=.bool (Zd s)∧m1=m:=by
 refine P8.go (by simp) ?_;simp only[Zj,QL,Qa,seval];have e:Zd s=Yw.any fun w=>s==w:=rfl
 simp only[Yw,List.any_cons,List.any_nil,QXG]at e
 repeat' (first|(refine Q1 (fun h=>?_) (fun h=>?_)<;>simp only[h,QL,Qa,seval])|(refine Xz (fun h=>?_) (fun h=>?_)<;>simp only[h,Qo,QL,eE,seval])|(refine XA (fun h=>?_) (fun h=>?_)<;>simp only[h,Qo,QL,eE,seval]))
 all_goals(simp only[*,QXr,Bool.or_true,QXG]at e;simp only[e])

theorem Qvz (s:List UInt8):Qj Tryz.prog 141 [.str s] (.bool (XF s)):=by
 refine QdN.fn (by simp) ?_;simp only[XF,Qa,seval];refine Qb (Qvt s) rfl rfl rfl (.inl rfl) ?_;cases QY s
 ·simp only[QXh,Qa,seval]
 ·simp only[QXo,Qa,seval];refine Qb (QOU s) rfl rfl rfl (.inl rfl) ?_;simp only[Qa,seval]

theorem QvA (s:List UInt8)(hs:s.length≤17592186044000):Qj Tryz.prog 138 [.str s] (.bool (Kd s)):=by
 have hl:=Ue s;have hc:s.count 46≤s.length:=List.count_le_length;refine Qdy.fn (by simp) ?_;simp only[Kd,Qa,seval];refine Qb (QO2 s hs) rfl rfl rfl (.inl rfl) ?_;cases hf:(decide (s.length≤120)&&(Qp s).all QY)
 ·simp only[QXh,Qa,seval]
 ·simp only[QXo,Qa,seval];refine Qb (Qvy s hs) rfl rfl rfl (.inl rfl) ?_;simp only[Qa,seval];refine Qk (QOO (Qp s) (by simp only[maxLen];omega) Zd 208 [] _ fun o _=>QGu o _) (by simp only[QWj,QWO,Qa,seval]<;>rfl) ?_;simp only[Qa,seval]

section
variable (m:Qq)

theorem QO3 (g:PG):Qi Tryz.prog 134 [Qn g] m fun y m1=>y=.bool (!ZY g)∧m1=m:=by
 refine Qdj.go (by simp) ?_;have e:decide ((g.ops.length:Int) > 64)=!ZY g:=by unfold ZY;exact(by rw[QWH];simp only[QVS,QWL,QXE];omega)
 simp only[Qn,PG.cells,QWI,e,eE,seval]

theorem QO4 (x:PE):Qi Tryz.prog 136 [Qr x] m fun y m1=>y=.bool (!Jx x)∧m1=m:=by
 refine QLS.go (by simp) ?_;have e1:decide ((x.items.length:Int)<1)=!decide (1≤x.items.length):=(by rw[QWH];simp only[QVS,QWL,QXE];omega);have e2:decide ((x.items.length:Int) > 64)=!decide (x.items.length≤64):=(by rw[QWH];simp only[QVS,QWL,QXE];omega);have e3:decide ((x.free.length:Int) > 16)=!decide (x.free.length≤16):=(by rw[QWH];simp only[QVS,QWL,QXE];omega);simp only[Qr,PE.cells,QWI,e1,Jx,eE,seval];cases a1:decide (1≤x.items.length)<;>cases a2:decide (x.items.length≤64)<;>cases a3:decide (x.free.length≤16)<;>simp only[a2,a3,QXp,QWU,QW0,QXF,QWI,e2,e3,eE,seval]

theorem QO5 (o:PO):Qi Tryz.prog 140 [Qt o] m fun y m1=>y=.bool (!XF o.name)∧m1=m:=by
 refine QdI.go (by simp) ?_;simp only[Qt,PO.cells,eE,seval];refine Qb (Qvz o.name) rfl rfl rfl (.inl rfl) ?_;simp only[Qa,seval]

theorem QO6 (o:PI):Qi Tryz.prog 144 [Xg o] m fun y m1=>y=.bool (!XF o.name)∧m1=m:=by
 refine QL1.go (by simp) ?_;simp only[Xg,PI.cells,eE,seval];refine Qb (Qvz o.name) rfl rfl rfl (.inl rfl) ?_;simp only[Qa,seval]

theorem QO7 (g:PG)(hs:g.name.length≤17592186044000)(hl:g.ops.length≤maxLen):Qi Tryz.prog 137 [Qn g] m fun y m1=>y=.bool (!Kw g)∧m1=m:=by
 refine Qdt.go (by simp) ?_;simp only[Qn,PG.cells,Kw,eE,seval];refine Qb (QvA g.name hs) rfl rfl rfl (.inl rfl) ?_;cases Kd g.name
 ·simp only[QXh,QWU,Qa,seval]
 ·simp only[QXo,QXp,eE,seval];refine Qk (Bf g.ops hl (fun o=>!XF o.name) 140 [] _ fun o _=>QO5 _ o) (by simp only[QWj,QWO,Qa,seval]<;>rfl) ?_;simp only[Xk,Qa,seval]

theorem QO8 (x:PE)(hs:x.name.length≤17592186044000)(hl:x.items.length≤maxLen):Qi Tryz.prog 142 [Qr x] m fun y m1=>y=.bool (!KR x)∧m1=m:=by
 refine QLV.go (by simp) ?_;simp only[Qr,PE.cells,KR,eE,seval];refine Qb (QvA x.name hs) rfl rfl rfl (.inl rfl) ?_;cases Kd x.name
 ·simp only[QXh,QWU,Qa,seval]
 ·simp only[QXo,QXp,eE,seval];refine Qk (VS x.items hl (fun o=>!XF o.name) 144 [] _ fun o _=>QO6 _ o) (by simp only[QWj,QWO,Qa,seval]<;>rfl) ?_;simp only[Xk,Qa,seval]

theorem QO9 (x y:PG):Qi Tryz.prog 146 [Qn x,Qn y] m fun r m1=>r=.bool ((XG PG.name) x y)∧m1=m:=by
 refine QL4.go (by simp) ?_;simp only[Qn,PG.cells,QL,XG,eE,seval]

theorem QPa (x y:PE):Qi Tryz.prog 148 [Qr x,Qr y] m fun r m1=>r=.bool ((XG PE.name) x y)∧m1=m:=by
 refine QL7.go (by simp) ?_;simp only[Qr,PE.cells,QL,XG,eE,seval]

theorem QPb (x y:PO):Qi Tryz.prog 151 [Qt x,Qt y] m fun r m1=>r=.bool ((X7 PO.num) x y)∧m1=m:=by
 refine Qeu.go (by simp) ?_;simp only[Qt,PO.cells,X7,eE,seval]

theorem QPc (x y:PI):Qi Tryz.prog 154 [Xg x,Xg y] m fun r m1=>r=.bool ((X7 PI.num) x y)∧m1=m:=by
 refine QMg.go (by simp) ?_;simp only[Xg,PI.cells,X7,eE,seval]

theorem QPd (g:PG)(hl:g.ops.length≤maxLen):Qi Tryz.prog 149 [Qn g] m fun y m1=>y=.bool (!Jg g)∧m1=m:=by
 refine Qee.go (by simp) ?_;simp only[Qn,PG.cells,Jg,eE,seval];refine Qk (QOQ g.ops hl (X7 PO.num) 151 [] _ fun x _ y _=>QPb _ x y) (by simp only[QWj,QWO,Qa,seval]<;>rfl) ?_;simp only[Qa,seval]

theorem QPe (x:PE)(hl:x.items.length≤maxLen):Qi Tryz.prog 152 [Qr x] m fun y m1=>y=.bool (!JK x)∧m1=m:=by
 refine QMa.go (by simp) ?_;simp only[Qr,PE.cells,JK,eE,seval];refine Qk (QOS x.items hl (X7 PI.num) 154 [] _ fun x _ y _=>QPc _ x y) (by simp only[QWj,QWO,Qa,seval]<;>rfl) ?_;simp only[Qa,seval]

end

section
variable {M:Nat}(P:PL)(hP:P.ok M)(hM:M≤17592186044000)
include hP hM

omit hM in
theorem z83:Qj Tryz.prog 83 [P.av] (.bool (!Hf P)):=by
 have e0:P.av=.agg [.list (P.progs.map Qn),.list (P.enums.map Qr)]:=rfl;have e1:decide ((if (P.progs.length:Int)<(P.enums.length:Int)then(P.enums.length:Int)else(P.progs.length:Int)) > 64)=!(decide (P.progs.length≤64)&&decide (P.enums.length≤64)):=by
  rw[Bool.not_and];split<;>exact(by rw[QWH];simp only[QVS,QWL,QXE,QVR];omega)
 refine k83.fn (by simp) ?_;simp only[e0,QWI,e1,Hf,eE,seval];cases(decide (P.progs.length≤64)&&decide (P.enums.length≤64))
 ·simp only[QWU,QXh,Qa,seval]
 simp only[QXp,QXo,eE,seval];refine Qk (Dj P.progs hP.len1 (fun g=>!ZY g) 134 [] _ fun o _=>QO3 _ o) (by simp only[QWj,QWO,Qa,seval]<;>rfl) ?_;simp only[Xk,Qa,seval];cases P.progs.all ZY
 ·simp only[QWU,QXh,Qa,seval]
 simp only[QXp,QXo,eE,seval];refine Qk (Hx P.enums hP.len2 (fun g=>!Jx g) 136 [] _ fun o _=>QO4 _ o) (by simp only[QWj,QWO,Qa,seval]<;>rfl) ?_;simp only[Xk,Qa,seval]

omit hM in
theorem QPf (hN1:∀g∈P.progs,g.name.length≤17592186044000)(hN2:∀g∈P.enums,g.name.length≤17592186044000):Qj Tryz.prog 84 [P.av] (.bool (!Bc P)):=by
 have e0:P.av=.agg [.list (P.progs.map Qn),.list (P.enums.map Qr)]:=rfl;refine k84.fn (by simp) ?_;simp only[e0,Bc,eE,seval];refine Qk (Dj P.progs hP.len1 (fun g=>!Kw g) 137 [] _ fun o ho=>QO7 _ o (hN1 o ho) (hP.progs o ho).len) (by simp only[QWj,QWO,Qa,seval]<;>rfl) ?_;simp only[Xk,Qa,seval];cases P.progs.all Kw
 ·simp only[QWU,QXh,Qa,seval]
 simp only[QXp,QXo,eE,seval];refine Qk (Hx P.enums hP.len2 (fun g=>!KR g) 142 [] _ fun o ho=>QO8 _ o (hN2 o ho) (hP.enums o ho).len1) (by simp only[QWj,QWO,Qa,seval]<;>rfl) ?_;simp only[Xk,Qa,seval]

omit hM in
theorem z85:Qj Tryz.prog 85 [P.av] (.bool (!Hg P)):=by
 have e0:P.av=.agg [.list (P.progs.map Qn),.list (P.enums.map Qr)]:=rfl;refine k85.fn (by simp) ?_;simp only[e0,Hg,eE,seval];refine Qk (QOP P.progs hP.len1 (XG PG.name) 146 [] _ fun x _ y _=>QO9 _ x y) (by simp only[QWj,QWO,Qa,seval]<;>rfl) ?_;simp only[Qa,seval];cases XR P.progs (XG PG.name)
 ·simp only[QWU,QXh,Qa,seval]
 simp only[QXp,QXo,eE,seval];refine Qk (QOR P.enums hP.len2 (XG PE.name) 148 [] _ fun x _ y _=>QPa _ x y) (by simp only[QWj,QWO,Qa,seval]<;>rfl) ?_;simp only[Qa,seval];cases XR P.enums (XG PE.name)
 ·simp only[QWU,QXh,Qa,seval]
 simp only[QXp,QXo,eE,seval];refine Qk (Dj P.progs hP.len1 (fun g=>!Jg g) 149 [] _ fun o ho=>QPd _ o (hP.progs o ho).len) (by simp only[QWj,QWO,Qa,seval]<;>rfl) ?_;simp only[Xk,Qa,seval];cases P.progs.all Jg
 ·simp only[QWU,QXh,Qa,seval]
 simp only[QXp,QXo,eE,seval];refine Qk (Hx P.enums hP.len2 (fun g=>!JK g) 152 [] _ fun o ho=>QPe _ o (hP.enums o ho).len1) (by simp only[QWj,QWO,Qa,seval]<;>rfl) ?_;simp only[Xk,Qa,seval]

end

theorem SX (n c:Nat):AV.shN n (.fn (.func c) [] [])=.fn (.func c) [] []:=by
 induction n with
 |zero=>rfl
 |succ n ih=>rw[AV.shN,ih];rfl

theorem QPg (nm:PO→List UInt8)(c:Nat)(hn:∀x,Qj Tryz.prog c [Qt x] (.str (nm x)))(y x:PO)(fr:Nat→Ob)(m:Qq)(h3:fr 3=.cells [.fn (.func c) [] []])(h6:fr 6=.cells x.cells) :
  Qi Tryz.prog 212 [Qt y,.ptr 3 3 0,.ptr 3 6 0] (Qe :: Qe :: Qe :: fr :: m) fun r m1=>r=.bool (nm y==nm x)∧m1=Qe :: Qe :: Qe :: fr :: m:=by
 have hy:=hn y;have hx:=hn x;have g3:∀n,AV.shN n (.fn (.func c) [] [])=.fn (.func c) [] []:=fun n=>SX n c
 simp only[Qt,PO.cells]at hy hx h6;refine QiK.go (by simp) ?_;simp only[Qt,PO.cells,h3,g3,eE,seval];refine J9 (fa:=[]) (fb:=[]) (by rfl) hy rfl rfl rfl (.inl rfl) ?_;simp only[h3,h6,g3,eE,seval];refine J9 (fa:=[]) (fb:=[]) (by rfl) hx rfl rfl rfl (.inl rfl) ?_;simp only[QL,Qa,seval]

section
variable (L:List PO)(hl:L.length≤maxLen)(nm:PO→List UInt8)(c:Nat)(m:Qq)

def ReO (k:Nat)(st:St):Prop :=
 ∃f fr i,st=⟨f,fr :: m,[]⟩∧k=L.length-i∧QC (uniq L nm) i=true∧f 0=.list (L.map Qt)∧f 3=.ptr 0 3 0∧f 7=.list (L.map Qt)∧f 8=.int .i64 (L.length:Nat)∧f 9=.int .i64 (i:Nat)∧fr 3=.cells [.fn (.func c) [] []]∧∀s∈[6],(fr s).isRow=false

include hl in
theorem QPh (hn:∀x,Qj Tryz.prog c [Qt x] (.str (nm x))) :
  Qi Tryz.prog 157 [.list (L.map Qt),.fn (.func c) [] []] m fun y m1=>y=.bool (!Ku L nm)∧m1=m:=by
 refine QeL.go (by simp) ?_;simp only[QWI,eE,seval];refine Qd (ReO L nm c m) _ ⟨_,_,0,rfl,rfl,rfl,(by rfl),(by rfl),(by rfl),(by rfl),(by rfl),(by rfl),by simp<;>rfl⟩ ?_;rintro _ st ⟨f0,fr0,i,rfl,rfl,hx,h00,h30,h70,h80,h90,m30,r6⟩;refine QO (a:=_) [6] r6 ?_;intro f fr hf hm hn6;have h0:f 0=.list (L.map Qt):=by rw[hf,h00]<;>rfl
 have h3:f 3=.ptr 0 3 0:=by rw[hf,h30]<;>rfl
 have h7:f 7=.list (L.map Qt):=by rw[hf,h70]<;>rfl
 have h8:f 8=.int .i64 (L.length:Nat):=by rw[hf,h80]<;>rfl
 have h9:f 9=.int .i64 (i:Nat):=by rw[hf,h90]<;>rfl
 have m3:fr 3=.cells [.fn (.func c) [] []]:=by rw[hm 3 (by decide),m30]<;>rfl
 have n6:=hn6 6 (by decide);clear hf hm hn6 h00 h30 h70 h80 h90 m30 r6;simp only[h8,h9,Qa,seval];by_cases hlt:i<L.length
 ·obtain⟨x,hi⟩:∃x,L[i]? = some x:=⟨L[i],QVO hlt⟩;have hg:(L.map Qt)[i]? = some (Qt x):=by simp[hi]
  have e1:=Qm i _ hlt hl;have hle:(i≤L.length)=True:=eq_true (by omega);have ht:((L.map Qt).drop 0).take (i-0)=(L.take i).map Qt:=by simp
  have hstep:QC (uniq L nm) (i+1)=!(L.take i).any fun y=>nm y==nm x:=by
   rw[QC,hx,QXo,UI hi,Di]
  have hcl:=fun(fr:Nat→Ob) (h3:fr 3=.cells [.fn (.func c) [] []]) (h6:fr 6=.cells x.cells)=>Bf (L.take i) (by simp;omega) (fun y=>nm y==nm x) 212 [.ptr 0 3 0,.ptr 0 6 0] (fr :: m) fun y _=>QPg nm c hn y x fr m h3 h6
  simp only[Ql hlt,Qh,QXe,Qc,hg,Qt,PO.cells,n6,h0,h7,h9,ZJ,ZB,Q5,QXl,QWI,QVV,QVL,hle,true_or,QW6,←List.map_take,eE,seval];refine Qk (hcl _ (by exact m3) (by rfl)) (by simp only[QWj,QWO,h3,Qa,seval]<;>rfl) ?_;cases hp:(L.take i).any fun y=>nm y==nm x
  ·rw[hp]at hstep;simp only[h9,e1,Qa,seval];exact⟨L.length-(i+1),by omega,_,_,i+1,rfl,rfl,hstep,(by exact h0),(by exact h3),(by exact h7),(by exact h8),(by rfl),(by exact m3),by simp<;>rfl⟩
  ·rw[hp]at hstep;have hf:Ku L nm=false:=by
    rw[QXA];intro h';rw[QK.2 fun k hk=>QK.1 h' k (by omega)]at hstep;cases hstep
   simp only[hf,QWU,Qa,seval]
 ·have hf:Ku L nm=true:=QK.2 fun k hk=>QK.1 hx k (by omega)
  simp only[Qy hlt,hf,QXp,Qa,seval]

end

theorem QPi (nm:PI→List UInt8)(c:Nat)(hn:∀x,Qj Tryz.prog c [Xg x] (.str (nm x)))(y x:PI)(fr:Nat→Ob)(m:Qq)(h3:fr 3=.cells [.fn (.func c) [] []])(h6:fr 6=.cells x.cells) :
  Qi Tryz.prog 213 [Xg y,.ptr 3 3 0,.ptr 3 6 0] (Qe :: Qe :: Qe :: fr :: m) fun r m1=>r=.bool (nm y==nm x)∧m1=Qe :: Qe :: Qe :: fr :: m:=by
 have hy:=hn y;have hx:=hn x;have g3:∀n,AV.shN n (.fn (.func c) [] [])=.fn (.func c) [] []:=fun n=>SX n c
 simp only[Xg,PI.cells]at hy hx h6;refine QNd.go (by simp) ?_;simp only[Xg,PI.cells,h3,g3,eE,seval];refine J9 (fa:=[]) (fb:=[]) (by rfl) hy rfl rfl rfl (.inl rfl) ?_;simp only[h3,h6,g3,eE,seval];refine J9 (fa:=[]) (fb:=[]) (by rfl) hx rfl rfl rfl (.inl rfl) ?_;simp only[QL,Qa,seval]

section
variable (L:List PI)(hl:L.length≤maxLen)(nm:PI→List UInt8)(c:Nat)(m:Qq)

def ReI (k:Nat)(st:St):Prop :=
 ∃f fr i,st=⟨f,fr :: m,[]⟩∧k=L.length-i∧QC (uniq L nm) i=true∧f 0=.list (L.map Xg)∧f 3=.ptr 0 3 0∧f 7=.list (L.map Xg)∧f 8=.int .i64 (L.length:Nat)∧f 9=.int .i64 (i:Nat)∧fr 3=.cells [.fn (.func c) [] []]∧∀s∈[6],(fr s).isRow=false

include hl in
theorem QPj (hn:∀x,Qj Tryz.prog c [Xg x] (.str (nm x))) :
  Qi Tryz.prog 160 [.list (L.map Xg),.fn (.func c) [] []] m fun y m1=>y=.bool (!Ku L nm)∧m1=m:=by
 refine QMp.go (by simp) ?_;simp only[QWI,eE,seval];refine Qd (ReI L nm c m) _ ⟨_,_,0,rfl,rfl,rfl,(by rfl),(by rfl),(by rfl),(by rfl),(by rfl),(by rfl),by simp<;>rfl⟩ ?_;rintro _ st ⟨f0,fr0,i,rfl,rfl,hx,h00,h30,h70,h80,h90,m30,r6⟩;refine QO (a:=_) [6] r6 ?_;intro f fr hf hm hn6;have h0:f 0=.list (L.map Xg):=by rw[hf,h00]<;>rfl
 have h3:f 3=.ptr 0 3 0:=by rw[hf,h30]<;>rfl
 have h7:f 7=.list (L.map Xg):=by rw[hf,h70]<;>rfl
 have h8:f 8=.int .i64 (L.length:Nat):=by rw[hf,h80]<;>rfl
 have h9:f 9=.int .i64 (i:Nat):=by rw[hf,h90]<;>rfl
 have m3:fr 3=.cells [.fn (.func c) [] []]:=by rw[hm 3 (by decide),m30]<;>rfl
 have n6:=hn6 6 (by decide);clear hf hm hn6 h00 h30 h70 h80 h90 m30 r6;simp only[h8,h9,Qa,seval];by_cases hlt:i<L.length
 ·obtain⟨x,hi⟩:∃x,L[i]? = some x:=⟨L[i],QVO hlt⟩;have hg:(L.map Xg)[i]? = some (Xg x):=by simp[hi]
  have e1:=Qm i _ hlt hl;have hle:(i≤L.length)=True:=eq_true (by omega);have ht:((L.map Xg).drop 0).take (i-0)=(L.take i).map Xg:=by simp
  have hstep:QC (uniq L nm) (i+1)=!(L.take i).any fun y=>nm y==nm x:=by
   rw[QC,hx,QXo,UI hi,Di]
  have hcl:=fun(fr:Nat→Ob) (h3:fr 3=.cells [.fn (.func c) [] []]) (h6:fr 6=.cells x.cells)=>VS (L.take i) (by simp;omega) (fun y=>nm y==nm x) 213 [.ptr 0 3 0,.ptr 0 6 0] (fr :: m) fun y _=>QPi nm c hn y x fr m h3 h6
  simp only[Ql hlt,Qh,QXe,Qc,hg,Xg,PI.cells,n6,h0,h7,h9,ZJ,ZB,Q5,QXl,QWI,QVV,QVL,hle,true_or,QW6,←List.map_take,eE,seval];refine Qk (hcl _ (by exact m3) (by rfl)) (by simp only[QWj,QWO,h3,Qa,seval]<;>rfl) ?_;cases hp:(L.take i).any fun y=>nm y==nm x
  ·rw[hp]at hstep;simp only[h9,e1,Qa,seval];exact⟨L.length-(i+1),by omega,_,_,i+1,rfl,rfl,hstep,(by exact h0),(by exact h3),(by exact h7),(by exact h8),(by rfl),(by exact m3),by simp<;>rfl⟩
  ·rw[hp]at hstep;have hf:Ku L nm=false:=by
    rw[QXA];intro h';rw[QK.2 fun k hk=>QK.1 h' k (by omega)]at hstep;cases hstep
   simp only[hf,QWU,Qa,seval]
 ·have hf:Ku L nm=true:=QK.2 fun k hk=>QK.1 hx k (by omega)
  simp only[Qy hlt,hf,QXp,Qa,seval]

end

theorem QPk (o:PO):Qj Tryz.prog 158 [Qt o] (.str o.name):=by
 refine QeQ.fn (by simp) ?_;simp only[Qt,PO.cells,eE,seval]

theorem QPl (o:PI):Qj Tryz.prog 161 [Xg o] (.str o.name):=by
 refine QMs.fn (by simp) ?_;simp only[Xg,PI.cells,eE,seval]

theorem QPm (x:PE)(g:PG)(fr:Nat→Ob)(m:Qq)(h2:fr 2=.cells g.cells):Qi Tryz.prog 156 [Qr x,.ptr 3 2 0] (Qe :: Qe :: Qe :: fr :: m) fun y m1=>y=.bool (x.name==g.name)∧m1=Qe :: Qe :: Qe :: fr :: m:=by
 simp only[PG.cells]at h2;refine QMj.go (by simp) ?_;simp only[Qr,PE.cells,h2,QL,eE,seval]

theorem QPn (x:PE)(hl:x.items.length≤maxLen)(m:Qq):Qi Tryz.prog 159 [Qr x] m fun y m1=>y=.bool (!Wq x)∧m1=m:=by
 refine QMm.go (by simp) ?_;simp only[Qr,PE.cells,Wq,eE,seval];refine Qk (QPj x.items hl PI.name 161 _ QPl) (by simp only[QWj,QWO,Qa,seval]<;>rfl) ?_;simp only[Qa,seval]

section
variable {M:Nat}(P:PL)(hP:P.ok M)
include hP

theorem QPo (g:PG)(hl:g.ops.length≤maxLen)(fr:Nat→Ob)(h1:fr 1=.cells [.list (P.progs.map Qn),.list (P.enums.map Qr)]) :
  Qi Tryz.prog 155 [Qn g,.ptr 3 1 0] [Qe,Qe,Qe,fr] fun y m1=>y=.bool (!Kx P g)∧m1=[Qe,Qe,Qe,fr]:=by
 have e:Kx P g=(!(P.enums.any fun e=>e.name==g.name)&&Ku g.ops PO.name):=by rw[Kx,Di]
 refine Qez.go (by simp) ?_;simp only[Qn,PG.cells,h1,e,eE,seval];refine Qk (Hx P.enums hP.len2 (fun e=>e.name==g.name) 156 [.ptr 0 2 0] _ fun o _=>QPm o g _ _ (by rfl)) (by simp only[QWj,QWO,Qa,seval]<;>rfl) ?_;cases P.enums.any fun e=>e.name==g.name
 ·simp only[QWU,QXo,eE,seval];refine Qk (QPh g.ops hl PO.name 158 _ QPk) (by simp only[QWj,QWO,Qa,seval]<;>rfl) ?_;simp only[Qa,seval]
 ·simp only[QXp,QXh,QWU,Qa,seval]

theorem z86:Qj Tryz.prog 86 [P.av] (.bool (!Bd P)):=by
 have e0:P.av=.agg [.list (P.progs.map Qn),.list (P.enums.map Qr)]:=rfl;refine k86.fn (by simp) ?_;simp only[e0,Bd,eE,seval];refine Qk (Dj P.progs hP.len1 (fun g=>!Kx P g) 155 [.ptr 0 1 0] _ fun o ho=>QPo P hP o (hP.progs o ho).len _ (by rfl)) (by simp only[QWj,QWO,Qa,seval]<;>rfl) ?_;simp only[Xk,Qa,seval];cases P.progs.all (Kx P)
 ·simp only[QWU,QXh,Qa,seval]
 simp only[QXp,QXo,eE,seval];refine Qk (Hx P.enums hP.len2 (fun g=>!Wq g) 159 [] _ fun o ho=>QPn o (hP.enums o ho).len1 _) (by simp only[QWj,QWO,Qa,seval]<;>rfl) ?_;simp only[Xk,Qa,seval]

end

theorem QPp (x:PS)(n:Int)(fr:Nat→Ob)(m:Qq)(h3:fr 3=.cells [.int .i64 n]):Qi Tryz.prog 247 [X3 x,.ptr 2 3 0] (Qe :: Qe :: fr :: m) fun y m1=>y=.bool (decide (x.lo≤n)&&decide (n≤x.hi))∧m1=Qe :: Qe :: fr :: m:=by
 refine QNM.go (by simp) ?_;simp only[X3,PS.cells,h3,eE,seval];cases h:decide (x.lo≤n)<;>simp only[h3,QXo,QXh,eE,seval]

theorem QPq (L:List PS)(hl:L.length≤maxLen)(n:Int):Qj Tryz.prog 215 [.list (L.map X3),.int .i64 n] (.bool (kept L n)):=by
 refine QNj.fn (by simp) ?_;simp only[eE,seval];refine Qk (QOM L hl (fun x=>decide (x.lo≤n)&&decide (n≤x.hi)) 247 [.ptr 0 3 0] _ fun o _=>QPp o n _ _ (by rfl)) (by simp only[QWj,QWO,Qa,seval]<;>rfl) ?_;simp only[kept,Qa,seval]

theorem QPr (o:PO)(m:Qq):Qi Tryz.prog 163 [Qt o] m fun y m1=>y=.bool (!Zl o)∧m1=m:=by
 refine Qe0.go (by simp) ?_;have e1:decide (o.num<1)=!decide (o.num≥1):=(by rw[QWH];simp only[QVS,QWL,QXE];omega);have e2:decide (o.num > 65535)=!decide (o.num≤65535):=(by rw[QWH];simp only[QVS,QWL,QXE];omega);simp only[Qt,PO.cells,Zl,e1,eE,seval];cases decide (o.num≥1)<;>simp only[QXp,QWU,QXo,QXh,e2,eE,seval]

theorem QPs (g:PG)(hl:g.ops.length≤maxLen)(m:Qq):Qi Tryz.prog 162 [Qn g] m fun y m1=>y=.bool (!g.ops.all Zl)∧m1=m:=by
 refine QeV.go (by simp) ?_;simp only[Qn,PG.cells,eE,seval];refine Qk (Bf g.ops hl (fun o=>!Zl o) 163 [] _ fun o _=>QPr o _) (by simp only[QWj,QWO,Qa,seval]<;>rfl) ?_;simp only[Xk,Qa,seval]

theorem QPt (o:PI)(x:PE)(hl:x.free.length≤maxLen)(fr:Nat→Ob)(m:Qq)(h1:fr 1=.cells x.cells):Qi Tryz.prog 214 [Xg o,.ptr 3 1 0] (Qe :: Qe :: Qe :: fr :: m) fun y m1=>y=.bool (!W0 x o)∧m1=Qe :: Qe :: Qe :: fr :: m:=by
 have hr:Qj Tryz.prog 215 [.list (x.free.map fun n=>AV.agg n.cells),.int .i64 o.num] (.bool (kept x.free o.num)):=QPq x.free hl o.num;simp only[PE.cells]at h1;refine QNg.go (by simp) ?_;have e2:decide (o.num > 2147483647)=!decide (o.num≤2147483647):=(by rw[QWH];simp only[QVS,QWL,QXE];omega);simp only[Xg,PI.cells,W0,e2,eE,seval];cases decide (o.num≤2147483647)
 ·simp only[QWU,QXh,Qa,seval]
 ·simp only[QXp,QXo,h1,eE,seval];refine Qb hr rfl rfl rfl (.inl rfl) ?_;simp only[Bool.not_not,Qa,seval]

def KW (l:List PS)(i:Nat):Bool:=He l Gt i&&Xc l YY i
theorem NS (l:List PS):QC (KW l) l.length=(l.all Gt&&XR l YY):=by
 unfold KW XR;rw[Hv,Hw]

def OuI (x:PE)(m:Qq)(k:Nat)(st:St):Prop :=
 ∃f fr i,st=⟨f,fr :: m,[]⟩∧k=x.free.length-i∧QC (KW x.free) i=true∧f 1=.ptr 0 1 0∧f 6=.list (x.free.map X3)∧f 7=.int .i64 (x.free.length:Nat)∧f 8=.int .i64 (i:Nat)∧fr 1=.cells x.cells∧∀s∈[4],(fr s).isRow=false

theorem QPu (x:PE)(h0:x.items≠[])(hl1:x.items.length≤maxLen)(hl:x.free.length≤maxLen)(m:Qq):Qi Tryz.prog 164 [Qr x] m fun y m1=>y=.bool (!Jh x)∧m1=m:=by
 have hsp:=NS x.free;have z1:Int.toNat 0=0:=rfl;have z0:(0≤(0:Int))=True:=by simp
 refine QMv.go (by simp) ?_;simp only[Qr,PE.cells,QWI,eE,seval];refine Qd (OuI x m) _ ⟨_,_,0,rfl,rfl,rfl,(by rfl),(by rfl),(by rfl),(by rfl),(by rfl),by simp<;>rfl⟩ ?_;rintro _ st ⟨f0,fr0,i,rfl,rfl,hx,h10,h60,h70,h80,m10,r4⟩;refine QO (a:=_) [4] r4 ?_;intro f fr hf hm hn4;have h1:f 1=.ptr 0 1 0:=by rw[hf,h10]<;>rfl
 have h6:f 6=.list (x.free.map X3):=by rw[hf,h60]<;>rfl
 have h7:f 7=.int .i64 (x.free.length:Nat):=by rw[hf,h70]<;>rfl
 have h8:f 8=.int .i64 (i:Nat):=by rw[hf,h80]<;>rfl
 have m1:fr 1=.cells x.cells:=by rw[hm 1 (by decide),m10]<;>rfl
 have n4:=hn4 4 (by decide);clear hf hm hn4 h10 h60 h70 h80 m10 r4;simp only[PE.cells]at m1;simp only[h7,h8,Qa,seval];by_cases hlt:i<x.free.length
 ·obtain⟨y,hi⟩:∃y,x.free[i]? = some y:=⟨x.free[i],QVO hlt⟩;have hg:(x.free.map X3)[i]? = some (X3 y):=by simp[hi]
  have e1:=Qm i _ hlt hl;have hstep:QC (KW x.free) (i+1)=(Gt y&&Xc x.free YY i):=by
   rw[QC,hx,QXo,KW,Ya hi]
  have hend:QC (KW x.free) (i+1)=false→Jh x=false:=by
   intro h;unfold Jh;rw[←hsp];have:QC (KW x.free) x.free.length=false:=by
    rw[QXA];intro h';rw[QK.2 fun k hk=>QK.1 h' k (by omega)]at h;cases h
   rw[this];rfl
  have fin:∀(f':Fr) (fr':Nat→Ob),QC (KW x.free) (i+1)=true→f' 1=.ptr 0 1 0→f' 6=.list (x.free.map X3)→f' 7=.int .i64 (x.free.length:Nat)→f' 8=.int .i64 ((i+1:Nat):Int)→fr' 1=.cells x.cells→(∀s∈[4],(fr' s).isRow=false)→∃k,k<x.free.length-i∧OuI x m k ⟨f',fr' :: m,[]⟩:=by
   intro f' fr' a b c d e g h;exact⟨x.free.length-(i+1),by omega,f',fr',i+1,rfl,rfl,a,b,c,d,e,g,h⟩
  have s1:Gt y=(!decide (y.lo<0) && !decide (y.hi > 2147483647) && !decide (y.hi<y.lo)):=by
   unfold Gt;exact(by rw[QWH];simp only[QVS,QWL,QXE,QWb];omega)
  rw[s1]at hstep;simp only[Ql hlt,Qh,QXe,Qc,hg,X3,PS.cells,n4,h6,h8,eE,seval];cases a1:decide (y.lo<0)
  case true=>
   rw[a1,QXp,QXh,QXh,QXh]at hstep;simp only[hend hstep,QWU,Qa,seval]
  cases a2:decide (y.hi > 2147483647)
  case true=>
   rw[a1,a2,QXp,QXF,QXh,QXh]at hstep;simp only[a2,hend hstep,QWU,eE,seval]
  cases a3:decide (y.hi<y.lo)
  case true=>
   rw[a1,a2,a3,QXp,QXF,QXh]at hstep;simp only[a2,a3,hend hstep,QWU,eE,seval]
  rw[a1,a2,a3]at hstep;simp only[QWU,QXo]at hstep;cases i with
  |zero=>
   have d0:decide (((0:Nat):Int) > 0)=false:=rfl;rw[Yv]at hstep;simp only[a2,a3,h8,eE,seval];exact fin _ _ hstep (by exact h1) (by exact h6) (by exact h7) (by rfl) (by exact m1) (by simp<;>rfl)
  |succ j=>
   have d0:decide (((j+1:Nat):Int) > 0)=true:=QXD (by omega);obtain⟨z,hj⟩:∃z,x.free[j]? = some z:=⟨x.free[j]'(by omega),QVO (by omega)⟩;have hgj:(x.free.map fun n=>AV.agg n.cells)[j]? = some (.agg z.cells):=by simp[hj]
   simp only[PS.cells]at hgj;rw[Jf hj hi]at hstep;have w:=Wr j _ hlt hl;have s2:YY z y=!decide (y.lo≤z.hi):=by unfold YY;exact(by rw[QWH];simp only[QVS,QWL,QXE];omega)
   rw[s2]at hstep;simp only[a2,a3,d0,w,Qh,QXe,Qc,hgj,PS.cells,h1,m1,eE,seval];cases a4:decide (y.lo≤z.hi)
   ·rw[a4]at hstep;simp only[h8,e1,Qa,seval];exact fin _ _ hstep (by exact h1) (by exact h6) (by exact h7) (by rfl) (by exact m1) (by simp<;>rfl)
   ·rw[a4]at hstep;simp only[hend hstep,QWU,Qa,seval]
 ·have hfr:QC (KW x.free) x.free.length=true:=QK.2 fun k hk=>QK.1 hx k (by omega)
  obtain⟨it,Qf,hits⟩:∃it Qf,x.items=it :: Qf:=by
   cases h:x.items with
   |nil=>exact absurd h h0
   |cons a b=>exact⟨a,b,rfl⟩
  have hr:Jh x=(it.num==0&&x.items.all (W0 x)):=by
   unfold Jh;rw[←hsp,hfr,QXo,Uf,hits]
  have hg0:(x.items.map fun n=>AV.agg n.cells)[0]? = some (.agg it.cells):=by simp[hits]
  have hne:(it.num != 0)=!(it.num==0):=rfl;simp only[PI.cells]at hg0;simp only[Qy hlt,Qc,z0,z1,hg0,PI.cells,hr,hne,QV2,QWJ,h1,m1,eE,seval];cases it.num==0
  ·simp only[QWU,QXh,Qa,seval]
  ·simp only[QXp,QXo,m1,h1,eE,seval];refine Qk (VS x.items hl1 (fun o=>!W0 x o) 214 [.ptr 0 1 0] _ fun o _=>QPt o x hl _ _ (by exact m1)) (by simp only[QWj,QWO,h1,Qa,seval]<;>rfl) ?_;simp only[Xk,Qa,seval]

theorem z87 {M:Nat}(P:PL)(hP:P.ok M)(hi:∀e∈P.enums,e.items≠[]):Qj Tryz.prog 87 [P.av] (.bool (!Be P)):=by
 have e0:P.av=.agg [.list (P.progs.map Qn),.list (P.enums.map Qr)]:=rfl;refine k87.fn (by simp) ?_;simp only[e0,Be,eE,seval];refine Qk (Dj P.progs hP.len1 (fun g=>!g.ops.all Zl) 162 [] _ fun o ho=>QPs o (hP.progs o ho).len _) (by simp only[QWj,QWO,Qa,seval]<;>rfl) ?_;simp only[Xk,Qa,seval];cases P.progs.all fun g=>g.ops.all Zl
 ·simp only[QWU,QXh,Qa,seval]
 simp only[QXp,QXo,eE,seval];refine Qk (Hx P.enums hP.len2 (fun g=>!Jh g) 164 [] _ fun o ho=>QPu o (hi o ho) (hP.enums o ho).len1 (hP.enums o ho).len2 _) (by simp only[QWj,QWO,Qa,seval]<;>rfl) ?_;simp only[Xk,Qa,seval]

end Go.Proofs.YtipjfckmopekaaaGreatDoor.Va

namespace Go.Proofs.YtipjfckmopekaaaGreatDoor.Va
open Go Am Rc Bt

def bt (s:List UInt8)(i lo hi:Nat):Bool :=
 match s[i]? with
 |some b=>decide (lo≤b.toNat)&&decide (b.toNat≤hi)
 |none=>false
def tl (s:List UInt8):Nat→Nat→Bool
 |_,0=>true
 |i,n+1=>bt s i 128 191&&tl s (i+1) n
def DT (s:List UInt8)(i b:Nat):Nat :=
 if b<128 then 1
 else if 194≤b∧b≤223∧tl s (i+1) 1=true then 2
 else if b=224∧bt s (i+1) 160 191=true∧tl s (i+2) 1=true then 3
 else if b=237∧bt s (i+1) 128 159=true∧tl s (i+2) 1=true then 3
 else if 225≤b∧b≤239∧b≠237∧tl s (i+1) 2=true then 3
 else if b=240∧bt s (i+1) 144 191=true∧tl s (i+2) 2=true then 4
 else if 241≤b∧b≤243∧tl s (i+1) 3=true then 4
 else if b=244∧bt s (i+1) 128 143=true∧tl s (i+2) 2=true then 4
 else 0
def sz (s:List UInt8)(i:Nat):Nat :=
 match s[i]? with
 |none=>0
 |some c=>DT s i c.toNat
def WQ (s:List UInt8):Nat→Nat→Int
 |0,_=>-1
 |k+1,i=>if i<s.length then(if sz s i=0 then(i:Int)else WQ s k (i+sz s i))else -1
def Hh (s:List UInt8):Bool:=decide (WQ s s.length 0<0)

theorem QPv (c:UInt8)(n:Nat):decide ((c.toNat:Int)≥(n:Int))=decide (n≤c.toNat):=by simp
theorem QPw (c:UInt8)(n:Nat):decide ((c.toNat:Int)≤(n:Int))=decide (c.toNat≤n):=by simp

theorem Bk (s:List UInt8)(i lo hi:Nat):Qj Tryz.prog 272 [.str s,.int .i64 (i:Nat),.int .u8 (lo:Nat),.int .u8 (hi:Nat)] (.bool (bt s i lo hi)):=by
 refine QN8.fn (by simp) ?_;by_cases hlt:i<s.length
 ·obtain⟨c,hc⟩:∃c,s[i]? = some c:=⟨s[i],QVO hlt⟩;have hb:bt s i lo hi=(decide (lo≤c.toNat)&&decide (c.toNat≤hi)):=by simp only[bt,hc]
  simp only[Ql hlt,Qh,QXe,hc,QPv,Qa,seval];by_cases h1:lo≤c.toNat
  ·have d1:decide (lo≤c.toNat)=true:=by simpa using h1
   simp only[d1,Qh,QXe,hc,hb,QPw,QXo,Qa,seval]
  ·have d1:decide (lo≤c.toNat)=false:=by simpa using h1
   simp only[d1,hb,QXh,Qa,seval]
 ·have hb:bt s i lo hi=false:=by simp only[bt,QXb (Nat.le_of_not_lt hlt)]
  simp only[Qy hlt,hb,Qa,seval]

def QGv (s:List UInt8)(i n:Nat)(k:Nat)(st:St):Prop :=
 ∃f j,st=⟨f,[Qe],[]⟩∧k=n-j∧j≤n∧tl s i n=tl s (i+j) (n-j)∧f 0=.str s∧f 1=.int .i64 (i:Nat)∧f 2=.int .i64 (n:Nat)∧f 7=.int .i64 (j:Nat)

theorem Jy (a b:Nat)(h:a+b≤maxLen):IntKind.i64.wrap ((a:Int)+(b:Int))=((a+b:Nat):Int):=by
 simp only[maxLen]at h;rw[QG];omega

theorem Hy (s:List UInt8)(i n:Nat)(hi:i+n≤maxLen):Qj Tryz.prog 271 [.str s,.int .i64 (i:Nat),.int .i64 (n:Nat)] (.bool (tl s i n)):=by
 refine QN5.fn (by simp) ?_;simp only[Qa,seval];refine Qd (QGv s i n) _ ⟨_,0,rfl,rfl,QVV _,rfl,rfl,rfl,rfl,rfl⟩ ?_;rintro _ st ⟨f,j,rfl,rfl,hj,ht,h0,h1,h2,h7⟩;simp only[h2,h7,Qa,seval];by_cases hlt:j<n
 ·have e0:=Jy i j (by omega);have e1:=Qm j _ hlt (by omega);simp only[Ql hlt,h0,h1,h7,e0,Qa,seval];refine Qb (Bk s (i+j) 128 191) rfl rfl rfl (.inl rfl) ?_;have hs:tl s i n=(bt s (i+j) 128 191&&tl s (i+(j+1)) (n-(j+1))):=by
   rw[ht];obtain⟨m,hm⟩:∃m,n-j=m+1:=⟨n-j-1,by omega⟩;rw[hm,show n-(j+1)=m by omega];rfl
  cases hb:bt s (i+j) 128 191
  ·rw[hb]at hs;simp only[hs,QXh,Qa,seval]
  ·rw[hb,QXo]at hs;simp only[h7,e1,Qa,seval];exact⟨n-(j+1),by omega,_,j+1,rfl,rfl,by omega,hs,(by exact h0),(by exact h1),(by exact h2),(by rfl)⟩
 ·have hs:tl s i n=true:=by
   rw[ht,show n-j=0 by omega];rfl
  simp only[Qy hlt,hs,Qa,seval]

def Bl (s:List UInt8)(i:Nat)(c:UInt8)(D:Nat)(cond:Prop)(g:List Am.Item):Prop :=
 ∀Q:St→Prop,(∀f' B,(B=true↔cond)→f' 0=.str s→f' 1=.int .i64 (i:Nat)→f' 5=.int .u8 (c.toNat:Nat)→f' D=.bool B→Q ⟨f',[Qe],[]⟩)→
  ∀f,f 0=.str s→f 1=.int .i64 (i:Nat)→f 5=.int .u8 (c.toNat:Nat)→QF Tryz.prog g ⟨f,[Qe],[]⟩ Q

section
variable {s:List UInt8}{i:Nat}{c:UInt8}(hi:i<s.length)(hs:s.length+8≤maxLen)
include hi hs

theorem QPx:Bl s i c 12 (194≤c.toNat∧c.toNat≤223∧tl s (i+1) 1=true) F3:=by
 intro Q hQ f h0 h1 h5;have e1:IntKind.i64.wrap ((i:Int)+1)=((i+1:Nat):Int):=Jy i 1 (by omega);have e2:IntKind.i64.wrap ((i:Int)+2)=((i+2:Nat):Int):=Jy i 2 (by omega);simp only[F3,h5,Qa,seval]
 repeat' (first|(refine Q1 (fun h=>?_) (fun h=>?_)<;>simp only[h,h0,h1,h5,e1,e2,eE,seval])|(refine Xz (fun h=>?_) (fun h=>?_)<;>simp only[h,Qo,h0,h1,h5,e1,Qa,seval])|(refine XA (fun h=>?_) (fun h=>?_)<;>simp only[h,Qo,h0,h1,h5,e1,e2,eE,seval])|((with_reducible apply Qb (k:=271));(case hy=>rfl);(case h1=>rfl);(case hk=>exact Hy s (i+1) 1 (by omega));(case h2=>rfl);(case h3=>first|exact .inl rfl|exact .inr rfl);simp only[Qa,seval]))
 all_goals(refine hQ _ _ ?_ (by exact h0) (by exact h1) (by exact h5) rfl)
 all_goals simp only[QVS,QXE]at *
 all_goals
  constructor
  ·intro hh
   first
    |cases hh
    |(refine⟨by omega,?_⟩;first|exact hh|(refine⟨by omega,?_⟩;first|exact hh|(refine⟨by omega,?_⟩;exact hh))|exact⟨by assumption,hh⟩)
  ·intro hh
   first
    |exact hh.2.2.2
    |exact hh.2.2
    |(exfalso;omega)
    |(exfalso;simp_all;done)

theorem QPy:Bl s i c 25 (c.toNat=224∧bt s (i+1) 160 191=true∧tl s (i+2) 1=true) F4:=by
 intro Q hQ f h0 h1 h5;have e1:IntKind.i64.wrap ((i:Int)+1)=((i+1:Nat):Int):=Jy i 1 (by omega);have e2:IntKind.i64.wrap ((i:Int)+2)=((i+2:Nat):Int):=Jy i 2 (by omega);simp only[F4,h5,Qa,seval]
 repeat' (first|(refine Q1 (fun h=>?_) (fun h=>?_)<;>simp only[h,h0,h1,h5,e1,e2,eE,seval])|(refine Xz (fun h=>?_) (fun h=>?_)<;>simp only[h,Qo,h0,h1,e1,e2,Qa,seval])|(refine XA (fun h=>?_) (fun h=>?_)<;>simp only[h,Qo,h0,h1,h5,e1,e2,eE,seval])|((with_reducible apply Qb (k:=272));(case hy=>rfl);(case h1=>rfl);(case hk=>exact Bk s (i+1) 160 191);(case h2=>rfl);(case h3=>first|exact .inl rfl|exact .inr rfl);simp only[Qa,seval])|((with_reducible apply Qb (k:=271));(case hy=>rfl);(case h1=>rfl);(case hk=>exact Hy s (i+2) 1 (by omega));(case h2=>rfl);(case h3=>first|exact .inl rfl|exact .inr rfl);simp only[Qa,seval]))
 all_goals(refine hQ _ _ ?_ (by exact h0) (by exact h1) (by exact h5) rfl)
 all_goals simp only[QVT,QXt,ne_eq]at *
 all_goals
  constructor
  ·intro hh
   first
    |cases hh
    |(refine⟨by omega,?_⟩;first|exact hh|(refine⟨by omega,?_⟩;first|exact hh|(refine⟨by omega,?_⟩;exact hh))|exact⟨by assumption,hh⟩)
  ·intro hh
   first
    |exact hh.2.2.2
    |exact hh.2.2
    |(exfalso;omega)
    |(exfalso;simp_all;done)

theorem QPz:Bl s i c 40 (c.toNat=237∧bt s (i+1) 128 159=true∧tl s (i+2) 1=true) F5:=by
 intro Q hQ f h0 h1 h5;have e1:IntKind.i64.wrap ((i:Int)+1)=((i+1:Nat):Int):=Jy i 1 (by omega);have e2:IntKind.i64.wrap ((i:Int)+2)=((i+2:Nat):Int):=Jy i 2 (by omega);simp only[F5,h5,Qa,seval]
 repeat' (first|(refine Q1 (fun h=>?_) (fun h=>?_)<;>simp only[h,h0,h1,h5,e1,e2,eE,seval])|(refine Xz (fun h=>?_) (fun h=>?_)<;>simp only[h,Qo,h0,h1,e1,e2,Qa,seval])|(refine XA (fun h=>?_) (fun h=>?_)<;>simp only[h,Qo,h0,h1,h5,e1,e2,eE,seval])|((with_reducible apply Qb (k:=272));(case hy=>rfl);(case h1=>rfl);(case hk=>exact Bk s (i+1) 128 159);(case h2=>rfl);(case h3=>first|exact .inl rfl|exact .inr rfl);simp only[Qa,seval])|((with_reducible apply Qb (k:=271));(case hy=>rfl);(case h1=>rfl);(case hk=>exact Hy s (i+2) 1 (by omega));(case h2=>rfl);(case h3=>first|exact .inl rfl|exact .inr rfl);simp only[Qa,seval]))
 all_goals(refine hQ _ _ ?_ (by exact h0) (by exact h1) (by exact h5) rfl)
 all_goals simp only[QVT,QXt,ne_eq]at *
 all_goals
  constructor
  ·intro hh
   first
    |cases hh
    |(refine⟨by omega,?_⟩;first|exact hh|(refine⟨by omega,?_⟩;first|exact hh|(refine⟨by omega,?_⟩;exact hh))|exact⟨by assumption,hh⟩)
  ·intro hh
   first
    |exact hh.2.2.2
    |exact hh.2.2
    |(exfalso;omega)
    |(exfalso;simp_all;done)

theorem QGw:Bl s i c 55 (225≤c.toNat∧c.toNat≤239∧c.toNat≠237∧tl s (i+1) 2=true) De:=by
 intro Q hQ f h0 h1 h5;have e1:IntKind.i64.wrap ((i:Int)+1)=((i+1:Nat):Int):=Jy i 1 (by omega);have e2:IntKind.i64.wrap ((i:Int)+2)=((i+2:Nat):Int):=Jy i 2 (by omega);simp only[De,h5,Qa,seval]
 repeat' (first|(refine Q1 (fun h=>?_) (fun h=>?_)<;>simp only[h,h0,h1,h5,e1,e2,eE,seval])|(refine Xz (fun h=>?_) (fun h=>?_)<;>simp only[h,Qo,h0,h1,h5,e1,Qa,seval])|(refine XA (fun h=>?_) (fun h=>?_)<;>simp only[h,Qo,h0,h1,h5,e1,e2,eE,seval])|((with_reducible apply Qb (k:=271));(case hy=>rfl);(case h1=>rfl);(case hk=>exact Hy s (i+1) 2 (by omega));(case h2=>rfl);(case h3=>first|exact .inl rfl|exact .inr rfl);simp only[Qa,seval]))
 all_goals(refine hQ _ _ ?_ (by exact h0) (by exact h1) (by exact h5) rfl)
 all_goals simp only[QVS,QXE,QWd,bne_eq_false_iff_eq,ne_eq]at *
 all_goals
  constructor
  ·intro hh
   first
    |cases hh
    |(refine⟨by omega,?_⟩;first|exact hh|(refine⟨by omega,?_⟩;first|exact hh|(refine⟨by omega,?_⟩;exact hh))|exact⟨by assumption,hh⟩)
  ·intro hh
   first
    |exact hh.2.2.2
    |exact hh.2.2
    |(exfalso;omega)
    |(exfalso;simp_all;done)

theorem QGx:Bl s i c 72 (c.toNat=240∧bt s (i+1) 144 191=true∧tl s (i+2) 2=true) Df:=by
 intro Q hQ f h0 h1 h5;have e1:IntKind.i64.wrap ((i:Int)+1)=((i+1:Nat):Int):=Jy i 1 (by omega);have e2:IntKind.i64.wrap ((i:Int)+2)=((i+2:Nat):Int):=Jy i 2 (by omega);simp only[Df,h5,Qa,seval]
 repeat' (first|(refine Q1 (fun h=>?_) (fun h=>?_)<;>simp only[h,h0,h1,h5,e1,e2,eE,seval])|(refine Xz (fun h=>?_) (fun h=>?_)<;>simp only[h,Qo,h0,h1,e1,e2,Qa,seval])|(refine XA (fun h=>?_) (fun h=>?_)<;>simp only[h,Qo,h0,h1,h5,e1,e2,eE,seval])|((with_reducible apply Qb (k:=272));(case hy=>rfl);(case h1=>rfl);(case hk=>exact Bk s (i+1) 144 191);(case h2=>rfl);(case h3=>first|exact .inl rfl|exact .inr rfl);simp only[Qa,seval])|((with_reducible apply Qb (k:=271));(case hy=>rfl);(case h1=>rfl);(case hk=>exact Hy s (i+2) 2 (by omega));(case h2=>rfl);(case h3=>first|exact .inl rfl|exact .inr rfl);simp only[Qa,seval]))
 all_goals(refine hQ _ _ ?_ (by exact h0) (by exact h1) (by exact h5) rfl)
 all_goals simp only[QVT,QXt,ne_eq]at *
 all_goals
  constructor
  ·intro hh
   first
    |cases hh
    |(refine⟨by omega,?_⟩;first|exact hh|(refine⟨by omega,?_⟩;first|exact hh|(refine⟨by omega,?_⟩;exact hh))|exact⟨by assumption,hh⟩)
  ·intro hh
   first
    |exact hh.2.2.2
    |exact hh.2.2
    |(exfalso;omega)
    |(exfalso;simp_all;done)

theorem QGy:Bl s i c 87 (241≤c.toNat∧c.toNat≤243∧tl s (i+1) 3=true) Dg:=by
 intro Q hQ f h0 h1 h5;have e1:IntKind.i64.wrap ((i:Int)+1)=((i+1:Nat):Int):=Jy i 1 (by omega);have e2:IntKind.i64.wrap ((i:Int)+2)=((i+2:Nat):Int):=Jy i 2 (by omega);simp only[Dg,h5,Qa,seval]
 repeat' (first|(refine Q1 (fun h=>?_) (fun h=>?_)<;>simp only[h,h0,h1,h5,e1,e2,eE,seval])|(refine Xz (fun h=>?_) (fun h=>?_)<;>simp only[h,Qo,h0,h1,h5,e1,Qa,seval])|(refine XA (fun h=>?_) (fun h=>?_)<;>simp only[h,Qo,h0,h1,h5,e1,e2,eE,seval])|((with_reducible apply Qb (k:=271));(case hy=>rfl);(case h1=>rfl);(case hk=>exact Hy s (i+1) 3 (by omega));(case h2=>rfl);(case h3=>first|exact .inl rfl|exact .inr rfl);simp only[Qa,seval]))
 all_goals(refine hQ _ _ ?_ (by exact h0) (by exact h1) (by exact h5) rfl)
 all_goals simp only[QVS,QXE]at *
 all_goals
  constructor
  ·intro hh
   first
    |cases hh
    |(refine⟨by omega,?_⟩;first|exact hh|(refine⟨by omega,?_⟩;first|exact hh|(refine⟨by omega,?_⟩;exact hh))|exact⟨by assumption,hh⟩)
  ·intro hh
   first
    |exact hh.2.2.2
    |exact hh.2.2
    |(exfalso;omega)
    |(exfalso;simp_all;done)

theorem QGz:Bl s i c 100 (c.toNat=244∧bt s (i+1) 128 143=true∧tl s (i+2) 2=true) Dh:=by
 intro Q hQ f h0 h1 h5;have e1:IntKind.i64.wrap ((i:Int)+1)=((i+1:Nat):Int):=Jy i 1 (by omega);have e2:IntKind.i64.wrap ((i:Int)+2)=((i+2:Nat):Int):=Jy i 2 (by omega);simp only[Dh,h5,Qa,seval]
 repeat' (first|(refine Q1 (fun h=>?_) (fun h=>?_)<;>simp only[h,h0,h1,h5,e1,e2,eE,seval])|(refine Xz (fun h=>?_) (fun h=>?_)<;>simp only[h,Qo,h0,h1,e1,e2,Qa,seval])|(refine XA (fun h=>?_) (fun h=>?_)<;>simp only[h,Qo,h0,h1,h5,e1,e2,eE,seval])|((with_reducible apply Qb (k:=272));(case hy=>rfl);(case h1=>rfl);(case hk=>exact Bk s (i+1) 128 143);(case h2=>rfl);(case h3=>first|exact .inl rfl|exact .inr rfl);simp only[Qa,seval])|((with_reducible apply Qb (k:=271));(case hy=>rfl);(case h1=>rfl);(case hk=>exact Hy s (i+2) 2 (by omega));(case h2=>rfl);(case h3=>first|exact .inl rfl|exact .inr rfl);simp only[Qa,seval]))
 all_goals(refine hQ _ _ ?_ (by exact h0) (by exact h1) (by exact h5) rfl)
 all_goals simp only[QVT,QXt,ne_eq]at *
 all_goals
  constructor
  ·intro hh
   first
    |cases hh
    |(refine⟨by omega,?_⟩;first|exact hh|(refine⟨by omega,?_⟩;first|exact hh|(refine⟨by omega,?_⟩;exact hh))|exact⟨by assumption,hh⟩)
  ·intro hh
   first
    |exact hh.2.2.2
    |exact hh.2.2
    |(exfalso;omega)
    |(exfalso;simp_all;done)

end

theorem QPA (s:List UInt8)(i:Nat)(hi:i<s.length)(hs:s.length+8≤maxLen):Qj Tryz.prog 240 [.str s,.int .i64 (i:Nat)] (.int .i64 (sz s i:Nat)):=by
 refine QND.fn (by simp) ?_;obtain⟨c,hc⟩:∃c,s[i]? = some c:=⟨s[i],QVO hi⟩;have hz:sz s i=DT s i c.toNat:=by simp only[sz,hc]
 unfold DT at hz;simp only[MM,MN,MO,MP,MQ,MS,MT,NL,NM,NN,NO,NP,QtI,QtJ,Qh,QXe,hc,Qa,seval];refine Q1 (fun h=>?_) (fun h=>?_)
 ·have h:c.toNat<128:=by simp at h;omega
  rw[hz,QWg h];simp only[Qa,seval]
  try rfl
 have h:¬c.toNat<128:=by simp at h;omega
 rw[hz,QV1 h];simp only[Qa,seval];refine QPx hi hs _ (fun f B hB h0 h1 h5 hd=>?_) _ (by rfl) (by rfl) (by rfl);by_cases hB1:B=true
 ·rw[QWg (hB.1 hB1)];subst hB1;simp only[hd,Qa,seval]
  try rfl
 rw[QV1 (fun hh=>hB1 (hB.2 hh))];have hB2:B=false:=by simpa using hB1
 subst hB2;simp only[hd,Qa,seval];refine QPy hi hs _ (fun f B hB h0 h1 h5 hd=>?_) _ (by exact h0) (by exact h1) (by exact h5);by_cases hB1:B=true
 ·rw[QWg (hB.1 hB1)];subst hB1;simp only[hd,Qa,seval]
  try rfl
 rw[QV1 (fun hh=>hB1 (hB.2 hh))];have hB2:B=false:=by simpa using hB1
 subst hB2;simp only[hd,Qa,seval];refine QPz hi hs _ (fun f B hB h0 h1 h5 hd=>?_) _ (by exact h0) (by exact h1) (by exact h5);by_cases hB1:B=true
 ·rw[QWg (hB.1 hB1)];subst hB1;simp only[hd,Qa,seval]
  try rfl
 rw[QV1 (fun hh=>hB1 (hB.2 hh))];have hB2:B=false:=by simpa using hB1
 subst hB2;simp only[hd,Qa,seval];refine QGw hi hs _ (fun f B hB h0 h1 h5 hd=>?_) _ (by exact h0) (by exact h1) (by exact h5);by_cases hB1:B=true
 ·rw[QWg (hB.1 hB1)];subst hB1;simp only[hd,Qa,seval]
  try rfl
 rw[QV1 (fun hh=>hB1 (hB.2 hh))];have hB2:B=false:=by simpa using hB1
 subst hB2;simp only[hd,Qa,seval];refine QGx hi hs _ (fun f B hB h0 h1 h5 hd=>?_) _ (by exact h0) (by exact h1) (by exact h5);by_cases hB1:B=true
 ·rw[QWg (hB.1 hB1)];subst hB1;simp only[hd,Qa,seval]
  try rfl
 rw[QV1 (fun hh=>hB1 (hB.2 hh))];have hB2:B=false:=by simpa using hB1
 subst hB2;simp only[hd,Qa,seval];refine QGy hi hs _ (fun f B hB h0 h1 h5 hd=>?_) _ (by exact h0) (by exact h1) (by exact h5);by_cases hB1:B=true
 ·rw[QWg (hB.1 hB1)];subst hB1;simp only[hd,Qa,seval]
  try rfl
 rw[QV1 (fun hh=>hB1 (hB.2 hh))];have hB2:B=false:=by simpa using hB1
 subst hB2;simp only[hd,Qa,seval];refine QGz hi hs _ (fun f B hB h0 h1 h5 hd=>?_) _ (by exact h0) (by exact h1) (by exact h5);by_cases hB1:B=true
 ·rw[QWg (hB.1 hB1)];subst hB1;simp only[hd,Qa,seval]
  try rfl
 rw[QV1 (fun hh=>hB1 (hB.2 hh))];have hB2:B=false:=by simpa using hB1
 subst hB2;simp only[hd,Qa,seval]
 try rfl

theorem SY (s:List UInt8)(i:Nat)(hi:i<s.length)(_h:sz s i≠0):i+sz s i≤s.length:=by
 have tl1:∀n j,tl s j n=true→n≠0→j+n≤s.length:=by
  intro n
  induction n with
  |zero=>intro j _ h;exact absurd rfl h
  |succ n ih=>
   intro j hj _;simp only[tl,QWb]at hj;have hb:j<s.length:=by
    have h1:=hj.1;unfold bt at h1;split at h1
    ·rename_i b hb;exact(QVN.1 hb).1
    ·cases h1
   by_cases h0:n=0
   ·subst h0;omega
   ·have:=ih (j+1) hj.2 h0;omega
 obtain⟨c,hc⟩:∃c,s[i]? = some c:=⟨s[i],QVO hi⟩;simp only[sz,hc]at _h ⊢;unfold DT at _h ⊢
 (repeat' split)<;>first
  |omega
  |(rename_i hh;have:=tl1 _ _ hh.2.2 (by decide);omega)
  |(rename_i hh;have:=tl1 _ _ hh.2.2.2 (by decide);omega)
  |simp_all

def QPB (s:List UInt8)(k:Nat)(st:St):Prop :=
 ∃f i,st=⟨f,[Qe],[]⟩∧i≤s.length∧s.length-i≤k∧WQ s s.length 0=WQ s k i∧f 0=.str s∧f 3=.int .i64 (i:Nat)

theorem QPC (s:List UInt8)(hs:s.length+8≤maxLen):Qj Tryz.prog 202 [.str s] (.int .i64 (WQ s s.length 0)):=by
 refine QM7.fn (by simp) ?_;simp only[Qa,seval];refine Qd (QPB s) s.length ⟨_,0,rfl,QVV _,QVL _,rfl,rfl,rfl⟩ ?_;rintro k st ⟨f,i,rfl,hi,hk,hb,h0,h3⟩;simp only[h0,h3,Qa,seval];by_cases hlt:i<s.length
 ·simp only[Ql hlt,h0,h3,Qa,seval];refine Qb (QPA s i hlt hs) rfl rfl rfl (.inl rfl) ?_;obtain⟨k,rfl⟩:∃n,k=n+1:=⟨k-1,by omega⟩;have hbk:WQ s (k+1) i=if sz s i=0 then(i:Int)else WQ s k (i+sz s i):=by
   show(if i<s.length then _ else _)=_;rw[QWg hlt]
  by_cases hz:sz s i=0
  ·have b0:((sz s i:Int)==0)=true:=by simp[hz]
   simp only[b0,h3,hb,hbk,QWg hz,Qa,seval]
  ·have b0:((sz s i:Int)==0)=false:=by simp;omega
   have hle:=SY s i hlt hz;have e0:=Jy i (sz s i) (by omega);simp only[b0,h3,e0,Qa,seval];exact⟨k,by omega,_,i+sz s i,rfl,hle,by omega,by rw[hb,hbk,QV1 hz],(by exact h0),(by rfl)⟩
 ·have hbk:WQ s k i = -1:=by
   cases k with
   |zero=>rfl
   |succ k=>
    show(if i<s.length then _ else _)=_;rw[QV1 hlt]
  simp only[Qy hlt,hb,hbk,Qa,seval]

theorem VU (s:List UInt8)(hs:s.length+8≤maxLen):Qj Tryz.prog 131 [.str s] (.bool (Hh s)):=by
 refine QLM.fn (by simp) ?_;simp only[Qa,seval];refine Qb (QPC s hs) rfl rfl rfl (.inl rfl) ?_;simp only[Qa,seval]
 try rfl

def KS (s:List UInt8)(i:Nat):Bool:=(s.drop i).take 3==[239,191,189]

theorem QPD (s t:List UInt8):Qj Tryz.prog 293 [.str s,.str t] (.bool (s.take t.length==t)):=by
 refine QOt.fn (by simp) ?_;by_cases h:t.length≤s.length
 ·have d0:decide ((s.length:Int)≥(t.length:Int))=true:=by simp;omega
  have s1:(0≤t.length∧t.length≤s.length)=True:=by simp;omega
  simp only[d0,Qh,s1,QXe,QL,QW6,QWu,Qa,seval]
 ·have d0:decide ((s.length:Int)≥(t.length:Int))=false:=by simp;omega
  have e0:(s.take t.length==t)=false:=by
   rw[QXt];intro hh;have:=congrArg List.length hh;simp at this;omega
  simp only[d0,e0,Qa,seval]

theorem QPE (s t:List UInt8):Qj Tryz.prog 277 [.str s,.str t] (.bool (s.take t.length==t)):=by
 refine QOe.fn (by simp) ?_;simp only[Qa,seval];refine Qb (QPD s t) rfl rfl rfl (.inl rfl) ?_;simp only[Qa,seval]

theorem QPF (s:List UInt8)(i:Nat)(hi:i≤s.length)(c:Nat):Qj Tryz.prog 248 [.str s,.int .i64 (i:Nat),.int .i32 (c:Nat)] (.bool (decide (c=65533) && !KS s i)):=by
 refine QNP.fn (by simp) ?_;by_cases hc:c=65533
 ·have b0:((c:Int)==65533)=true:=by simp[hc]
  have s1:(i≤s.length∧s.length≤s.length)=True:=by simp;omega
  simp only[b0,Qh,s1,QXe,Qa,seval];refine Qb (QPE (List.take (s.length-i) (List.drop i s)) [239,191,189]) rfl rfl rfl (.inl rfl) ?_;have ht:List.take (s.length-i) (List.drop i s)=List.drop i s:=QWl (by simp);simp only[ht,KS,hc,Qa,seval]
 ·have b0:((c:Int)==65533)=false:=by simp;omega
  simp only[b0,hc,Qa,seval];simp

end Go.Proofs.YtipjfckmopekaaaGreatDoor.Va

namespace Go.Proofs.YtipjfckmopekaaaGreatDoor.Vp

def KT:Nat→Nat→List UInt8
 |0,u=>[UInt8.ofNat u]
 |k+1,u=>if u<128 then [UInt8.ofNat u]else UInt8.ofNat (u % 128+128) :: KT k (u / 128)

def put (u:Nat):List UInt8:=KT 9 u

def KX:Nat→Nat→List UInt8→Nat×Nat×Nat
 |_,_,[]=>(0,0,4)
 |i,acc,c :: t=>
  if i=9∧1<c.toNat then(0,0,6)
  else if c.toNat<128 then(acc+c.toNat*128 ^ i,i+1,0)
  else KX (i+1) (acc+(c.toNat-128)*128 ^ i) t

def take (s:List UInt8):Nat×Nat×Nat:=KX 0 0 s

theorem toNat_ofNat (n:Nat)(h:n<256):(UInt8.ofNat n).toNat=n:=by
 simp[UInt8.toNat_ofNat'];omega

theorem Rr (k u:Nat):1≤(KT k u).length∧(KT k u).length≤k+1:=by
 induction k generalizing u with
 |zero=>simp[KT]
 |succ k ih=>
  unfold KT;split
  ·simp
  ·have:=ih (u / 128);simp;omega

theorem put_len (u:Nat):1≤(put u).length∧(put u).length≤10:=Rr 9 u

theorem Gu (k u:Nat)(h:u<128):KT k u=[UInt8.ofNat u]:=by
 cases k<;>simp[KT,h]

theorem Bm (k u:Nat)(h:¬u<128):KT (k+1) u=UInt8.ofNat (u % 128+128) :: KT k (u / 128):=by
 simp[KT,h]

def Uh (i:Nat):Nat:=2 ^ (64-7*i)

theorem DU (i u:Nat)(hi:i<9)(h:u<Uh i):u / 128<Uh (i+1):=by
 unfold Uh at *;have e:64-7*i=(64-7*(i+1))+7:=by omega
 rw[e,Nat.pow_add]at h;omega

theorem VV (i acc:Nat)(s:List UInt8)(hi:i≤9)(ha:acc<128 ^ i)(h:(KX i acc s).2.2=0) :
  i<(KX i acc s).2.1∧(KX i acc s).2.1≤i+s.length∧(KX i acc s).2.1≤10∧(KX i acc s).1<2 ^ 64:=by
 induction s generalizing i acc with
 |nil=>simp[KX]at h
 |cons c t ih=>
  unfold KX at h ⊢;split
  ·rename_i h1;rw[QWg h1]at h;simp at h
  ·rename_i h1;rw[QV1 h1]at h;have hp:128 ^ i=2 ^ (7*i):=by rw[show(128:Nat)=2 ^ 7 from rfl,←Nat.pow_mul]
   split
   ·rename_i h2;refine⟨Nat.lt_succ_self i,by simp,by show i+1≤10;omega,?_⟩;show acc+c.toNat*128 ^ i<2 ^ 64;rcases Nat.lt_or_ge i 9 with h9|h9
    ·have:c.toNat*128 ^ i≤127*128 ^ i:=QWS _ (by omega);have h3:acc+c.toNat*128 ^ i<128 ^ (i+1):=by rw[Nat.pow_succ];omega
     have h4:128 ^ (i+1)≤128 ^ 9:=Nat.pow_le_pow_right (by omega) (by omega);omega
    ·obtain rfl:i=9:=by omega
     have:c.toNat≤1:=by omega
     omega
   ·rename_i h2;rw[QV1 h2]at h;have h9:i<9:=by
     rcases Nat.lt_or_ge i 9 with h9|h9
     ·exact h9
     ·exact absurd ⟨by omega,by omega⟩ h1
    have hc:=c.toNat_lt;have h3:acc+(c.toNat-128)*128 ^ i<128 ^ (i+1):=by
     have:(c.toNat-128)*128 ^ i≤127*128 ^ i:=QWS _ (by omega);rw[Nat.pow_succ];omega
    obtain⟨a,b,d,e⟩:=ih (i+1) _ (by omega) h3 h;exact⟨by omega,by simp;omega,d,e⟩

theorem Ng (s:List UInt8)(h:(take s).2.2=0):0<(take s).2.1∧(take s).2.1≤s.length∧(take s).2.1≤10∧(take s).1<2 ^ 64:=by
 have:=VV 0 0 s (by omega) (by omega) h
 simpa [take]using this

theorem VW (i acc:Nat)(s t:List UInt8)(h:(KX i acc s).2.2≠4):KX i acc (s++t)=KX i acc s:=by
 induction s generalizing i acc with
 |nil=>simp[KX]at h
 |cons c r ih=>
  simp only[QV9];unfold KX at h ⊢;split
  ·rfl
  ·rename_i h1;rw[QV1 h1]at h;split
   ·rfl
   ·rename_i h2;rw[QV1 h2]at h;exact ih _ _ h

theorem LK (i acc:Nat)(s:List UInt8)(hi:i≤9)(hl:10≤i+s.length):(KX i acc s).2.2≠4:=by
 induction s generalizing i acc with
 |nil=>simp at hl;omega
 |cons c r ih=>
  unfold KX;split
  ·simp
  ·rename_i h1;split
   ·simp
   ·rename_i h2;exact ih _ _ (by omega) (by simp at hl;omega)

theorem take_take (s:List UInt8):take (s.take 10)=take s:=by
 rcases Nat.lt_or_ge s.length 10 with h|h
 ·rw[QWl (by omega)]
 ·have:=VW 0 0 (s.take 10) (s.drop 10) (LK 0 0 _ (by omega) (by simp;omega));rw[QW3]at this;exact this.symm

end Go.Proofs.YtipjfckmopekaaaGreatDoor.Vp

namespace Go.Proofs.YtipjfckmopekaaaGreatDoor.Va
open Go Am Rc Bt Vp

theorem JE (s:List UInt8)(j:Nat)(c:UInt8)(h:s[j]? = some c):(⟨⟨s⟩⟩:ByteArray).get! j=c:=by
 show(⟨s⟩:Array UInt8)[j]! = c;simp[h]

theorem Dk (a:UInt8)(n:Nat)(hn:n<256):(a==UInt8.ofNat n)=decide (a.toNat=n):=by
 rw[QWH,QVT,QVS]
 constructor
 ·rintro rfl;rw[toNat_ofNat _ hn]
 ·intro h;rw[←UInt8.toNat_inj,toNat_ofNat _ hn,h]

set_option maxHeartbeats 4000000 in
theorem QPG (s:List UInt8)(i:Nat)(a b c d:UInt8)(t:List UInt8)(hr:s.drop i=a :: b :: c :: d :: t):(decide ((Xi s i).1=65533) && !KS s i)=decide (sz s i=0)∧(sz s i≠0→(Xi s i).2=sz s i):=by
 have hsz:∀j,(s[i+j]? = (a :: b :: c :: d :: t)[j]?):=fun j=>by rw[←hr,QWr]
 have hn:ByteArray.size ⟨⟨s⟩⟩=s.length:=rfl;have hl:s.length=i+(a :: b :: c :: d :: t).length:=by
  have h:=congrArg List.length hr;simp at h ⊢;omega
 have h0:=hsz 0;have h1:=hsz 1;have h2:=hsz 2;have h3:=hsz 3;simp only[QWi]at h0;have g0:=JE s i a h0;have g1:=JE s (i+1) b h1;have g2:=JE s (i+2) c h2;have g3:=JE s (i+3) d h3;have l1:(i+1<s.length)=True:=by simp at hl ⊢;omega
 have l2:(i+2<s.length)=True:=by simp at hl ⊢;omega
 have l3:(i+3<s.length)=True:=by simp at hl ⊢;omega
 have wa:=a.toNat_lt;have wb:=b.toNat_lt;have wc:=c.toNat_lt;have wd:=d.toNat_lt;have hrep:KS s i=(decide (a.toNat=239)&&(decide (b.toNat=191)&&decide (c.toNat=189))):=by
  rw[←Dk a 239 (by decide),←Dk b 191 (by decide),←Dk c 189 (by decide)];simp[KS,hr]
 simp only[QWT,QWP]at h0 h1 h2 h3;generalize hD:Xi s i=D;generalize hS:sz s i=S;rw[hrep];simp only[Xi,Utf8.decode,Utf8.valid,Utf8.runeError,hn,l1,l2,l3,QWi,g0,g1,g2,g3,sz,h0,DT,tl,bt,QVK,seval,h1,h2,h3,decide_true,QXo,QW0,QWb,QVR,QVS,QVT,ge_iff_le]at hD hS;clear hsz hr hl h0 h1 h2 h3 g0 g1 g2 g3 l1 l2 l3 hrep hn;generalize a.toNat=x at *;generalize b.toNat=y at *;generalize c.toNat=z at *;generalize d.toNat=u at *
 (repeat' split at hD)<;>subst hD<;>(repeat' split at hS)<;>subst hS<;>refine⟨?_,?_⟩<;>(try rw[QWH])<;>(try simp only[QWb,QVS,QWL,Bool.and_eq_false_iff,QXE])<;>first|omega|(intro _;rfl)|(simp;done)|(simp;omega)

theorem Rs (s:List UInt8)(i:Nat)(hi:i<s.length):(decide ((Xi s i).1=65533) && !KS s i)=decide (sz s i=0)∧(sz s i≠0→(Xi s i).2=sz s i):=by
 have hsz:∀j,(s[i+j]? = (s.drop i)[j]?):=fun j=>by rw[QWr]
 have hn:ByteArray.size ⟨⟨s⟩⟩=s.length:=rfl;have hl:s.length=i+(s.drop i).length:=by simp;omega
 generalize hr:s.drop i=r at hsz hl;have h0:=hsz 0;have h1:=hsz 1;have h2:=hsz 2;have h3:=hsz 3;simp only[QWi]at h0
 match r,hl with
 | [],hl=>simp at hl;omega
 | [a],hl=>
  have g0:=JE s i a h0;have l1:(i+1<s.length)=False:=by simp at hl ⊢;omega
  have l2:(i+2<s.length)=False:=by simp at hl ⊢;omega
  have l3:(i+3<s.length)=False:=by simp at hl ⊢;omega
  have wa:=a.toNat_lt;have hrep:KS s i=false:=by simp[KS,hr]
  simp only[QWT,List.getElem?_nil,QWP]at h0 h1 h2 h3;simp only[Xi,Utf8.decode,Utf8.runeError,hn,l1,l2,l3,QWi,g0,sz,h0,DT,tl,bt,QVK,seval,h1,h2,h3,hrep,decide_false,QXh,QXF,QW0,QV6,and_false]
  (repeat' split)<;>refine⟨?_,?_⟩<;>(try rw[QWH])<;>(try simp only[QVS,QWU,QW0])<;>first|omega|(intro _;rfl)|(intro _;omega)|(simp;done)|(simp;omega)
 | [a,b],hl=>
  have g0:=JE s i a h0;have g1:=JE s (i+1) b h1;have l1:(i+1<s.length)=True:=by simp at hl ⊢;omega
  have l2:(i+2<s.length)=False:=by simp at hl ⊢;omega
  have l3:(i+3<s.length)=False:=by simp at hl ⊢;omega
  have wa:=a.toNat_lt;have wb:=b.toNat_lt;have hrep:KS s i=false:=by simp[KS,hr]
  simp only[QWT,List.getElem?_nil,QWP]at h0 h1 h2 h3;simp only[Xi,Utf8.decode,Utf8.runeError,hn,l1,l2,l3,QWi,g0,g1,sz,h0,DT,tl,bt,QVK,seval,h1,h2,h3,hrep,decide_false,decide_true,QXh,QXF,QXo,QW0,QV6,and_false,QWb,QVS,QVT,ge_iff_le]
  (repeat' split)<;>refine⟨?_,?_⟩<;>(try rw[QWH])<;>(try simp only[QVS,QWU,QW0])<;>first|omega|(intro _;rfl)|(intro _;omega)|(simp;done)|(simp;omega)
 | [a,b,c],hl=>
  have g0:=JE s i a h0;have g1:=JE s (i+1) b h1;have g2:=JE s (i+2) c h2;have l1:(i+1<s.length)=True:=by simp at hl ⊢;omega
  have l2:(i+2<s.length)=True:=by simp at hl ⊢;omega
  have l3:(i+3<s.length)=False:=by simp at hl ⊢;omega
  have wa:=a.toNat_lt;have wb:=b.toNat_lt;have wc:=c.toNat_lt;have hrep:KS s i=(decide (a.toNat=239)&&(decide (b.toNat=191)&&decide (c.toNat=189))):=by
   rw[←Dk a 239 (by decide),←Dk b 191 (by decide),←Dk c 189 (by decide)];simp[KS,hr]
  simp only[QWT,List.getElem?_nil,QWP]at h0 h1 h2 h3;simp only[Xi,Utf8.decode,Utf8.valid,Utf8.runeError,hn,l1,l2,l3,QWi,g0,g1,g2,sz,h0,DT,tl,bt,QVK,seval,h1,h2,h3,hrep,decide_false,decide_true,QXh,QXF,QXo,QW0,QV6,and_false,QWb,QVR,QVS,QVT,ge_iff_le]
  (repeat' split)<;>refine⟨?_,?_⟩<;>(try rw[QWH])<;>(try simp only[QWb,QVS,QWL,QXE,Bool.and_eq_false_iff])<;>first|omega|(intro _;rfl)|(intro _;omega)|(simp;done)|(simp;omega)
 |a :: b :: c :: d :: t,hl=>exact QPG s i a b c d t hr

def QPH (s:List UInt8)(k:Nat)(st:St):Prop :=
 ∃f fr i,st=⟨f,[fr],[]⟩∧i≤s.length∧s.length-i≤k∧WQ s s.length 0=WQ s k i∧f 0=.str s∧f 6=.ptr 0 6 0∧fr 6=.iter (.str s) i

theorem QPI (s:List UInt8):Qj Tryz.prog 216 [.str s] (.int .i64 (WQ s s.length 0)):=by
 refine QiV.fn (by simp) ?_;simp only[Qa,seval];refine DI rfl rfl ?_;simp only[Qa,seval];refine Qd (QPH s) s.length ⟨_,_,0,rfl,QVV _,QVL _,rfl,(by rfl),(by rfl),(by rfl)⟩ ?_;rintro k st ⟨f,fr,i,rfl,hi,hk,hb,h0,h6,m6⟩;simp only[Qa,seval];refine DJ (by exact h6) m6 (fun hlt=>?_) (fun hge=>?_)
 ·obtain⟨hd,hw⟩:=Rs s i hlt;obtain⟨k,rfl⟩:∃n,k=n+1:=⟨k-1,by omega⟩;have hbk:WQ s (k+1) i=if sz s i=0 then(i:Int)else WQ s k (i+sz s i):=by
   show(if i<s.length then _ else _)=_;rw[QWg hlt]
  have hwr:=QPF s i hi (Xi s i).1;rw[hd]at hwr;generalize Xi s i=cw at hw hwr;obtain⟨c,w⟩:=cw;simp only[h0,Qa,seval];refine Qb hwr rfl rfl rfl (.inl rfl) ?_;by_cases hz:sz s i=0
  ·simp only[hz,decide_true,hb,hbk,Qa,seval]
  ·have hw:=hw hz;simp only at hw;have hle:=SY s i hlt hz;simp only[hz,decide_false,Qa,seval];exact⟨k,by omega,_,_,i+sz s i,rfl,hle,by omega,by rw[hb,hbk,QV1 hz],(by exact h0),(by exact h6),by rw[←hw]<;>first|rfl|simp only[eE,seval]⟩
 ·have hbk:WQ s k i = -1:=by
   cases k with
   |zero=>rfl
   |succ k=>
    show(if i<s.length then _ else _)=_;rw[QV1 (by omega)]
  simp only[hb,hbk,Qa,seval]

theorem QvB (s:List UInt8):Qj Tryz.prog 168 [.str s] (.bool (Hh s)):=by
 refine Qft.fn (by simp) ?_;simp only[Qa,seval];refine Qb (QPI s) rfl rfl rfl (.inl rfl) ?_;simp only[Qa,seval]
 try rfl

end Go.Proofs.YtipjfckmopekaaaGreatDoor.Va

namespace Go.Proofs.YtipjfckmopekaaaGreatDoor.Va
open Go Am Rc Bt

def Yx (k:Int)(b:Nat):Bool :=
 if k=1 then decide ((b:Int)≤1)else if k=2 then decide (IntKind.i64.wrap (b:Int)≥-2147483648)&&decide (IntKind.i64.wrap (b:Int)≤2147483647)
 else if k=4 then decide ((b:Int)<4294967296)else if k=9 then decide ((b:Int)<2147483648)else true

theorem QPJ (k:Int)(b:Nat):Qj Tryz.prog 294 [.int .i64 k,.int .u64 (b:Nat)] (.bool (Yx k b)):=by
 have e1:decide ((b:Int)≤4294967295)=decide ((b:Int)<4294967296):=by rw[decide_eq_decide];omega
 have e2:decide ((b:Int)≤2147483647)=decide ((b:Int)<2147483648):=by rw[decide_eq_decide];omega
 refine QlN.fn (by simp) ?_;simp only[Qa,seval];unfold Yx;by_cases h1:k=1
 ·subst h1;have b1:((1:Int)==1)=true:=rfl;simp only[b1,Qa,seval]
 ·have b1:(k==1)=false:=by simp[h1]
  by_cases h2:k=2
  ·subst h2;have b2:((2:Int)==2)=true:=rfl;simp only[b1,b2,h1,Qa,seval];cases hd:decide (IntKind.i64.wrap (b:Int)≥-2147483648)<;>simp only[QXo,QXh,Qa,seval]
  ·have b2:(k==2)=false:=by simp[h2]
   by_cases h9:k=9
   ·subst h9;have b9:((9:Int)==9)=true:=rfl;simp only[b1,b2,b9,h1,h2,e2,Qa,seval]
   ·have b9:(k==9)=false:=by simp[h9]
    by_cases h4:k=4
    ·subst h4;have b4:((4:Int)==4)=true:=rfl;simp only[b1,b2,b9,b4,h1,h2,e1,Qa,seval]
    ·have b4:(k==4)=false:=by simp[h4]
     simp only[b1,b2,b9,b4,h1,h2,h4,h9,Qa,seval]

end Go.Proofs.YtipjfckmopekaaaGreatDoor.Va

namespace Go.Proofs.YtipjfckmopekaaaGreatDoor.Ev
open Go Am Rc

def tab:FM:=fun k=>match k with
 |9=>some (r9,o9,100)
 |25=>some (r25,o25,34)
 |10=>some (r10,o10,40)
 |24=>some (r24,o24,8)
 |19=>some (r19,o19,16)
 |15=>some (r15,o15,16)
 |12=>some (WM,o12,20)
 |50=>some (r50,o50,10)
 |51=>some (r51,o51,14)
 |26=>some (r26,o26,15)
 |27=>some (r27,o27,19)
 |28=>some (r28,o28,32)
 |29=>some (r29,o29,57)
 |37=>some (R8,o37,30)
 |52=>some (r52,o52,19)
 |53=>some (r53,o53,8)
 |54=>some (r54,o54,24)
 |55=>some (r55,o55,77)
 |56=>some (r56,o56,23)
 |57=>some (r57,o57,86)
 |58=>some (r58,o58,54)
 |72=>some (r72,o72,12)
 |73=>some (r73,o73,14)
 |83=>some (r83,o83,21)
 |84=>some (r84,o84,11)
 |85=>some (r85,o85,23)
 |86=>some (r86,o86,12)
 |87=>some (r87,o87,11)
 |88=>some (r88,o88,12)
 |89=>some (r89,o89,41)
 |90=>some (r90,o90,74)
 |91=>some (r91,o91,69)
 |92=>some (r92,o92,9)
 |95=>some (r95,o95,40)
 |96=>some (R9,NK,8)
 |97=>some (r97,o97,40)
 |98=>some (r98,o98,67)
 |99=>some (r99,o99,27)
 |100=>some (QbC,QbD,9)
 |102=>some (QbO,QbP,20)
 |103=>some (QbY,QbZ,24)
 |104=>some (Qb5,Qb6,26)
 |105=>some (Qcc,Qcd,19)
 |107=>some (Qch,Qci,13)
 |108=>some (Qcr,Qcs,20)
 |109=>some (Qcw,Qcx,14)
 |116=>some (QcB,QcC,8)
 |117=>some (QcJ,QcK,20)
 |119=>some (QcO,QcP,21)
 |120=>some (Qc2,Qc3,47)
 |122=>some (Qc7,Qc8,15)
 |133=>some (Qdc,Qdd,8)
 |134=>some (Qdh,Qdi,7)
 |135=>some (Qdm,Qdn,8)
 |137=>some (Qdr,Qds,12)
 |138=>some (Qdw,Qdx,11)
 |139=>some (QdB,QdC,8)
 |140=>some (QdG,QdH,7)
 |141=>some (QdL,QdM,10)
 |145=>some (QdW,QdX,24)
 |147=>some (Qd7,Qd8,24)
 |149=>some (Qec,Qed,7)
 |150=>some (Qen,Qeo,24)
 |151=>some (Qes,Qet,10)
 |155=>some (Qex,Qey,13)
 |157=>some (QeJ,QeK,20)
 |158=>some (QeO,QeP,5)
 |162=>some (QeT,QeU,6)
 |163=>some (QeY,QeZ,11)
 |165=>some (Qe3,Qe4,13)
 |166=>some (Qfh,Qfi,47)
 |167=>some (Qfm,Qfn,35)
 |168=>some (Qfr,Qfs,6)
 |169=>some (Qfy,Qfz,22)
 |170=>some (QfI,QfJ,46)
 |174=>some (QfN,QfO,20)
 |175=>some (QfS,QfT,9)
 |176=>some (QfX,QfY,9)
 |177=>some (Qga,Qgb,59)
 |178=>some (Qgl,Qgm,19)
 |180=>some (P3,VL,8)
 |181=>some (VM,Dd,8)
 |182=>some (Qgp,Qgq,9)
 |183=>some (Qgt,Qgu,10)
 |184=>some (QgA,QgB,17)
 |186=>some (QgE,QgF,20)
 |187=>some (QgU,QgV,63)
 |188=>some (QgY,QgZ,6)
 |189=>some (Qg4,Qg5,20)
 |195=>some (Qhg,Qhh,19)
 |196=>some (Qhl,Qhm,8)
 |197=>some (Qhs,Qht,18)
 |198=>some (QhE,QhF,27)
 |203=>some (QhJ,QhK,9)
 |204=>some (QhO,QhP,9)
 |205=>some (Qh0,Qh1,19)
 |206=>some (Qh5,Qh6,9)
 |207=>some (Qia,Qib,8)
 |208=>some (Qin,Qio,27)
 |209=>some (Qir,Qis,9)
 |210=>some (QiD,QiE,36)
 |212=>some (QiI,QiJ,12)
 |216=>some (QiT,QiU,16)
 |217=>some (QiY,QiZ,9)
 |219=>some (Qja,Qjb,19)
 |220=>some (Qjh,Qji,31)
 |223=>some (Qjw,Qjx,63)
 |229=>some (QjE,QjF,28)
 |230=>some (QjQ,QjR,53)
 |241=>some (Qj1,Qj2,19)
 |242=>some (Qkd,Qke,19)
 |243=>some (Qkr,Qks,66)
 |244=>some (QkE,QkF,27)
 |251=>some (QkR,QkS,49)
 |254=>some (Qk2,Qk3,53)
 |267=>some (Qk6,Qk7,9)
 |274=>some (Qlk,Qll,34)
 |275=>some (Qlp,Qlq,8)
 |279=>some (Qlw,Qlx,39)
 |292=>some (VN,P9,143)
 |294=>some (QlL,QlM,28)
 |300=>some (QlQ,QlR,8)
 |_=>none

theorem QvD:Gb Tryz.prog tab:=by
 intro k c rs N h;unfold tab at h;split at h
 ·cases h;exact k9
 ·cases h;exact k25
 ·cases h;exact k10
 ·cases h;exact k24
 ·cases h;exact k19
 ·cases h;exact k15
 ·cases h;exact k12
 ·cases h;exact k50
 ·cases h;exact k51
 ·cases h;exact k26
 ·cases h;exact k27
 ·cases h;exact k28
 ·cases h;exact k29
 ·cases h;exact k37
 ·cases h;exact k52
 ·cases h;exact k53
 ·cases h;exact k54
 ·cases h;exact k55
 ·cases h;exact k56
 ·cases h;exact k57
 ·cases h;exact k58
 ·cases h;exact k72
 ·cases h;exact k73
 ·cases h;exact k83
 ·cases h;exact k84
 ·cases h;exact k85
 ·cases h;exact k86
 ·cases h;exact k87
 ·cases h;exact k88
 ·cases h;exact k89
 ·cases h;exact k90
 ·cases h;exact k91
 ·cases h;exact k92
 ·cases h;exact k95
 ·cases h;exact k96
 ·cases h;exact k97
 ·cases h;exact Sa
 ·cases h;exact k99
 ·cases h;exact QKJ
 ·cases h;exact QbQ
 ·cases h;exact Qb0
 ·cases h;exact Qb7
 ·cases h;exact Qce
 ·cases h;exact Qcj
 ·cases h;exact Qct
 ·cases h;exact Qcy
 ·cases h;exact QcD
 ·cases h;exact QcL
 ·cases h;exact QcQ
 ·cases h;exact Qc4
 ·cases h;exact Qc9
 ·cases h;exact Qde
 ·cases h;exact Qdj
 ·cases h;exact Qdo
 ·cases h;exact Qdt
 ·cases h;exact Qdy
 ·cases h;exact QdD
 ·cases h;exact QdI
 ·cases h;exact QdN
 ·cases h;exact QdY
 ·cases h;exact Qd9
 ·cases h;exact Qee
 ·cases h;exact Qep
 ·cases h;exact Qeu
 ·cases h;exact Qez
 ·cases h;exact QeL
 ·cases h;exact QeQ
 ·cases h;exact QeV
 ·cases h;exact Qe0
 ·cases h;exact Qe5
 ·cases h;exact Qfj
 ·cases h;exact Qfo
 ·cases h;exact Qft
 ·cases h;exact QfA
 ·cases h;exact QfK
 ·cases h;exact QfP
 ·cases h;exact QfU
 ·cases h;exact QKK
 ·cases h;exact QKL
 ·cases h;exact QKM
 ·cases h;exact Qgn
 ·cases h;exact P4
 ·cases h;exact QKN
 ·cases h;exact Qgv
 ·cases h;exact P5
 ·cases h;exact QgG
 ·cases h;exact QKO
 ·cases h;exact Qg0
 ·cases h;exact Qg6
 ·cases h;exact P6
 ·cases h;exact Qhn
 ·cases h;exact P7
 ·cases h;exact QhG
 ·cases h;exact QhL
 ·cases h;exact QhQ
 ·cases h;exact Qh2
 ·cases h;exact Qh7
 ·cases h;exact Qic
 ·cases h;exact P8
 ·cases h;exact Qit
 ·cases h;exact QiF
 ·cases h;exact QiK
 ·cases h;exact QiV
 ·cases h;exact Qi0
 ·cases h;exact Qjc
 ·cases h;exact QKP
 ·cases h;exact QKQ
 ·cases h;exact QjG
 ·cases h;exact QKR
 ·cases h;exact Qj3
 ·cases h;exact Qkf
 ·cases h;exact Qkt
 ·cases h;exact QkG
 ·cases h;exact QKS
 ·cases h;exact QKT
 ·cases h;exact Qk8
 ·cases h;exact Qlm
 ·cases h;exact Qlr
 ·cases h;exact Qly
 ·cases h;exact QlA
 ·cases h;exact QlN
 ·cases h;exact QlS
 ·cases h

def nat:KV:=fun _ _ _=>none

theorem nat_ok:K7 Tryz.prog nat:=by
 intro k args m v m' h;cases h

end Go.Proofs.YtipjfckmopekaaaGreatDoor.Ev

namespace Go.Proofs.YtipjfckmopekaaaGreatDoor.Va
open Go Am Rc Bt

def vo (k:Int)(b:Nat)(t:List UInt8)(l p s r:List AV):AV:=.agg [.int .i64 k,.int .u64 (b:Nat),.str t,.list l,.list p,.list s,.list r]

section
variable (k:Int)(b:Nat)(t:List UInt8)(l p s r:List AV)

def WR:Bool:=(l.length:Int)==0&&(p.length:Int)==0&&(s.length:Int)==0&&(r.length:Int)==0
def Bn:Bool:=isk k&&WR l p s r&&(b:Int)==0&&t==[]
def emp:Bool:=(k==11&&(l.length:Int)==0)||(k==12&&(p.length:Int)==0)||Bn k b t l p s r

theorem Rt:Qj Tryz.prog 194 [vo k b t l p s r] (.bool (WR l p s r)):=by
 refine QMW.fn (by simp) ?_;simp only[vo,WR,eE,seval];cases h0:((l.length:Int)==0)<;>cases h1:((p.length:Int)==0)<;>cases h2:((s.length:Int)==0)<;>simp only[h1,h2,QXo,QXh,eE,seval]

theorem QvE (hl:l.length≤140737488351232)(hp:p.length≤140737488351232)(hs:s.length≤140737488351232)(hr:r.length≤140737488351232) :
  Qj Tryz.prog 229 [vo k b t l p s r] (.bool (WR l p s r&&(if X9 k=true then(b:Int)==0 else t==[]))):=by
 refine QjG.fn (by simp) ?_;have w:IntKind.i64.wrap (IntKind.i64.wrap (IntKind.i64.wrap ((l.length:Int)+(p.length:Int))+(s.length:Int))+(r.length:Int))=(l.length+p.length+s.length+r.length:Nat):=by
  simp only[QG];omega
 simp only[vo,w,eE,seval];by_cases h:l.length+p.length+s.length+r.length=0
 ·have d:decide (((l.length+p.length+s.length+r.length:Nat):Int) > 0)=false:=QXy (by omega);have e:WR l p s r=true:=by
   unfold WR;simp only[QWb,QVT];omega
  simp only[d,e,QXo,eE,seval];refine Qb (Qvp k) rfl rfl rfl (.inl rfl) ?_;cases X9 k
  ·simp only[QV6,QL,eE,seval]
  ·simp only[eE,seval]
 ·have d:decide (((l.length+p.length+s.length+r.length:Nat):Int) > 0)=true:=QXD (by omega);have e:WR l p s r=false:=by
   unfold WR;rw[QXA];simp only[ne_eq,QWb,QVT];omega
  simp only[d,e,QXh,Qa,seval]

end

end Go.Proofs.YtipjfckmopekaaaGreatDoor.Va

/- Parts of the proof, in order. -/
import Derived.WalkKit
import Derived.Lib.SmallJoins
import Derived.Deep.Slices
import Derived.DataShut
import Derived.Test.YtdhlbgejhcejcaaGreatDoorRows
import Derived.Test.YtdhlbgejhcejcaaGreatDoorProg
import Derived.Lib.IndexLaws
import Derived.Test.YtdhlbgejhcejcaaGreatDoorMTagencFields1

namespace Go.Proofs.YtdhlbgejhcejcaaGreatDoor.Rc
open Go Am
abbrev QBs:IL:=[je 2 2 0,je 3 3 1,jh 4]
abbrev QBt:IL:=[jb 9 0 2,jc 10 9,jb 11 0 3,jc 12 11,zq 13 10 12,ja 14 13,jn 15 1 2 14,jt 16 15 14,jn 17 1 3 14,jt 18 17 14,zu 19 16 18 14,jo 20 14 19,ja 21 20,jn 22 2 2 21,jt 23 22 21,jn 24 2 3 21,jt 25 24 21,⟨some 26,.val (.bin .str .neq (.t 23) (.t 25)),(some (21,false))⟩,jo 27 21 26,ja 28 27,jn 29 3 2 28,jt 30 29 28,ye 31 1 30 28,jn 32 3 3 28,jt 33 32 28,ye 34 1 33 28,zu 35 31 34 28,jo 36 28 35,ja 37 36,jn 38 4 2 37,jt 39 38 37,ye 40 1 39 37,jn 41 4 3 37,jt 42 41 37,ye 43 1 42 37,zu 44 40 43 37,jo 45 37 44,ja 46 45,jn 47 5 2 46,jt 48 47 46,ye 49 1 48 46,jn 50 5 3 46,jt 51 50 46,ye 52 1 51 46,zu 53 49 52 46,jo 54 46 53,ja 55 54,jn 56 6 2 55,jt 57 56 55,ye 58 1 57 55,jn 59 6 3 55,jt 60 59 55,ye 61 1 60 55,zu 62 58 61 55,jo 63 55 62]
abbrev QBu:IL:=[jh 4]
abbrev QBv:IL:=[jd 5 0]
abbrev QBw:IL:=[ja 64 5,jb 65 3 2,jc 66 65,ji 67 1 66,jp 68 64 67]
abbrev QBx:IL:=[jb 71 3 2,yb 72 0 2 71,ja 73 5,jl 74 7 72 73,yd 75 7 74,jb 76 3 3,yb 77 0 3 76,ja 78 5,jl 79 7 77 78,yd 80 7 79,jy 81 12 75 80,jz 82 81]
abbrev QBy:IL:=[jh 4]
abbrev QBz:IL:=[ja 69 5,jm 70 69 1,ja 5 70]
abbrev SN:RC:=.seq (jQ QBw (jX 68 0)) (.seq (.block 1 (jD QBx (.cond (.t 82) (jQ QBy (.ret)) (.skip)))) (.reg QBz))
abbrev QBA:IL:=[jd 6 0]
abbrev QBB:IL:=[ja 83 6,jb 84 4 2,jc 85 84,ji 86 1 85,jp 87 83 86]
abbrev Qmz:IL:=[jb 90 4 2,yb 91 0 2 90,ja 92 6,jl 93 14 91 92,jb 94 0 93,yd 95 7 94,jb 96 4 3,yb 97 0 3 96,ja 98 6,jl 99 14 97 98,jb 100 0 99,yd 101 7 100,jy 102 12 95 101,jz 103 102,ja 104 103,jn 105 4 2 104,zk 106 0 2 105 104,jv 107 6 104,yz 108 14 106 107 104,jn 109 7 108 104,MO 110 7 109 104,jn 111 4 3 104,zk 112 0 3 111 104,jv 113 6 104,yz 114 14 112 113 104,jn 115 7 114 104,MO 116 7 115 104,D2 117 12 110 116 104,zb 118 117 104,jo 119 104 118]
abbrev QmA:IL:=[jh 4]
abbrev QmB:IL:=[ja 88 6,jm 89 88 1,ja 6 89]
abbrev SO:RC:=.seq (jQ QBB (jX 87 2)) (.seq (.block 3 (jD Qmz (.cond (.t 119) (jQ QmA (.ret)) (.skip)))) (.reg QmB))
abbrev QmC:IL:=[jd 7 0]
abbrev QmD:IL:=[ja 120 7,jb 121 5 2,jc 122 121,ji 123 1 122,jp 124 120 123]
abbrev QmE:IL:=[jb 127 5 2,yb 128 0 2 127,ja 129 7,jl 130 8 128 129,jb 131 0 130,zo 132 131,jb 133 5 3,yb 134 0 3 133,ja 135 7,jl 136 8 134 135,jb 137 0 136,zo 138 137,zq 139 132 138,ja 140 139,jn 141 5 2 140,zk 142 0 2 141 140,jv 143 7 140,yz 144 8 142 143 140,jn 145 1 144 140,MO 146 7 145 140,jn 147 5 3 140,zk 148 0 3 147 140,jv 149 7 140,yz 150 8 148 149 140,jn 151 1 150 140,MO 152 7 151 140,D2 153 12 146 152 140,zb 154 153 140,jo 155 140 154]
abbrev QmF:IL:=[jh 4]
abbrev QmG:IL:=[ja 125 7,jm 126 125 1,ja 7 126]
abbrev SP:RC:=.seq (jQ QmD (jX 124 4)) (.seq (.block 5 (jD QmE (.cond (.t 155) (jQ QmF (.ret)) (.skip)))) (.reg QmG))
abbrev QmH:IL:=[jd 8 0]
abbrev QmI:IL:=[ja 156 8,jb 157 6 2,jc 158 157,ji 159 1 158,jp 160 156 159]
abbrev QmJ:IL:=[jb 163 6 2,yb 164 0 2 163,ja 165 8,jl 166 4 164 165,yd 167 4 166,jb 168 6 3,yb 169 0 3 168,ja 170 8,jl 171 4 169 170,yd 172 4 171,⟨some 173,.val (.eqs true [.num,.num,.num,.str] (.t 167) (.t 172)),none⟩]
abbrev QmK:IL:=[jh 4]
abbrev QmL:IL:=[ja 161 8,jm 162 161 1,ja 8 162]
abbrev SQ:RC:=.seq (jQ QmI (jX 160 6)) (.seq (.block 7 (jD QmJ (.cond (.t 173) (jQ QmK (.ret)) (.skip)))) (.reg QmL))
abbrev QmM:IL:=[yj 4]
abbrev Yb:RC:=jQ QBs (.seq (jQ QBt (.cond (.t 63) (jQ QBu (.ret)) (.skip))) (.seq (jQ QBv (.block 0 (.loop SN))) (.seq (jQ QBA (.block 2 (.loop SO))) (.seq (jQ QmC (.block 4 (.loop SP))) (.seq (jQ QmH (.block 6 (.loop SQ))) (jQ QmM (.ret)))))))
abbrev o12:List RR:=[.tmp 4]
theorem D5:CT 12 174 Yb o12:=ck Tryz.func12 Tryz.ntmps12 (by decide +kernel)
abbrev QBC:IL:=[je 3 3 1,yf 4,jd 5 0]
abbrev QBD:IL:=[ja 13 0,jf 14 4 3,jy 15 32 13 14,ja 12 15,jx 16 12 0,jx 17 12 1,zm 6 6,jq 6 6 16,ja 7 17]
abbrev QBE:IL:=[ja 18 7,yc 19 18 0]
abbrev QBF:IL:=[ja 20 7,yf 4,ja 5 20]
abbrev QBG:IL:=[yf 8]
abbrev QBH:IL:=[jf 21 6 6,jr 22 33 21,yn 23 22 0]
abbrev QBI:IL:=[jf 25 6 6,jr 26 34 25,ja 24 26,jx 27 24 0,jx 28 24 1,jx 29 24 2,zs 9 9,zm 10 10,jq 4 9 27,jq 6 10 28,ja 11 29]
abbrev QBJ:IL:=[ja 30 11,yc 31 30 0]
abbrev QBK:IL:=[ja 32 11,yf 4,ja 5 32]
abbrev QBL:IL:=[ja 33 8,jf 34 4 9,NZ 35 4 1 0 4 34,yp 36 4 40 53 33 35,ja 8 36]
abbrev QmN:IL:=[jf 37 6 10,jq 6 6 37]
abbrev QBM:RC:=.gho (.drop 10) (.gho (.drop 9) (.seq (jQ QBH (jX 23 0)) (.block 1 (jQ QBI (.seq (jQ QBJ (.cond (.t 31) (jQ QBK (.ret)) (.skip))) (jQ QBL (.reg QmN)))))))
abbrev QmO:IL:=[ja 38 8,ja 4 38,jd 5 0]
abbrev r14:RC:=jQ QBC (jQ QBD (.seq (jQ QBE (.cond (.t 19) (jQ QBF (.ret)) (.skip))) (jQ QBG (.gho (.vec 8 8 4) (.seq (.block 0 (.loop QBM)) (jQ QmO (.ret)))))))
abbrev o14:List RR:=[.tmp 4,.tmp 5]
theorem k14:CT 14 39 r14 o14:=ck Tryz.func14 Tryz.ntmps14 (by decide +kernel)
abbrev QBN:IL:=[jh 4]
abbrev QBO:IL:=[ja 6 0,ji 7 1 6,ja 8 1,ji 9 1 8,zq 10 7 9]
abbrev QBP:IL:=[jh 4]
abbrev QBQ:IL:=[jd 5 0]
abbrev QBR:IL:=[ja 11 5,ja 12 0,ji 13 1 12,jp 14 11 13]
abbrev QBS:IL:=[ja 17 0,ja 18 5,jl 19 4 17 18,yd 20 4 19,ja 21 1,ja 22 5,jl 23 4 21 22,yd 24 4 23,⟨some 25,.val (.eqs true [.num,.num,.num,.str] (.t 20) (.t 24)),none⟩]
abbrev QBT:IL:=[jh 4]
abbrev QBU:IL:=[ja 15 5,jm 16 15 1,ja 5 16]
abbrev QBV:RC:=.seq (jQ QBR (jX 14 0)) (.seq (.block 1 (jD QBS (.cond (.t 25) (jQ QBT (.ret)) (.skip)))) (.reg QBU))
abbrev QBW:IL:=[yj 4]
abbrev r15:RC:=jQ QBN (.seq (jQ QBO (.cond (.t 10) (jQ QBP (.ret)) (.skip))) (.seq (jQ QBQ (.block 0 (.loop QBV))) (jQ QBW (.ret))))
abbrev o15:List RR:=[.tmp 4]
theorem k15:CT 15 26 r15 o15:=ck Tryz.func15 Tryz.ntmps15 (by decide +kernel)
abbrev QBX:IL:=[je 1 1 0,jd 2 0]
abbrev QBY:IL:=[jf 4 2 1,jr 5 36 4,jz 6 5,ja 3 6]
abbrev QBZ:IL:=[jd 2 3]
abbrev QB0:IL:=[jf 8 2 1,jr 9 37 8,jz 10 9,ja 7 10]
abbrev QB1:IL:=[jd 2 8]
abbrev QB2:IL:=[jf 12 2 1,jr 13 38 12,jz 14 13,ja 11 14]
abbrev QB3:IL:=[jd 2 11]
abbrev QB4:IL:=[jf 16 2 1,jr 17 39 16,jz 18 17,ja 15 18]
abbrev QB5:IL:=[jd 2 9]
abbrev QB6:IL:=[jf 20 2 1,jr 21 40 20,jz 22 21,ja 19 22]
abbrev QmP:IL:=[jd 2 6]
abbrev QmQ:IL:=[jf 24 2 1,jr 25 41 24,jz 26 25,ja 23 26]
abbrev QmR:IL:=[jd 2 1]
abbrev QmS:IL:=[jf 28 2 1,jr 29 42 28,jz 30 29,ja 27 30]
abbrev QmT:IL:=[jd 2 19]
abbrev QmU:IL:=[jd 2 0]
abbrev r18:RC:=jQ QBX (.seq (.block 0 (jQ QBY (.cond (.t 3) (jQ QBZ (.ret)) (jQ QB0 (.cond (.t 7) (jQ QB1 (.ret)) (jQ QB2 (.cond (.t 11) (jQ QB3 (.ret)) (jQ QB4 (.cond (.t 15) (jQ QB5 (.ret)) (jQ QB6 (.cond (.t 19) (jQ QmP (.ret)) (jQ QmQ (.cond (.t 23) (jQ QmR (.ret)) (jQ QmS (.cond (.t 27) (jQ QmT (.ret)) (.skip)))))))))))))))) (jQ QmU (.ret)))
abbrev o18:List RR:=[.tmp 2]
theorem k18:CT 18 31 r18 o18:=ck Tryz.func18 Tryz.ntmps18 (by decide +kernel)
abbrev QB7:IL:=[je 4 4 0,je 6 6 2,jd 8 0]
abbrev QB8:IL:=[jb 18 0 6,jc 19 18,yc 20 19 10,ja 21 20,yu 22 7 6 21,zd 23 43 22 21,jo 24 21 23]
abbrev QB9:IL:=[jd 8 12]
abbrev QCa:IL:=[ja 25 3,yn 26 25 16]
abbrev QCb:IL:=[jd 8 17]
abbrev QCc:IL:=[jb 27 0 4,jc 28 27,ja 29 1,jl 30 3 28 29,jf 31 3 30,⟨some 9,.allocN 9 [.str [],.nils,.int .i64 0],none⟩,jq 3 9 31]
abbrev QCd:IL:=[jd 10 0]
abbrev QCe:IL:=[ja 32 10,jb 33 5 6,jc 34 33,ji 35 1 34,jp 36 32 35]
abbrev QCf:IL:=[jf 39 3 9,jb 40 5 6,jc 41 40,ja 42 10,yh 43 44 39 41 42,ja 11 43]
abbrev QmV:IL:=[ja 44 11,yc 45 44 0]
abbrev QmW:IL:=[ja 46 11,ja 8 46]
abbrev QmX:IL:=[jw 48 0 9 3 9,jb 49 5 6,yb 50 0 6 49,ja 51 10,jl 52 8 50 51,jb 53 0 52,zo 54 53,jy 55 45 48 54,ja 47 55,jx 56 47 0,jx 57 47 1,zh 12 12,yg 0 12 8 12 56,ja 13 57]
abbrev QmY:IL:=[jw 58 0 4 2 4,jw 59 0 12 8 12,jb 60 5 6,yb 61 0 6 60,ja 62 10,jl 63 8 61 62,jb 64 1 63,yd 65 7 64,ja 66 3,zl 67 46 58 59 65 66,ja 14 67]
abbrev QmZ:IL:=[ja 68 14,yc 69 68 0]
abbrev Qm0:IL:=[ja 70 14,ja 8 70]
abbrev QCg:IL:=[ja 37 10,jm 38 37 1,ja 10 38]
abbrev SR:RC:=.gho (.drop 12) (.seq (jQ QCe (jX 36 0)) (.seq (.block 1 (.seq (jQ QCf (jQ QmV (.cond (.t 45) (jQ QmW (.ret)) (.skip)))) (jD QmX (jD QmY (jQ QmZ (.cond (.t 69) (jQ Qm0 (.ret)) (.skip))))))) (.reg QCg)))
abbrev Qm1:IL:=[jd 15 0]
abbrev Qm2:IL:=[ja 71 15,jb 72 1 9,jc 73 72,ji 74 1 73,jp 75 71 74]
abbrev Qm3:IL:=[jb 78 1 9,yb 79 0 9 78,ja 80 15,jl 81 8 79 80,jb 82 3 81,zo 83 82,js 84 83 1,ja 85 84,DZ 86 0 6 7 6 85,jk 87 1 9 85,yy 88 0 9 87 85,jg 89 15 85,ya 90 8 88 89 85,jk 91 0 90 85,ym 92 91 85,Hb 93 47 86 92 85,za 94 93 85,jj 95 85 94]
abbrev Qm4:IL:=[jd 8 14]
abbrev Qm5:IL:=[ja 76 15,jm 77 76 1,ja 15 77]
abbrev SS:RC:=.seq (jQ Qm2 (jX 75 2)) (.seq (.block 3 (jD Qm3 (.cond (.t 95) (jQ Qm4 (.ret)) (.skip)))) (.reg Qm5))
abbrev Qm6:IL:=[jd 16 0]
abbrev Qm7:IL:=[ja 96 16,jb 97 6 6,jc 98 97,ji 99 1 98,jp 100 96 99]
abbrev Qm8:IL:=[jb 103 6 6,jc 104 103,ja 105 16,jl 106 4 104 105,jf 107 4 106,zs 17 17,jq 4 17 107]
abbrev Qm9:IL:=[jf 108 2 4,jf 109 3 9,jf 110 4 17,yh 111 48 108 109 110,jz 112 111]
abbrev Qna:IL:=[jd 8 1]
abbrev Qnb:IL:=[jb 113 1 17,jc 114 113,js 115 114 3,ja 116 115,jk 117 3 17 116,ju 118 117 116,ys 119 0 118 116,N1 120 119 4096 116,jj 121 116 120,ja 122 121,jn 123 3 17 122,jt 124 123 122,ye 125 0 124 122,yr 126 125 65536 122,jo 127 122 126]
abbrev Qnc:IL:=[jd 8 3]
abbrev Qnd:IL:=[ja 101 16,jm 102 101 1,ja 16 102]
abbrev SU:RC:=.gho (.drop 17) (.seq (jQ Qm7 (jX 100 4)) (.seq (.block 5 (jQ Qm8 (.seq (jQ Qm9 (.cond (.t 112) (jQ Qna (.ret)) (.skip))) (jQ Qnb (.cond (.t 127) (jQ Qnc (.ret)) (.skip)))))) (.reg Qnd)))
abbrev Qne:IL:=[jd 8 0]
abbrev r20:RC:=jQ QB7 (.seq (jQ QB8 (.cond (.t 24) (jQ QB9 (.ret)) (.skip))) (.seq (jQ QCa (.cond (.t 26) (jQ QCb (.ret)) (.skip))) (jQ QCc (.seq (jQ QCd (.block 0 (.loop SR))) (.seq (jQ Qm1 (.block 2 (.loop SS))) (.seq (jQ Qm6 (.block 4 (.loop SU))) (jQ Qne (.ret))))))))
abbrev o20:List RR:=[.tmp 8]
theorem k20:CT 20 128 r20 o20:=ck Tryz.func20 Tryz.ntmps20 (by decide +kernel)
abbrev QCh:IL:=[je 1 1 0,jd 2 0]
abbrev QCi:IL:=[jb 7 6 1,jc 8 7,ji 9 1 8,⟨some 10,.val (.bin .num .add (.c (.int .i64 1)) (.t 9)),none⟩,ja 3 10]
abbrev QCj:IL:=[jd 4 0]
abbrev QCk:IL:=[ja 11 4,jb 12 3 1,jc 13 12,ji 14 1 13,jp 15 11 14]
abbrev QCl:IL:=[ja 18 3,jb 19 3 1,jc 20 19,ja 21 4,jl 22 7 20 21,jf 23 7 22,jr 24 21 23,yi 25 18 24,ja 3 25]
abbrev QCm:IL:=[ja 16 4,jm 17 16 1,ja 4 17]
abbrev QCn:RC:=.seq (jQ QCk (jX 15 0)) (.seq (.block 1 (.reg QCl)) (.reg QCm))
abbrev QCo:IL:=[jd 5 0]
abbrev QCp:IL:=[ja 26 5,jb 27 4 1,jc 28 27,ji 29 1 28,jp 30 26 29]
abbrev QCq:IL:=[ja 33 3,jb 34 4 1,yb 35 0 1 34,ja 36 5,jl 37 14 35 36,jb 38 0 37,yd 39 7 38,jr 40 21 39,jb 41 4 1,yb 42 0 1 41,ja 43 5,jl 44 14 42 43,jb 45 7 44,yd 46 7 45,jr 47 21 46,yi 48 40 47,yi 49 33 48,ja 3 49]
abbrev QCr:IL:=[ja 31 5,jm 32 31 1,ja 5 32]
abbrev QCs:RC:=.seq (jQ QCp (jX 30 2)) (.seq (.block 3 (.draw QCq)) (.reg QCr))
abbrev Qnf:IL:=[jd 6 0]
abbrev Qng:IL:=[ja 50 6,jb 51 5 1,jc 52 51,ji 53 1 52,jp 54 50 53]
abbrev Qnh:IL:=[ja 57 3,jb 58 5 1,jc 59 58,ja 60 6,jl 61 8 59 60,jb 62 1 61,jf 63 7 62,jr 64 21 63,yi 65 57 64,ja 3 65]
abbrev Qni:IL:=[ja 55 6,jm 56 55 1,ja 6 56]
abbrev QCt:RC:=.seq (jQ Qng (jX 54 4)) (.seq (.block 5 (.reg Qnh)) (.reg Qni))
abbrev Qnj:IL:=[ja 66 3,ja 2 66]
abbrev r21:RC:=jQ QCh (jQ QCi (.seq (jQ QCj (.block 0 (.loop QCn))) (.seq (jQ QCo (.block 2 (.loop QCs))) (.seq (jQ Qnf (.block 4 (.loop QCt))) (jQ Qnj (.ret))))))
abbrev o21:List RR:=[.tmp 2]
theorem k21:CT 21 67 r21 o21:=ck Tryz.func21 Tryz.ntmps21 (by decide +kernel)
abbrev QCu:IL:=[yf 2]
abbrev QCv:IL:=[yf 3]
abbrev QCw:IL:=[jd 4 0]
abbrev QCx:IL:=[ja 7 4,ja 8 0,ji 9 1 8,jp 10 7 9]
abbrev QCy:IL:=[ja 13 3,ji 14 1 13,ja 5 14]
abbrev QCz:IL:=[ja 15 5,yn 16 15 0,ja 17 16,jg 18 3 17,jg 19 5 17,D3 20 19 1 17,ya 21 4 18 20 17,jk 22 0 21 17,ym 23 22 17,jg 24 0 17,jg 25 4 17,ya 26 4 24 25 17,jk 27 0 26 17,ym 28 27 17,⟨some 29,.val (.bin .num .gtr (.t 23) (.t 28)),(some (17,true))⟩,jj 30 17 29]
abbrev QCA:IL:=[ja 31 5,zi 32 31 1,ja 5 32]
abbrev SX:RC:=.seq (jD QCz (jX 30 2)) (.block 3 (.reg QCA))
abbrev QCB:IL:=[ja 33 0,ja 34 4,jl 35 4 33 34,yd 36 4 35,⟨some 37,.bslv 37 4 1 [.int .i64 0,.int .i64 0,.int .u64 0,.str []] [(0,4,(.t 36))],none⟩,ja 38 3,ja 39 5,⟨some 40,.val (.slcp (some 4) (.t 38) (some (.t 39)) none none),none⟩,yp 41 4 40 53 37 40,ja 6 41]
abbrev QCC:IL:=[⟨some 42,.bsl0 42 4,none⟩,ja 43 3,ja 44 5,Bd 45 4 43 44,yp 46 4 40 53 42 45,ja 47 6,yp 48 4 40 53 46 47,ja 3 48]
abbrev QCD:IL:=[ja 11 4,jm 12 11 1,ja 4 12]
abbrev QCE:RC:=.seq (jQ QCx (jX 10 0)) (.seq (.block 1 (jQ QCy (.seq (.block 2 (.loop SX)) (jD QCB (.reg QCC))))) (.gho (.pub 3 42) (.reg QCD)))
abbrev Qnk:IL:=[ja 49 3,ja 2 49]
abbrev r25:RC:=jQ QCu (jQ QCv (.gho (.lst 3) (.seq (jQ QCw (.block 0 (.loop QCE))) (jQ Qnk (.ret)))))
abbrev o25:List RR:=[.tmp 2]
theorem k25:CT 25 50 r25 o25:=ck Tryz.func25 Tryz.ntmps25 (by decide +kernel)
abbrev QCF:IL:=[je 3 3 0,je 4 4 1,je 5 5 2,yk 6 6]
abbrev QCG:IL:=[jb 12 3 4,jc 13 12]
abbrev QCH:IL:=[js 15 13 4,ja 14 15]
abbrev QCI:IL:=[⟨some 16,.val (.build [.int .i64 0,.int .u64 0,.str [],.nils,.nils,.nils,.nils] [(0,1,(.c (.int .i64 11)))]),none⟩,yk 7 7,jq 7 7 16]
abbrev QCJ:IL:=[jd 8 0]
abbrev QCK:IL:=[ja 17 8,jb 18 3 5,jc 19 18,ji 20 1 19,jp 21 17 20]
abbrev QCL:IL:=[jb 24 3 7,yb 25 0 7 24,jw 26 0 3 2 3,jw 27 0 4 8 4,jb 28 3 5,yb 29 0 5 28,ja 30 8,jl 31 7 29 30,yd 32 7 31,yh 33 51 26 27 32,⟨some 34,.bsl 7 1 [.int .i64 0,.int .u64 0,.str [],.nils,.nils,.nils,.nils] [(0,7,(.t 33))],none⟩,yp 35 7 128 32 25 34,jb 36 3 7,yg 0 7 1 36 35]
abbrev QCM:IL:=[ja 22 8,jm 23 22 1,ja 8 23]
abbrev QCN:RC:=.seq (jQ QCK (jX 21 1)) (.seq (.block 2 (.draw QCL)) (.reg QCM))
abbrev QCO:IL:=[jf 37 7 7,jq 7 6 37]
abbrev QCP:IL:=[js 39 13 5,ja 38 39]
abbrev Qnl:IL:=[⟨some 40,.val (.build [.int .i64 0,.int .u64 0,.str [],.nils,.nils,.nils,.nils] [(0,1,(.c (.int .i64 12)))]),none⟩,yk 9 9,jq 7 9 40]
abbrev Qnm:IL:=[jb 41 4 5,jc 42 41,jr 43 52 42,ja 10 43]
abbrev Qnn:IL:=[jd 11 0]
abbrev Qno:IL:=[ja 44 11,ja 45 10,ji 46 1 45,jp 47 44 46]
abbrev Qnp:IL:=[jb 50 4 9,yb 51 0 9 50,ja 52 10,ja 53 11,jl 54 14 52 53,jb 55 0 54,yd 56 7 55,jr 57 53 56,jw 58 0 3 2 3,jw 59 0 4 8 4,ja 60 10,ja 61 11,jl 62 14 60 61,jb 63 7 62,yd 64 7 63,yh 65 51 58 59 64,⟨some 66,.val (.build [.int .i64 0,.int .u64 0,.str [],.nils,.nils,.nils,.nils,.int .i64 0,.int .u64 0,.str [],.nils,.nils,.nils,.nils] [(0,7,(.t 57)),(7,7,(.t 65))]),none⟩,⟨some 67,.bsl 14 1 [.int .i64 0,.int .u64 0,.str [],.nils,.nils,.nils,.nils,.int .i64 0,.int .u64 0,.str [],.nils,.nils,.nils,.nils] [(0,14,(.t 66))],none⟩,yp 68 14 256 77 51 67,jb 69 4 9,yg 0 9 1 69 68]
abbrev Qnq:IL:=[ja 48 11,jm 49 48 1,ja 11 49]
abbrev QCQ:RC:=.seq (jQ Qno (jX 47 3)) (.seq (.block 4 (.draw Qnp)) (.reg Qnq))
abbrev Qnr:IL:=[jf 70 7 9,jq 7 6 70]
abbrev Qns:IL:=[jf 71 2 3,jf 72 8 4,jf 73 7 5,yh 74 51 71 72 73,jq 7 6 74]
abbrev r26:RC:=jQ QCF (.seq (jQ QCG (.block 0 (jQ QCH (.cond (.t 14) (jQ QCI (.gho (.vecc 7 3 1100 7) (.seq (jQ QCJ (.block 1 (.loop QCN))) (jQ QCO (.ret))))) (jQ QCP (.cond (.t 38) (jQ Qnl (.gho (.vecc 9 4 1101 14) (jQ Qnm (.seq (jQ Qnn (.block 3 (.loop QCQ))) (jQ Qnr (.ret)))))) (.skip))))))) (jQ Qns (.ret)))
abbrev o26:List RR:=[.cell 6 (some 7)]
theorem k26:CT 26 75 r26 o26:=ck Tryz.func26 Tryz.ntmps26 (by decide +kernel)
abbrev QCR:IL:=[je 1 1 0,jh 2]
abbrev QCS:IL:=[jb 3 0 1,jc 4 3]
abbrev QCT:IL:=[js 6 4 11,ja 5 6]
abbrev QCU:IL:=[jb 7 3 1,jc 8 7,ji 9 1 8,js 10 9 0,ja 2 10]
abbrev QCV:IL:=[js 12 4 12,ja 11 12]
abbrev QCW:IL:=[jb 13 4 1,jc 14 13,ji 15 1 14,js 16 15 0,ja 2 16]
abbrev QCX:IL:=[jf 17 7 1,jr 18 54 17,ja 2 18]
abbrev r27:RC:=jQ QCR (.seq (jQ QCS (.block 0 (jQ QCT (.cond (.t 5) (jQ QCU (.ret)) (jQ QCV (.cond (.t 11) (jQ QCW (.ret)) (.skip))))))) (jQ QCX (.ret)))
abbrev o27:List RR:=[.tmp 2]
theorem k27:CT 27 19 r27 o27:=ck Tryz.func27 Tryz.ntmps27 (by decide +kernel)
abbrev QCY:IL:=[je 3 3 1,zm 4 4,jd 5 0]
abbrev QCZ:IL:=[jb 6 0 3,jc 7 6,yw 8 7 0,ja 9 8,jn 10 1 3 9,jt 11 10 9,D1 12 11 0 9,jo 13 9 12,ja 14 13,jn 15 2 3 14,jt 16 15 14,D1 17 16 0 14,jo 18 14 17,ja 19 18,jn 20 3 3 19,jt 21 20 19,D1 22 21 0 19,jo 23 19 22]
abbrev QC0:IL:=[⟨some 24,.val (.build [.str [],.int .i64 0,.int .i64 0,.int .i64 0,.int .i64 0,.int .i64 0] []),none⟩,jq 6 4 24,jd 5 1]
abbrev QC1:IL:=[ja 25 0,ji 26 0 25,jb 27 0 3,jc 28 27,zy 29 26 28]
abbrev QC2:IL:=[⟨some 30,.val (.build [.str [],.int .i64 0,.int .i64 0,.int .i64 0,.int .i64 0,.int .i64 0] []),none⟩,jq 6 4 30,jd 5 3]
abbrev QC3:IL:=[ja 31 0,ja 32 0,ji 33 0 32,jb 34 1 3,jc 35 34,jb 36 2 3,jc 37 36,jb 38 3 3,jc 39 38,⟨some 40,.val (.build [.str [],.int .i64 0,.int .i64 0,.int .i64 0,.int .i64 0,.int .i64 0] [(0,1,(.t 31)),(2,1,(.t 33)),(3,1,(.t 35)),(4,1,(.t 37)),(5,1,(.t 39))]),none⟩,jq 6 4 40,jd 5 0]
abbrev r32:RC:=jQ QCY (.seq (jQ QCZ (.cond (.t 23) (jQ QC0 (.ret)) (.skip))) (.seq (jQ QC1 (.cond (.t 29) (jQ QC2 (.ret)) (.skip))) (jQ QC3 (.ret))))
abbrev o32:List RR:=[.cell 4 (some 6),.tmp 5]
theorem k32:CT 32 41 r32 o32:=ck Tryz.func32 Tryz.ntmps32 (by decide +kernel)
abbrev QC4:IL:=[je 1 1 0,jd 2 0]
abbrev QC5:IL:=[jf 3 6 1,jr 4 62 3,ji 5 0 4,ja 2 5]
abbrev r33:RC:=jQ QC4 (jQ QC5 (.ret))
abbrev o33:List RR:=[.tmp 2]
theorem k33:CT 33 6 r33 o33:=ck Tryz.func33 Tryz.ntmps33 (by decide +kernel)
abbrev QC6:IL:=[je 1 1 0,zs 2 2,zm 3 3,jd 4 0]
abbrev QC7:IL:=[jf 11 6 1,jr 12 63 11,ja 10 12,jx 13 10 0,jx 14 10 1,jx 15 10 2,jx 16 10 3,zm 7 7,ja 5 13,ja 6 14,jq 6 7 15,ja 8 16]
abbrev QC8:IL:=[ja 17 8,yc 18 17 0]
abbrev QC9:IL:=[⟨some 19,.val (.build [.int .i64 0,.int .i64 0,.int .u64 0,.str []] []),none⟩,jw 20 0 1 6 1,ja 21 8,yg 0 2 4 2 19,yg 0 3 6 3 20,ja 4 21]
abbrev QDa:IL:=[jf 23 6 7,⟨some 24,.call (.f 64) [(.t 23),(.c (.int .i64 1))],none⟩,ja 22 24,jx 25 22 0,jx 26 22 1,jq 6 7 25,ja 8 26]
abbrev QDb:IL:=[ja 27 8,yc 28 27 0]
abbrev QDc:IL:=[⟨some 29,.val (.build [.int .i64 0,.int .i64 0,.int .u64 0,.str []] []),none⟩,jw 30 0 1 6 1,ja 31 8,yg 0 2 4 2 29,yg 0 3 6 3 30,ja 4 31]
abbrev QDd:IL:=[ja 33 5,ja 34 6,⟨some 35,.val (.build [.int .i64 0,.int .i64 0,.int .u64 0,.str []] [(0,1,(.t 33)),(1,1,(.t 34))]),none⟩,jf 36 6 7,jy 37 65 35 36,ja 32 37,jx 38 32 0,jx 39 32 1,jx 40 32 2,zs 9 9,jq 4 9 38,jq 6 7 39,ja 8 40]
abbrev QDe:IL:=[ja 41 8,yc 42 41 0]
abbrev QDf:IL:=[⟨some 43,.val (.build [.int .i64 0,.int .i64 0,.int .u64 0,.str []] []),none⟩,jw 44 0 1 6 1,ja 45 8,yg 0 2 4 2 43,yg 0 3 6 3 44,ja 4 45]
abbrev Qnu:IL:=[jw 46 0 9 4 9,jw 47 0 7 6 7,yg 0 2 4 2 46,yg 0 3 6 3 47,jd 4 0]
abbrev r34:RC:=jQ QC6 (jQ QC7 (.seq (jQ QC8 (.cond (.t 18) (jD QC9 (.ret)) (.skip))) (jQ QDa (.seq (jQ QDb (.cond (.t 28) (jD QDc (.ret)) (.skip))) (jQ QDd (.seq (jQ QDe (.cond (.t 42) (jD QDf (.ret)) (.skip))) (jD Qnu (.ret))))))))
abbrev o34:List RR:=[.cell 2 (some 4),.cell 3 (some 6),.tmp 4]
theorem k34:CT 34 48 r34 o34:=ck Tryz.func34 Tryz.ntmps34 (by decide +kernel)
abbrev QDg:IL:=[je 1 1 0,jh 2]
abbrev QDh:IL:=[jb 7 0 1,jc 8 7,ji 9 1 8,⟨some 10,.val (.bin .num .leq (.t 9) (.c (.int .i64 64))),none⟩,ja 11 10,jk 12 1 1 11,ju 13 12 11,ys 14 1 13 11,ze 15 14 64 11,jj 16 11 15,ja 3 16]
abbrev QDi:IL:=[jd 4 0]
abbrev QDj:IL:=[ja 17 4,jb 18 0 1,jc 19 18,ji 20 1 19,jp 21 17 20]
abbrev QDk:IL:=[ja 24 3,ja 25 24,jk 26 0 1 25,ju 27 26 25,jg 28 4 25,ya 29 3 27 28 25,jk 30 1 29 25,ju 31 30 25,ys 32 1 31 25,ze 33 32 64 25,jj 34 25 33,ja 3 34]
abbrev QDl:IL:=[ja 22 4,jm 23 22 1,ja 4 23]
abbrev SY:RC:=.seq (jQ QDj (jX 21 0)) (.seq (.block 1 (.reg QDk)) (.reg QDl))
abbrev QDm:IL:=[jd 5 0]
abbrev QDn:IL:=[ja 35 5,jb 36 1 1,jc 37 36,ji 38 1 37,jp 39 35 38]
abbrev QDo:IL:=[jb 42 1 1,jc 43 42,ja 44 5,jl 45 5 43 44,jb 46 2 45,jc 47 46,ji 48 1 47,ja 6 48]
abbrev Qnv:IL:=[ja 49 3,ja 50 49,jg 51 6 50,Gs 52 51 1 50,jj 53 50 52,ja 54 53,jg 55 6 54,ze 56 55 64 54,jj 57 54 56,ja 58 57,jk 59 1 1 58,ju 60 59 58,jg 61 5 58,ya 62 5 60 61 58,jk 63 3 62 58,ju 64 63 58,ys 65 1 64 58,ze 66 65 16 58,jj 67 58 66,ja 3 67]
abbrev QDp:IL:=[ja 40 5,jm 41 40 1,ja 5 41]
abbrev SZ:RC:=.seq (jQ QDn (jX 39 2)) (.seq (.block 3 (jQ QDo (.reg Qnv))) (.reg QDp))
abbrev Qnw:IL:=[ja 68 3,ja 2 68]
abbrev r36:RC:=jQ QDg (jQ QDh (.seq (jQ QDi (.block 0 (.loop SY))) (.seq (jQ QDm (.block 2 (.loop SZ))) (jQ Qnw (.ret)))))
abbrev o36:List RR:=[.tmp 2]
theorem k36:CT 36 69 r36 o36:=ck Tryz.func36 Tryz.ntmps36 (by decide +kernel)
abbrev QDq:IL:=[je 1 1 0,jh 2]
abbrev QDr:IL:=[yj 3]
abbrev QDs:IL:=[jd 4 0]
abbrev QDt:IL:=[ja 8 4,jb 9 0 1,jc 10 9,ji 11 1 10,jp 12 8 11]
abbrev QDu:IL:=[ja 15 3,ja 16 15,jk 17 0 1 16,ju 18 17 16,jg 19 4 16,ya 20 3 18 19 16,jk 21 0 20 16,ju 22 21 16,zg 23 68 22 16,jj 24 16 23,ja 3 24]
abbrev QDv:IL:=[jd 5 0]
abbrev QDw:IL:=[ja 25 5,jb 26 0 1,jc 27 26,ja 28 4,jl 29 3 27 28,jb 30 1 29,jc 31 30,ji 32 1 31,jp 33 25 32]
abbrev QDx:IL:=[ja 36 3,ja 37 36,jk 38 0 1 37,ju 39 38 37,jg 40 4 37,ya 41 3 39 40 37,jk 42 1 41 37,ju 43 42 37,jg 44 5 37,ya 45 8 43 44 37,jk 46 1 45 37,ju 47 46 37,zg 48 69 47 37,jj 49 37 48,ja 3 49]
abbrev QDy:IL:=[ja 34 5,jm 35 34 1,ja 5 35]
abbrev S0:RC:=.seq (jQ QDw (jX 33 2)) (.seq (.block 3 (.reg QDx)) (.reg QDy))
abbrev QDz:IL:=[ja 13 4,jm 14 13 1,ja 4 14]
abbrev S1:RC:=.seq (jQ QDt (jX 12 0)) (.seq (.block 1 (jQ QDu (jQ QDv (.block 2 (.loop S0))))) (.reg QDz))
abbrev Qnx:IL:=[jd 6 0]
abbrev Qny:IL:=[ja 50 6,jb 51 1 1,jc 52 51,ji 53 1 52,jp 54 50 53]
abbrev Qnz:IL:=[ja 57 3,ja 58 57,jk 59 1 1 58,ju 60 59 58,jg 61 6 58,ya 62 5 60 61 58,jk 63 0 62 58,ju 64 63 58,zg 65 68 64 58,jj 66 58 65,ja 3 66]
abbrev QnA:IL:=[jd 7 0]
abbrev QnB:IL:=[ja 67 7,jb 68 1 1,jc 69 68,ja 70 6,jl 71 5 69 70,jb 72 2 71,jc 73 72,ji 74 1 73,jp 75 67 74]
abbrev QnC:IL:=[ja 78 3,ja 79 78,jk 80 1 1 79,ju 81 80 79,jg 82 6 79,ya 83 5 81 82 79,jk 84 2 83 79,ju 85 84 79,jg 86 7 79,ya 87 3 85 86 79,jk 88 0 87 79,ju 89 88 79,zg 90 69 89 79,jj 91 79 90,ja 3 91]
abbrev QnD:IL:=[ja 76 7,jm 77 76 1,ja 7 77]
abbrev S2:RC:=.seq (jQ QnB (jX 75 6)) (.seq (.block 7 (.reg QnC)) (.reg QnD))
abbrev QnE:IL:=[ja 55 6,jm 56 55 1,ja 6 56]
abbrev S3:RC:=.seq (jQ Qny (jX 54 4)) (.seq (.block 5 (jQ Qnz (jQ QnA (.block 6 (.loop S2))))) (.reg QnE))
abbrev QnF:IL:=[ja 92 3,ja 2 92]
abbrev r37:RC:=jQ QDq (jQ QDr (.seq (jQ QDs (.block 0 (.loop S1))) (.seq (jQ Qnx (.block 4 (.loop S3))) (jQ QnF (.ret)))))
abbrev o37:List RR:=[.tmp 2]
theorem k37:CT 37 93 r37 o37:=ck Tryz.func37 Tryz.ntmps37 (by decide +kernel)
abbrev QDA:IL:=[je 1 1 0,jh 2]
abbrev QDB:IL:=[yj 3]
abbrev QDC:IL:=[jd 4 0]
abbrev QDD:IL:=[ja 8 4,jb 9 0 1,jc 10 9,ji 11 1 10,jp 12 8 11]
abbrev QDE:IL:=[ja 15 3,ja 16 15,jg 17 4 16,yl 18 17 0 16,jg 19 18 16,jn 20 0 1 19,zk 21 0 1 20 19,jv 22 4 19,⟨some 23,.val (.bin .num .sub (.t 22) (.c (.int .i64 1))),(some (19,false))⟩,yz 24 3 21 23 19,jn 25 0 24 19,N2 26 25 19,jn 27 0 1 19,zk 28 0 1 27 19,jv 29 4 19,yz 30 3 28 29 19,jn 31 0 30 19,N2 32 31 19,⟨some 33,.val (.bin .str .lss (.t 26) (.t 32)),(some (19,false))⟩,zf 34 19 33 16,jj 35 16 34,ja 3 35]
abbrev QDF:IL:=[jd 5 1]
abbrev QDG:IL:=[ja 36 5,jb 37 0 1,jc 38 37,ja 39 4,jl 40 3 38 39,jb 41 1 40,jc 42 41,ji 43 1 42,jp 44 36 43]
abbrev QDH:IL:=[ja 47 3,ja 48 47,jk 49 0 1 48,yy 50 0 1 49 48,jg 51 4 48,ya 52 3 50 51 48,jk 53 1 52 48,ym 54 53 48,jg 55 5 48,D3 56 55 1 48,ya 57 8 54 56 48,jk 58 0 57 48,ym 59 58 48,jk 60 0 1 48,yy 61 0 1 60 48,jg 62 4 48,ya 63 3 61 62 48,jk 64 1 63 48,ym 65 64 48,jg 66 5 48,ya 67 8 65 66 48,jk 68 0 67 48,ym 69 68 48,Gr 70 59 69 48,jj 71 48 70,ja 3 71]
abbrev QDI:IL:=[ja 45 5,jm 46 45 1,ja 5 46]
abbrev S4:RC:=.seq (jQ QDG (jX 44 2)) (.seq (.block 3 (.draw QDH)) (.reg QDI))
abbrev QDJ:IL:=[ja 13 4,jm 14 13 1,ja 4 14]
abbrev S5:RC:=.seq (jQ QDD (jX 12 0)) (.seq (.block 1 (jD QDE (jQ QDF (.block 2 (.loop S4))))) (.reg QDJ))
abbrev QnH:IL:=[jd 6 0]
abbrev QnI:IL:=[ja 72 6,jb 73 1 1,jc 74 73,ji 75 1 74,jp 76 72 75]
abbrev QnJ:IL:=[ja 79 3,ja 80 79,jg 81 6 80,yl 82 81 0 80,jg 83 82 80,jn 84 1 1 83,zk 85 0 1 84 83,jv 86 6 83,⟨some 87,.val (.bin .num .sub (.t 86) (.c (.int .i64 1))),(some (83,false))⟩,yz 88 5 85 87 83,jn 89 0 88 83,N2 90 89 83,jn 91 1 1 83,zk 92 0 1 91 83,jv 93 6 83,yz 94 5 92 93 83,jn 95 0 94 83,N2 96 95 83,⟨some 97,.val (.bin .str .lss (.t 90) (.t 96)),(some (83,false))⟩,zf 98 83 97 80,jj 99 80 98,ja 3 99]
abbrev QnK:IL:=[jd 7 1]
abbrev QnL:IL:=[ja 100 7,jb 101 1 1,jc 102 101,ja 103 6,jl 104 5 102 103,jb 105 2 104,jc 106 105,ji 107 1 106,jp 108 100 107]
abbrev QnM:IL:=[ja 111 3,ja 112 111,jk 113 1 1 112,yy 114 0 1 113 112,jg 115 6 112,ya 116 5 114 115 112,jk 117 2 116 112,ym 118 117 112,jg 119 7 112,D3 120 119 1 112,ya 121 3 118 120 112,jk 122 1 121 112,ym 123 122 112,jk 124 1 1 112,yy 125 0 1 124 112,jg 126 6 112,ya 127 5 125 126 112,jk 128 2 127 112,ym 129 128 112,jg 130 7 112,ya 131 3 129 130 112,jk 132 1 131 112,ym 133 132 112,Gr 134 123 133 112,jj 135 112 134,ja 3 135]
abbrev QnN:IL:=[ja 109 7,jm 110 109 1,ja 7 110]
abbrev S6:RC:=.seq (jQ QnL (jX 108 6)) (.seq (.block 7 (.draw QnM)) (.reg QnN))
abbrev QnO:IL:=[ja 77 6,jm 78 77 1,ja 6 78]
abbrev S7:RC:=.seq (jQ QnI (jX 76 4)) (.seq (.block 5 (jD QnJ (jQ QnK (.block 6 (.loop S6))))) (.reg QnO))
abbrev QnP:IL:=[ja 136 3,ja 2 136]
abbrev r38:RC:=jQ QDA (jQ QDB (.seq (jQ QDC (.block 0 (.loop S5))) (.seq (jQ QnH (.block 4 (.loop S7))) (jQ QnP (.ret)))))
abbrev o38:List RR:=[.tmp 2]
theorem k38:CT 38 137 r38 o38:=ck Tryz.func38 Tryz.ntmps38 (by decide +kernel)
abbrev QDK:IL:=[je 1 1 0,jh 2]
abbrev QDL:IL:=[yj 3]
abbrev QDM:IL:=[jd 4 0]
abbrev QDN:IL:=[ja 13 4,jb 14 0 1,jc 15 14,ji 16 1 15,jp 17 13 16]
abbrev QDO:IL:=[jd 5 0]
abbrev QDP:IL:=[ja 20 5,jb 21 1 1,jc 22 21,ji 23 1 22,jp 24 20 23]
abbrev QDQ:IL:=[ja 27 3,ja 28 27,jk 29 0 1 28,yy 30 0 1 29 28,jg 31 4 28,ya 32 3 30 31 28,jk 33 0 32 28,ym 34 33 28,jk 35 1 1 28,yy 36 0 1 35 28,jg 37 5 28,ya 38 5 36 37 28,jk 39 0 38 28,ym 40 39 28,⟨some 41,.val (.bin .str .neq (.t 34) (.t 40)),(some (28,true))⟩,jj 42 28 41,ja 3 42]
abbrev QDR:IL:=[ja 25 5,jm 26 25 1,ja 5 26]
abbrev S8:RC:=.seq (jQ QDP (jX 24 2)) (.seq (.block 3 (.draw QDQ)) (.reg QDR))
abbrev QDS:IL:=[jb 43 0 1,jc 44 43,ja 45 4,jl 46 3 44 45,jb 47 1 46,jc 48 47,ja 6 48]
abbrev QnQ:IL:=[jd 7 0]
abbrev QnR:IL:=[ja 49 7,ja 50 6,ji 51 1 50,jp 52 49 51]
abbrev QnS:IL:=[jd 8 0]
abbrev QnT:IL:=[ja 55 8,ja 56 7,jp 57 55 56]
abbrev QnU:IL:=[ja 60 3,ja 61 60,jg 62 6 61,jg 63 8 61,ya 64 8 62 63 61,jk 65 1 64 61,ym 66 65 61,jg 67 6 61,jg 68 7 61,ya 69 8 67 68 61,jk 70 1 69 61,ym 71 70 61,⟨some 72,.val (.bin .str .neq (.t 66) (.t 71)),(some (61,true))⟩,jj 73 61 72,ja 3 73]
abbrev QnV:IL:=[ja 58 8,jm 59 58 1,ja 8 59]
abbrev S9:RC:=.seq (jQ QnT (jX 57 6)) (.seq (.block 7 (.draw QnU)) (.reg QnV))
abbrev QnW:IL:=[ja 53 7,jm 54 53 1,ja 7 54]
abbrev Ta:RC:=.seq (jQ QnR (jX 52 4)) (.seq (.block 5 (jQ QnS (.block 6 (.loop S9)))) (.reg QnW))
abbrev QDT:IL:=[ja 18 4,jm 19 18 1,ja 4 19]
abbrev Tb:RC:=.seq (jQ QDN (jX 17 0)) (.seq (.block 1 (.seq (jQ QDO (.block 2 (.loop S8))) (jQ QDS (jQ QnQ (.block 4 (.loop Ta)))))) (.reg QDT))
abbrev QnX:IL:=[jd 9 0]
abbrev QnY:IL:=[ja 74 9,jb 75 1 1,jc 76 75,ji 77 1 76,jp 78 74 77]
abbrev QnZ:IL:=[jb 81 1 1,jc 82 81,ja 83 9,jl 84 5 82 83,jb 85 2 84,jc 86 85,ja 10 86]
abbrev Qn0:IL:=[jd 11 0]
abbrev Qn1:IL:=[ja 87 11,ja 88 10,ji 89 1 88,jp 90 87 89]
abbrev Qn2:IL:=[jd 12 0]
abbrev Qn3:IL:=[ja 93 12,ja 94 11,jp 95 93 94]
abbrev Qn4:IL:=[ja 98 3,ja 99 98,jg 100 10 99,jg 101 12 99,ya 102 3 100 101 99,jk 103 0 102 99,ym 104 103 99,jg 105 10 99,jg 106 11 99,ya 107 3 105 106 99,jk 108 0 107 99,ym 109 108 99,⟨some 110,.val (.bin .str .neq (.t 104) (.t 109)),(some (99,true))⟩,jj 111 99 110,ja 3 111]
abbrev Qn5:IL:=[ja 96 12,jm 97 96 1,ja 12 97]
abbrev Tc:RC:=.seq (jQ Qn3 (jX 95 12)) (.seq (.block 13 (.draw Qn4)) (.reg Qn5))
abbrev Qn6:IL:=[ja 91 11,jm 92 91 1,ja 11 92]
abbrev Td:RC:=.seq (jQ Qn1 (jX 90 10)) (.seq (.block 11 (jQ Qn2 (.block 12 (.loop Tc)))) (.reg Qn6))
abbrev Qn7:IL:=[ja 79 9,jm 80 79 1,ja 9 80]
abbrev Te:RC:=.seq (jQ QnY (jX 78 8)) (.seq (.block 9 (jQ QnZ (jQ Qn0 (.block 10 (.loop Td))))) (.reg Qn7))
abbrev Qn8:IL:=[ja 112 3,ja 2 112]
abbrev r39:RC:=jQ QDK (jQ QDL (.seq (jQ QDM (.block 0 (.loop Tb))) (.seq (jQ QnX (.block 8 (.loop Te))) (jQ Qn8 (.ret)))))
abbrev o39:List RR:=[.tmp 2]
theorem k39:CT 39 113 r39 o39:=ck Tryz.func39 Tryz.ntmps39 (by decide +kernel)
abbrev QDU:IL:=[je 1 1 0,jh 2]
abbrev QDV:IL:=[yj 3]
abbrev QDW:IL:=[jd 4 0]
abbrev QDX:IL:=[ja 13 4,jb 14 0 1,jc 15 14,ji 16 1 15,jp 17 13 16]
abbrev QDY:IL:=[jd 5 0]
abbrev QDZ:IL:=[ja 20 5,jb 21 0 1,jc 22 21,ja 23 4,jl 24 3 22 23,jb 25 1 24,jc 26 25,ji 27 1 26,jp 28 20 27]
abbrev QD0:IL:=[jb 31 0 1,jc 32 31,ja 33 4,jl 34 3 32 33,jb 35 1 34,jc 36 35,ja 37 5,jl 38 8 36 37,jb 39 0 38,jc 40 39,ja 6 40]
abbrev QD1:IL:=[ja 41 3,ja 42 41,jg 43 6 42,Gs 44 43 1 42,jj 45 42 44,ja 46 45,jg 47 6 46,ze 48 47 65535 46,jj 49 46 48,ja 3 49]
abbrev QD2:IL:=[ja 29 5,jm 30 29 1,ja 5 30]
abbrev Tf:RC:=.seq (jQ QDZ (jX 28 2)) (.seq (.block 3 (jQ QD0 (.reg QD1))) (.reg QD2))
abbrev QD3:IL:=[ja 18 4,jm 19 18 1,ja 4 19]
abbrev Th:RC:=.seq (jQ QDX (jX 17 0)) (.seq (.block 1 (jQ QDY (.block 2 (.loop Tf)))) (.reg QD3))
abbrev Qn9:IL:=[jd 7 0]
abbrev Qoa:IL:=[ja 50 7,jb 51 1 1,jc 52 51,ji 53 1 52,jp 54 50 53]
abbrev Qob:IL:=[jb 57 1 1,jc 58 57,ja 59 7,jl 60 5 58 59,jf 61 5 60,⟨some 8,.allocN 8 [.str [],.bool false,.nils,.nils,.nils],none⟩,jq 5 8 61]
abbrev Qoc:IL:=[jd 9 0]
abbrev Qod:IL:=[ja 62 9,jb 63 2 8,jc 64 63,ji 65 1 64,jp 66 62 65]
abbrev Qoe:IL:=[jb 69 2 8,jc 70 69,ja 71 9,jl 72 3 70 71,jb 73 1 72,jc 74 73,ja 10 74]
abbrev Qof:IL:=[ja 75 3,ja 76 75,jg 77 10 76,ze 78 77 2147483647 76,jj 79 76 78,ja 80 79,jg 81 9 80,N1 82 81 0 80,jg 83 82 80,jv 84 10 83,yq 85 84 0 83,zf 86 83 85 80,jj 87 80 86,ja 88 87,jk 89 3 8 88,ju 90 89 88,jg 91 10 88,Hb 92 70 90 91 88,za 93 92 88,jj 94 88 93,ja 3 94]
abbrev Qog:IL:=[ja 67 9,jm 68 67 1,ja 9 68]
abbrev Ti:RC:=.seq (jQ Qod (jX 66 6)) (.seq (.block 7 (jQ Qoe (.reg Qof))) (.reg Qog))
abbrev Qoh:IL:=[jd 11 0]
abbrev Qoi:IL:=[ja 95 11,jb 96 3 8,jc 97 96,ji 98 1 97,jp 99 95 98]
abbrev Qoj:IL:=[jb 102 3 8,jc 103 102,ja 104 11,jl 105 2 103 104,jf 106 2 105,⟨some 12,.allocN 12 [.int .i64 0,.int .i64 0],none⟩,jq 2 12 106]
abbrev Qok:IL:=[ja 107 3,ja 108 107,jk 109 0 12 108,yy 110 0 12 109 108,Gs 111 110 0 108,jj 112 108 111,ja 113 112,jk 114 1 12 113,yy 115 0 12 114 113,ze 116 115 2147483647 113,jj 117 113 116,ja 118 117,jk 119 0 12 118,yy 120 0 12 119 118,jk 121 1 12 118,yy 122 0 12 121 118,Bg 123 120 122 118,jj 124 118 123,ja 125 124,jg 126 11 125,yl 127 126 0 125,jg 128 127 125,jn 129 0 12 128,zk 130 0 12 129 128,jn 131 3 8 128,zk 132 0 8 131 128,jv 133 11 128,⟨some 134,.val (.bin .num .sub (.t 133) (.c (.int .i64 1))),(some (128,false))⟩,yz 135 2 132 134 128,jn 136 1 135 128,N2 137 136 128,⟨some 138,.val (.bin .num .gtr (.t 130) (.t 137)),(some (128,false))⟩,zf 139 128 138 125,jj 140 125 139,ja 3 140]
abbrev Qol:IL:=[ja 100 11,jm 101 100 1,ja 11 101]
abbrev Tj:RC:=.gho (.drop 12) (.seq (jQ Qoi (jX 99 8)) (.seq (.block 9 (jQ Qoj (.draw Qok))) (.reg Qol)))
abbrev Qom:IL:=[ja 55 7,jm 56 55 1,ja 7 56]
abbrev Tk:RC:=.gho (.drop 12) (.gho (.drop 8) (.seq (jQ Qoa (jX 54 4)) (.seq (.block 5 (jQ Qob (.seq (jQ Qoc (.block 6 (.loop Ti))) (jQ Qoh (.block 8 (.loop Tj)))))) (.reg Qom))))
abbrev Qon:IL:=[ja 141 3,ja 2 141]
abbrev r40:RC:=jQ QDU (jQ QDV (.seq (jQ QDW (.block 0 (.loop Th))) (.seq (jQ Qn9 (.block 4 (.loop Tk))) (jQ Qon (.ret)))))
abbrev o40:List RR:=[.tmp 2]
theorem k40:CT 40 142 r40 o40:=ck Tryz.func40 Tryz.ntmps40 (by decide +kernel)
abbrev QD4:IL:=[je 1 1 0,jh 2]
abbrev QD5:IL:=[yj 3]
abbrev QD6:IL:=[jd 4 0]
abbrev QD7:IL:=[ja 9 4,jb 10 1 1,jc 11 10,ji 12 1 11,jp 13 9 12]
abbrev QD8:IL:=[ja 16 3,ja 17 16,jk 18 1 1 17,ju 19 18 17,jg 20 4 17,ya 21 5 19 20 17,jk 22 4 21 17,ju 23 22 17,ys 24 1 23 17,yl 25 24 0 17,jj 26 17 25,ja 3 26]
abbrev QD9:IL:=[jd 5 0]
abbrev QEa:IL:=[ja 27 5,jb 28 1 1,jc 29 28,ja 30 4,jl 31 5 29 30,jb 32 2 31,jc 33 32,ji 34 1 33,jp 35 27 34]
abbrev QEb:IL:=[jb 38 1 1,jc 39 38,ja 40 4,jl 41 5 39 40,jb 42 2 41,jc 43 42,ja 44 5,jl 45 3 43 44,jb 46 2 45,jc 47 46,ja 6 47]
abbrev Qoo:IL:=[ja 48 3,ja 49 48,jg 50 6 49,ys 51 1 50 49,yl 52 51 0 49,jg 53 52 49,jv 54 6 53,ye 55 1 54 53,yq 56 55 1 53,jv 57 56 53,jg 58 6 57,NY 59 8 58 0 57,jk 60 0 59 57,ju 61 60 57,⟨some 62,.val (.bin .str .eql (.t 61) (.c (.str [97,108,105,97,115]))),(some (57,true))⟩,yx 63 57 62 53,jv 64 63 53,jg 65 6 64,⟨some 66,.call (.f 71) [(.t 65),(.c (.int .i64 4))],(some (64,true))⟩,yl 67 66 0 64,yx 68 64 67 53,zf 69 53 68 49,jj 70 49 69,ja 3 70]
abbrev QEc:IL:=[ja 36 5,jm 37 36 1,ja 5 37]
abbrev Tl:RC:=.seq (jQ QEa (jX 35 2)) (.seq (.block 3 (jQ QEb (.reg Qoo))) (.reg QEc))
abbrev QEd:IL:=[ja 14 4,jm 15 14 1,ja 4 15]
abbrev Tm:RC:=.seq (jQ QD7 (jX 13 0)) (.seq (.block 1 (jQ QD8 (jQ QD9 (.block 2 (.loop Tl))))) (.reg QEd))
abbrev Qop:IL:=[jd 7 0]
abbrev Qoq:IL:=[ja 71 7,jb 72 0 1,jc 73 72,ji 74 1 73,jp 75 71 74]
abbrev Qor:IL:=[ja 78 3,ja 79 78,jk 80 0 1 79,ju 81 80 79,jg 82 7 79,ya 83 3 81 82 79,zp 84 3 83 79,zg 85 72 84 79,jj 86 79 85,ja 3 86]
abbrev Qos:IL:=[jd 8 0]
abbrev Qot:IL:=[ja 87 8,jb 88 0 1,jc 89 88,ja 90 7,jl 91 3 89 90,jb 92 1 91,jc 93 92,ji 94 1 93,jp 95 87 94]
abbrev Qou:IL:=[ja 98 3,ja 99 98,DZ 100 0 1 2 1 99,jk 101 0 1 99,yy 102 0 1 101 99,jg 103 7 99,ya 104 3 102 103 99,jk 105 1 104 99,ym 106 105 99,jg 107 8 99,ya 108 8 106 107 99,Gt 109 8 108 99,Hb 110 73 100 109 99,jj 111 99 110,ja 3 111]
abbrev Qov:IL:=[ja 96 8,jm 97 96 1,ja 8 97]
abbrev Tn:RC:=.seq (jQ Qot (jX 95 6)) (.seq (.block 7 (.draw Qou)) (.reg Qov))
abbrev Qow:IL:=[ja 76 7,jm 77 76 1,ja 7 77]
abbrev To:RC:=.seq (jQ Qoq (jX 75 4)) (.seq (.block 5 (jQ Qor (jQ Qos (.block 6 (.loop Tn))))) (.reg Qow))
abbrev Qox:IL:=[ja 112 3,ja 2 112]
abbrev r41:RC:=jQ QD4 (jQ QD5 (.seq (jQ QD6 (.block 0 (.loop Tm))) (.seq (jQ Qop (.block 4 (.loop To))) (jQ Qox (.ret)))))
abbrev o41:List RR:=[.tmp 2]
theorem k41:CT 41 113 r41 o41:=ck Tryz.func41 Tryz.ntmps41 (by decide +kernel)
abbrev QEe:IL:=[je 1 1 0,jh 2]
abbrev QEf:IL:=[jb 9 0 1,jc 10 9,ji 11 1 10,⟨some 12,.mk 12 4 1 1 [.bool false] (.t 11) (.t 11),none⟩,ja 3 12]
abbrev QEg:IL:=[jb 13 0 1,jc 14 13,ji 15 1 14,js 16 15 0,ja 4 16]
abbrev QEh:IL:=[jb 17 0 1,jc 18 17,ji 19 1 18,jd 20 0]
abbrev QEi:IL:=[jp 21 20 19]
abbrev QEj:IL:=[yj 4]
abbrev QEk:IL:=[jd 5 0]
abbrev QEl:IL:=[ja 22 5,jb 23 0 1,jc 24 23,ji 25 1 24,jp 26 22 25]
abbrev QEm:IL:=[yj 6]
abbrev Qoy:IL:=[jd 7 0]
abbrev Qoz:IL:=[ja 29 7,jb 30 0 1,jc 31 30,ja 32 5,jl 33 3 31 32,jb 34 1 33,jc 35 34,ji 36 1 35,jp 37 29 36]
abbrev QoA:IL:=[jb 40 0 1,jc 41 40,ja 42 5,jl 43 3 41 42,jb 44 1 43,jc 45 44,ja 46 7,jl 47 8 45 46,jf 48 8 47,zh 8 8,jq 8 8 48]
abbrev QoB:IL:=[ja 49 6,ja 50 49,jk 51 3 8 50,ju 52 51 50,zv 53 52 1 50,jg 54 53 50,jn 55 5 8 54,jt 56 55 54,D0 57 56 10 54,zf 58 54 57 50,jg 59 58 50,jv 60 3 59,jn 61 6 8 59,jt 62 61 59,yz 63 1 60 62 59,jt 64 63 59,zf 65 59 64 50,jj 66 50 65,ja 6 66]
abbrev QoC:IL:=[ja 38 7,jm 39 38 1,ja 7 39]
abbrev Tp:RC:=.gho (.drop 8) (.seq (jQ Qoz (jX 37 4)) (.seq (.block 5 (jQ QoA (.reg QoB))) (.reg QoC)))
abbrev QoD:IL:=[ja 67 3,ja 68 5,ja 69 6,jl 70 1 67 68,jq 1 70 69]
abbrev QoE:IL:=[ja 71 4,ja 72 71,jg 73 6 72,jj 74 72 73,ja 4 74]
abbrev QEn:IL:=[ja 27 5,jm 28 27 1,ja 5 28]
abbrev Tq:RC:=.gho (.drop 8) (.seq (jQ QEl (jX 26 2)) (.seq (.block 3 (jQ QEm (.seq (jQ Qoy (.block 4 (.loop Tp))) (jQ QoD (.reg QoE))))) (.reg QEn)))
abbrev QoF:IL:=[jm 75 20 1,ja 20 75]
abbrev QEo:RC:=.gho (.drop 8) (jQ QEi (.seq (jX 21 0) (.seq (.block 1 (jQ QEj (jQ QEk (.block 2 (.loop Tq))))) (.reg QoF))))
abbrev QoG:IL:=[ja 76 4,ja 2 76]
abbrev r42:RC:=jQ QEe (jQ QEf (jQ QEg (.seq (jQ QEh (.block 0 (.loop QEo))) (jQ QoG (.ret)))))
abbrev o42:List RR:=[.tmp 2]
theorem k42:CT 42 77 r42 o42:=ck Tryz.func42 Tryz.ntmps42 (by decide +kernel)
abbrev QEp:IL:=[je 1 1 0,jh 2]
abbrev QEq:IL:=[jb 5 0 1,jc 6 5,js 7 6 7,ja 8 7,jn 9 0 1 8,jt 10 9 8,yq 11 10 8 8,jo 12 8 11,ja 3 12]
abbrev QEr:IL:=[jb 13 0 1,jc 14 13,js 15 14 10,ja 4 15]
abbrev QEs:IL:=[jb 16 3 1,jc 17 16,ji 18 1 17,yn 19 18 0,ja 20 19,jk 21 0 1 20,ju 22 21 20,zv 23 22 11 20,jj 24 20 23,ja 25 24,jn 26 4 1 25,jt 27 26 25,ye 28 1 27 25,yr 29 28 0 25,jv 30 29 25,jk 31 0 1 30,ju 32 31 30,zv 33 32 12 30,yx 34 30 33 25,jo 35 25 34,ja 36 35,jn 37 5 1 36,jt 38 37 36,ye 39 1 38 36,jn 40 6 1 36,jt 41 40 36,ye 42 1 41 36,⟨some 43,.val (.bin .num .add (.t 39) (.t 42)),(some (36,false))⟩,yr 44 43 0 36,jv 45 44 36,jg 46 4 45,za 47 46 45,yx 48 45 47 36,jo 49 36 48]
abbrev QEt:IL:=[yj 2]
abbrev QEu:IL:=[jb 50 1 1,jc 51 50,⟨some 52,.val (.bin .num .neq (.t 51) (.c (.int .u64 0))),none⟩,ja 53 52,jg 54 3 53,jg 55 54 53,jn 56 0 1 55,jt 57 56 55,yq 58 57 11 55,zf 59 55 58 53,jg 60 59 53,jn 61 0 1 60,jt 62 61 60,yq 63 62 12 60,zf 64 60 63 53,jg 65 64 53,jv 66 4 65,zf 67 65 66 53,jj 68 53 67,ja 69 68,jn 70 2 1 69,jt 71 70 69,⟨some 72,.val (.bin .str .neq (.t 71) (.c (.str []))),(some (69,false))⟩,jv 73 72 69,jg 74 3 73,za 75 74 73,yx 76 73 75 69,jo 77 69 76,ja 2 77]
abbrev r43:RC:=jQ QEp (jQ QEq (jQ QEr (.seq (jQ QEs (.cond (.t 49) (jQ QEt (.ret)) (.skip))) (jQ QEu (.ret)))))
abbrev o43:List RR:=[.tmp 2]
theorem k43:CT 43 78 r43 o43:=ck Tryz.func43 Tryz.ntmps43 (by decide +kernel)
abbrev QEv:IL:=[je 3 3 0,jd 6 0]
abbrev QEw:IL:=[jw 14 0 3 3 3,ja 15 1,ja 16 2,jl 17 8 15 16,jb 18 0 17,zo 19 18,jy 20 45 14 19,ja 13 20,jx 21 13 0,jx 22 13 1,zh 7 7,yg 0 7 8 7 21,ja 8 22]
abbrev QEx:IL:=[ja 23 8,jz 24 23]
abbrev QEy:IL:=[jd 6 8]
abbrev QEz:IL:=[jh 9]
abbrev QEA:IL:=[jd 10 0]
abbrev QEB:IL:=[ja 25 10,ja 26 2,jp 27 25 26]
abbrev QEC:IL:=[ja 30 1,ja 31 10,jl 32 8 30 31,jb 33 0 32,zo 34 33,ja 35 1,ja 36 2,jl 37 8 35 36,jb 38 0 37,zo 39 38,zt 40 34 39]
abbrev QED:IL:=[jd 6 9]
abbrev QoI:IL:=[jw 42 0 3 3 3,ja 43 1,ja 44 10,jl 45 8 43 44,jb 46 0 45,zo 47 46,jy 48 45 42 47,ja 41 48,jx 49 41 0,jx 50 41 1,zh 11 11,yg 0 11 8 11 49,ja 12 50]
abbrev QoJ:IL:=[ja 51 9,ja 52 51,jn 53 7 7 52,jt 54 53 52,D0 55 54 (-1) 52,jv 56 55 52,jk 57 7 11 56,ju 58 57 56,jk 59 7 7 56,ju 60 59 56,⟨some 61,.val (.bin .num .eql (.t 58) (.t 60)),(some (56,true))⟩,yx 62 56 61 52,jo 63 52 62,ja 9 63]
abbrev QEE:IL:=[ja 28 10,jm 29 28 1,ja 10 29]
abbrev QEF:RC:=.gho (.drop 11) (.seq (jQ QEB (jX 27 0)) (.seq (.block 1 (.seq (jD QEC (.cond (.t 40) (jQ QED (.ret)) (.skip))) (jD QoI (.reg QoJ)))) (.reg QEE)))
abbrev QoK:IL:=[ja 64 9]
abbrev QoL:IL:=[jd 6 15]
abbrev QoM:IL:=[jd 6 0]
abbrev r44:RC:=jQ QEv (jD QEw (.seq (jQ QEx (.cond (.t 24) (jQ QEy (.ret)) (.skip))) (jQ QEz (.seq (jQ QEA (.block 0 (.loop QEF))) (.seq (jQ QoK (.cond (.t 64) (jQ QoL (.ret)) (.skip))) (jQ QoM (.ret)))))))
abbrev o44:List RR:=[.tmp 6]
theorem k44:CT 44 65 r44 o44:=ck Tryz.func44 Tryz.ntmps44 (by decide +kernel)
abbrev QEG:IL:=[je 2 2 0,zh 4 4,jh 5]
abbrev QEH:IL:=[jd 6 0]
abbrev QEI:IL:=[ja 7 6,jb 8 1 2,jc 9 8,ji 10 1 9,jp 11 7 10]
abbrev QEJ:IL:=[jb 14 1 2,jc 15 14,ja 16 6,jl 17 8 15 16,jb 18 0 17,jc 19 18,ja 20 1,zt 21 19 20]
abbrev QEK:IL:=[jb 22 1 2,jc 23 22,ja 24 6,jl 25 8 23 24,jf 26 8 25,jq 8 4 26,yj 5]
abbrev QEL:IL:=[ja 12 6,jm 13 12 1,ja 6 13]
abbrev QEM:RC:=.seq (jQ QEI (jX 11 0)) (.seq (.block 1 (jQ QEJ (.cond (.t 21) (jQ QEK (.ret)) (.skip)))) (.reg QEL))
abbrev QEN:IL:=[⟨some 27,.val (.build [.int .i64 0,.str [],.str [],.int .i64 0,.int .i64 0,.int .i64 0,.int .i64 0,.int .i64 0] []),none⟩,jq 8 4 27,jh 5]
abbrev r45:RC:=jQ QEG (.seq (jQ QEH (.block 0 (.loop QEM))) (jQ QEN (.ret)))
abbrev o45:List RR:=[.cell 4 (some 8),.tmp 5]
theorem k45:CT 45 28 r45 o45:=ck Tryz.func45 Tryz.ntmps45 (by decide +kernel)
abbrev QEO:IL:=[je 4 4 0,je 5 5 1,je 6 6 2,jd 8 0]
abbrev QEP:IL:=[jb 11 3 5,jc 12 11]
abbrev QEQ:IL:=[js 14 12 5,ja 13 14]
abbrev QER:IL:=[jb 15 0 6,jc 16 15,yc 17 16 12,ja 18 17,yu 19 7 6 18,zd 20 43 19 18,jo 21 18 20]
abbrev QES:IL:=[jd 8 12]
abbrev QET:IL:=[jf 22 2 4,jf 23 8 5,jb 24 4 6,jc 25 24,ja 26 3,zl 27 74 22 23 25 26,ja 8 27]
abbrev QEU:IL:=[js 29 12 4,ja 28 29]
abbrev QEV:IL:=[jb 30 0 6,jc 31 30,yc 32 31 11,ja 33 32,yu 34 7 6 33,zd 35 43 34 33,jo 36 33 35]
abbrev QEW:IL:=[jd 8 12]
abbrev QEX:IL:=[jd 9 0]
abbrev QoN:IL:=[ja 37 9,jb 38 3 6,jc 39 38,ji 40 1 39,jp 41 37 40]
abbrev QoO:IL:=[jw 44 0 4 2 4,jw 45 0 5 8 5,jb 46 3 6,yb 47 0 6 46,ja 48 9,jl 49 7 47 48,yd 50 7 49,ja 51 3,zl 52 75 44 45 50 51,ja 10 52]
abbrev QoP:IL:=[ja 53 10,yc 54 53 0]
abbrev QoQ:IL:=[ja 55 10,ja 8 55]
abbrev QoR:IL:=[ja 42 9,jm 43 42 1,ja 9 43]
abbrev QEY:RC:=.seq (jQ QoN (jX 41 1)) (.seq (.block 2 (jD QoO (jQ QoP (.cond (.t 54) (jQ QoQ (.ret)) (.skip))))) (.reg QoR))
abbrev QoS:IL:=[jd 8 0]
abbrev QoT:IL:=[jf 56 2 4,jf 57 8 5,jf 58 7 6,ja 59 3,zl 60 75 56 57 58 59,ja 8 60]
abbrev r46:RC:=jQ QEO (.seq (jQ QEP (.block 0 (jQ QEQ (.cond (.t 13) (.seq (jQ QER (.cond (.t 21) (jQ QES (.ret)) (.skip))) (jQ QET (.ret))) (jQ QEU (.cond (.t 28) (.seq (jQ QEV (.cond (.t 36) (jQ QEW (.ret)) (.skip))) (.seq (jQ QEX (.block 1 (.loop QEY))) (jQ QoS (.ret)))) (.skip))))))) (jQ QoT (.ret)))
abbrev o46:List RR:=[.tmp 8]
theorem k46:CT 46 61 r46 o46:=ck Tryz.func46 Tryz.ntmps46 (by decide +kernel)
abbrev QEZ:IL:=[je 2 2 0,jh 4]
abbrev QE0:IL:=[jd 5 0]
abbrev QE1:IL:=[ja 6 5,jb 7 5 2,jc 8 7,ji 9 1 8,jp 10 6 9]
abbrev QE2:IL:=[jb 13 5 2,jc 14 13,ja 15 5,jl 16 8 14 15,jb 17 0 16,jc 18 17,ja 19 1,zt 20 18 19]
abbrev QE3:IL:=[yj 4]
abbrev QE4:IL:=[ja 11 5,jm 12 11 1,ja 5 12]
abbrev QE5:RC:=.seq (jQ QE1 (jX 10 0)) (.seq (.block 1 (jQ QE2 (.cond (.t 20) (jQ QE3 (.ret)) (.skip)))) (.reg QE4))
abbrev QE6:IL:=[jh 4]
abbrev r47:RC:=jQ QEZ (.seq (jQ QE0 (.block 0 (.loop QE5))) (jQ QE6 (.ret)))
abbrev o47:List RR:=[.tmp 4]
theorem k47:CT 47 21 r47 o47:=ck Tryz.func47 Tryz.ntmps47 (by decide +kernel)
abbrev QE7:IL:=[je 3 3 0,je 4 4 1,je 5 5 2,jh 6]
abbrev QE8:IL:=[jb 9 0 5,jc 10 9,yw 11 10 1,ja 12 11,jn 13 0 5 12,jt 14 13 12,yr 15 14 65535 12,jo 16 12 15,ja 17 16,jn 18 1 5 17,jt 19 18 17,D1 20 19 0 17,jo 21 17 20,ja 22 21,jn 23 1 5 22,jt 24 23 22,yr 25 24 6 22,jo 26 22 25]
abbrev QE9:IL:=[jh 6]
abbrev QFa:IL:=[jb 27 1 5,jc 28 27,⟨some 29,.val (.bin .num .leq (.t 28) (.c (.int .i64 2))),none⟩,ja 30 29,jk 31 3 5 30,ju 32 31 30,⟨some 33,.val (.bin .str .neq (.t 32) (.c (.str []))),(some (30,true))⟩,jj 34 30 33,ja 35 34,jn 36 1 5 35,jt 37 36 35,yr 38 37 2 35,jv 39 38 35,jk 40 2 5 39,ju 41 40 39,⟨some 42,.val (.bin .num .neq (.t 41) (.c (.int .u64 0))),(some (39,true))⟩,yx 43 39 42 35,jo 44 35 43]
abbrev QFb:IL:=[jh 6]
abbrev QFc:IL:=[jf 46 3 4,jb 47 0 5,jc 48 47,jy 49 45 46 48,ja 45 49,jx 50 45 0,jx 51 45 1,zh 7 7,jq 8 7 50,ja 8 51]
abbrev QFd:IL:=[ja 52 8,jz 53 52]
abbrev QFe:IL:=[yj 6]
abbrev QFf:IL:=[jb 54 5 7,jc 55 54,js 56 55 9,ja 57 56,jk 58 1 3 57,ju 59 58 57,jk 60 6 7 57,ju 61 60 57,ya 62 5 59 61 57,jk 63 1 62 57,ju 64 63 57,za 65 64 57,jj 66 57 65,ja 67 66,jk 68 3 7 67,ju 69 68 67,zv 70 69 5 67,jj 71 67 70,ja 72 71,jk 73 1 5 72,ju 74 73 72,yl 75 74 0 72,jj 76 72 75,ja 77 76,jk 78 2 5 77,ju 79 78 77,⟨some 80,.val (.bin .num .leq (.t 79) (.c (.int .u64 2147483647))),(some (77,true))⟩,jj 81 77 80,ja 82 81,zp 83 2 3 82,jk 84 6 7 82,ju 85 84 82,jk 86 2 5 82,ju 87 86 82,⟨some 88,.call (.f 76) [(.t 83),(.t 85),(.t 87)],(some (82,true))⟩,za 89 88 82,jj 90 82 89,ja 6 90]
abbrev r48:RC:=jQ QE7 (.seq (jQ QE8 (.cond (.t 26) (jQ QE9 (.ret)) (.skip))) (.seq (jQ QFa (.cond (.t 44) (jQ QFb (.ret)) (.skip))) (jQ QFc (.seq (jQ QFd (.cond (.t 53) (jQ QFe (.ret)) (.skip))) (jQ QFf (.ret))))))
abbrev o48:List RR:=[.tmp 6]
theorem k48:CT 48 91 r48 o48:=ck Tryz.func48 Tryz.ntmps48 (by decide +kernel)
abbrev QFg:IL:=[je 3 3 0,je 4 4 1,je 5 5 2,yk 6 6]
abbrev QFh:IL:=[jb 7 5 4,jc 8 7,js 9 8 10]
abbrev QFi:IL:=[jf 10 2 3,jb 11 6 4,jc 12 11,jf 13 7 5,yh 14 9 10 12 13,jq 7 6 14]
abbrev QFj:IL:=[jf 15 7 5,jr 16 53 15,jq 7 6 16]
abbrev r51:RC:=jQ QFg (.seq (jQ QFh (.cond (.t 9) (jQ QFi (.ret)) (.skip))) (jQ QFj (.ret)))
abbrev o51:List RR:=[.cell 6 (some 7)]
theorem k51:CT 51 17 r51 o51:=ck Tryz.func51 Tryz.ntmps51 (by decide +kernel)
abbrev QFk:IL:=[yf 2]
abbrev QFl:IL:=[yf 3]
abbrev QFm:IL:=[jd 4 0]
abbrev QFn:IL:=[ja 9 4,ja 10 0,ji 11 1 10,jp 12 9 11]
abbrev QFo:IL:=[yj 5]
abbrev QFp:IL:=[ja 15 4,jm 16 15 1,ja 6 16]
abbrev QFq:IL:=[ja 17 6,ja 18 0,ji 19 1 18,jp 20 17 19]
abbrev QFr:IL:=[ja 23 5,ja 24 23,jg 25 0 24,jg 26 4 24,ya 27 14 25 26 24,jk 28 0 27 24,Gt 29 7 28 24,jg 30 0 24,jg 31 6 24,ya 32 14 30 31 24,jk 33 0 32 24,Gt 34 7 33 24,Hb 35 78 29 34 24,zv 36 35 0 24,jj 37 24 36,ja 5 37]
abbrev QFs:IL:=[ja 21 6,jm 22 21 1,ja 6 22]
abbrev Tr:RC:=.seq (jQ QFq (jX 20 2)) (.seq (.block 3 (.draw QFr)) (.reg QFs))
abbrev QoU:IL:=[ja 38 5]
abbrev QoV:IL:=[jd 7 0]
abbrev QoW:IL:=[ja 39 7,ja 40 3,ji 41 1 40,jp 42 39 41,ja 43 42,jg 44 3 43,jg 45 7 43,ya 46 14 44 45 43,jk 47 0 46 43,Gt 48 7 47 43,jg 49 0 43,jg 50 4 43,ya 51 14 49 50 43,jk 52 0 51 43,Gt 53 7 52 43,Hb 54 78 48 53 43,⟨some 55,.val (.bin .num .lss (.t 54) (.c (.int .i64 0))),(some (43,true))⟩,jj 56 43 55]
abbrev QoX:IL:=[ja 57 7,jm 58 57 1,ja 7 58]
abbrev Ts:RC:=.seq (jD QoW (jX 56 4)) (.block 5 (.reg QoX))
abbrev QoY:IL:=[ja 59 0,ja 60 4,jl 61 14 59 60,yd 62 14 61,⟨some 63,.bslv 63 14 1 [.int .i64 0,.int .u64 0,.str [],.nils,.nils,.nils,.nils,.int .i64 0,.int .u64 0,.str [],.nils,.nils,.nils,.nils] [(0,14,(.t 62))],none⟩,ja 64 3,ja 65 7,⟨some 66,.val (.slcp (some 14) (.t 64) (some (.t 65)) none none),none⟩,yp 67 14 256 77 63 66,ja 8 67]
abbrev QoZ:IL:=[⟨some 68,.bsl0 68 14,none⟩,ja 69 3,ja 70 7,Bd 71 14 69 70,yp 72 14 256 77 68 71,ja 73 8,yp 74 14 256 77 72 73,ja 3 74]
abbrev QFt:IL:=[ja 13 4,jm 14 13 1,ja 4 14]
abbrev QFu:RC:=.seq (jQ QFn (jX 12 0)) (.seq (.block 1 (jQ QFo (.seq (jQ QFp (.block 2 (.loop Tr))) (jQ QoU (.cond (.t 38) (jQ QoV (.seq (.block 4 (.loop Ts)) (jD QoY (.reg QoZ)))) (.skip)))))) (.gho (.pub 3 68) (.reg QFt)))
abbrev Qo0:IL:=[ja 75 3,ja 2 75]
abbrev r52:RC:=jQ QFk (jQ QFl (.gho (.lst 3) (.seq (jQ QFm (.block 0 (.loop QFu))) (jQ Qo0 (.ret)))))
abbrev o52:List RR:=[.tmp 2]
theorem k52:CT 52 76 r52 o52:=ck Tryz.func52 Tryz.ntmps52 (by decide +kernel)
abbrev QFv:IL:=[je 1 1 0,yk 2 2]
abbrev QFw:IL:=[jb 3 0 1,jc 4 3,js 5 4 6,ja 6 5,jk 7 1 1 6,ju 8 7 6,zg 9 79 8 6,yl 10 9 0 6,jj 11 6 10]
abbrev QFx:IL:=[jb 12 1 1,⟨none,.store 1 (.t 12) (.c (.int .u64 9221120237041090560)),none⟩]
abbrev QFy:IL:=[jf 13 7 1,jq 7 2 13]
abbrev r53:RC:=jQ QFv (.seq (jQ QFw (.cond (.t 11) (.reg QFx) (.skip))) (jQ QFy (.ret)))
abbrev o53:List RR:=[.cell 2 (some 7)]
theorem k53:CT 53 14 r53 o53:=ck Tryz.func53 Tryz.ntmps53 (by decide +kernel)
abbrev QFz:IL:=[je 1 1 0,jh 2]
abbrev QFA:IL:=[jb 3 0 1,jc 4 3,jr 5 80 4,ja 6 5,jk 7 1 1 6,ju 8 7 6,⟨some 9,.val (.bin .num .eql (.t 8) (.c (.int .u64 0))),(some (6,true))⟩,jj 10 6 9,ja 11 10,jk 12 2 1 11,ju 13 12 11,⟨some 14,.val (.bin .str .eql (.t 13) (.c (.str []))),(some (11,true))⟩,jj 15 11 14,ja 16 15,zp 17 7 1 16,zg 18 81 17 16,jj 19 16 18,ja 2 19]
abbrev r54:RC:=jQ QFz (jQ QFA (.ret))
abbrev o54:List RR:=[.tmp 2]
theorem k54:CT 54 20 r54 o54:=ck Tryz.func54 Tryz.ntmps54 (by decide +kernel)
abbrev QFB:IL:=[je 1 1 0,yv 2]
abbrev QFC:IL:=[jf 3 6 1,jr 4 109 3,jz 5 4]
abbrev QFD:IL:=[yv 2]
abbrev QFE:IL:=[jb 6 0 1,jc 7 6,jb 8 1 1,jc 9 8,jb 10 2 1,jc 11 10,⟨some 12,.val (.slc none (.t 7) (some (.t 9)) (some (.t 11)) none),none⟩,ja 2 12]
abbrev r62:RC:=jQ QFB (.seq (jQ QFC (.cond (.t 5) (jQ QFD (.ret)) (.skip))) (jQ QFE (.ret)))
abbrev o62:List RR:=[.tmp 2]
theorem k62:CT 62 13 r62 o62:=ck Tryz.func62 Tryz.ntmps62 (by decide +kernel)
abbrev QFF:IL:=[je 1 1 0,jd 2 0,jd 3 0,zm 4 4,jd 5 0]
abbrev QFG:IL:=[jf 10 6 1,jr 11 110 10,ja 9 11,jx 12 9 0,jx 13 9 1,jx 14 9 2,zm 7 7,ja 6 12,jq 6 7 13,ja 8 14]
abbrev QFH:IL:=[ja 15 8,yc 16 15 0]
abbrev QFI:IL:=[jw 17 0 1 6 1,ja 18 8,jd 2 0,jd 3 0,yg 0 4 6 4 17,ja 5 18]
abbrev QFJ:IL:=[ja 19 6,⟨some 20,.val (.bin .num .rem (.t 19) (.c (.int .u64 8))),none⟩,zz 21 20 7]
abbrev QFK:IL:=[jw 22 0 1 6 1,jd 2 0,jd 3 0,yg 0 4 6 4 22,jd 5 5]
abbrev QFL:IL:=[ja 23 6,⟨some 24,.val (.bin .num .quo (.t 23) (.c (.int .u64 8))),none⟩,MP 25 24 1,ja 26 25,jv 27 6 26,⟨some 28,.val (.bin .num .quo (.t 27) (.c (.int .u64 8))),(some (26,false))⟩,⟨some 29,.val (.bin .num .gtr (.t 28) (.c (.int .u64 65535))),(some (26,false))⟩,jo 30 26 29]
abbrev QFM:IL:=[jw 31 0 1 6 1,jd 2 0,jd 3 0,yg 0 4 6 4 31,jd 5 6]
abbrev QFN:IL:=[ja 32 6,⟨some 33,.val (.bin .num .quo (.t 32) (.c (.int .u64 8))),none⟩,Gq 34 33,ja 35 6,⟨some 36,.val (.bin .num .rem (.t 35) (.c (.int .u64 8))),none⟩,Gq 37 36,jw 38 0 7 6 7,ja 2 34,ja 3 37,yg 0 4 6 4 38,jd 5 0]
abbrev r63:RC:=jQ QFF (jQ QFG (.seq (jQ QFH (.cond (.t 16) (jD QFI (.ret)) (.skip))) (.seq (jQ QFJ (.cond (.t 21) (jD QFK (.ret)) (.skip))) (.seq (jQ QFL (.cond (.t 30) (jD QFM (.ret)) (.skip))) (jD QFN (.ret))))))
abbrev o63:List RR:=[.tmp 2,.tmp 3,.cell 4 (some 6),.tmp 5]
theorem k63:CT 63 39 r63 o63:=ck Tryz.func63 Tryz.ntmps63 (by decide +kernel)
abbrev QFO:IL:=[je 2 2 0,zm 4 4,jd 5 0]
abbrev QFP:IL:=[ja 6 1,yw 7 6 0]
abbrev QFQ:IL:=[jf 8 6 2,jq 6 4 8,jd 5 1]
abbrev QFR:IL:=[ja 9 1,jb 10 4 2,jc 11 10,zy 12 9 11]
abbrev QFS:IL:=[jf 13 6 2,jq 6 4 13,jd 5 3]
abbrev QFT:IL:=[jb 14 4 2,jc 15 14,ja 16 1,N3 17 15 16,jb 18 4 2,jq 1 18 17]
abbrev QFU:IL:=[jf 19 6 2,jq 6 4 19,jd 5 0]
abbrev r64:RC:=jQ QFO (.seq (jQ QFP (.cond (.t 7) (jQ QFQ (.ret)) (.skip))) (.seq (jQ QFR (.cond (.t 12) (jQ QFS (.ret)) (.skip))) (jQ QFT (jQ QFU (.ret)))))
abbrev o64:List RR:=[.cell 4 (some 6),.tmp 5]
theorem k64:CT 64 20 r64 o64:=ck Tryz.func64 Tryz.ntmps64 (by decide +kernel)
abbrev QFV:IL:=[je 2 2 0,je 3 3 1,zs 4 4,zm 5 5,jd 6 0]
abbrev QFW:IL:=[jb 13 1 2,jc 14 13,js 15 14 2]
abbrev QFX:IL:=[jf 17 6 3,jr 18 111 17,ja 16 18,jx 19 16 0,jx 20 16 1,jx 21 16 2,zm 8 8,ja 7 19,jq 6 8 20,ja 9 21]
abbrev QFY:IL:=[ja 22 7,jb 23 2 2,jq 1 23 22]
abbrev QFZ:IL:=[jw 24 0 2 4 2,jw 25 0 8 6 8,ja 26 9,yg 0 4 4 4 24,yg 0 5 6 5 25,ja 6 26]
abbrev QF0:IL:=[jf 28 6 3,jr 29 110 28,ja 27 29,jx 30 27 0,jx 31 27 1,jx 32 27 2,zm 11 11,ja 10 30,jq 6 11 31,ja 12 32]
abbrev QF1:IL:=[ja 33 12,yc 34 33 0,ja 35 34,jn 36 1 2 35,jt 37 36 35,zd 38 112 37 35,jo 39 35 38]
abbrev QF2:IL:=[ja 40 10,jb 41 2 2,jq 1 41 40]
abbrev QF3:IL:=[jw 42 0 2 4 2,jw 43 0 11 6 11,ja 44 12,yg 0 4 4 4 42,yg 0 5 6 5 43,ja 6 44]
abbrev QF4:IL:=[ja 45 10,jf 46 6 11,jr 47 33 46,Ba 48 47,zy 49 45 48]
abbrev Qo2:IL:=[jw 50 0 2 4 2,jw 51 0 3 6 3,yg 0 4 4 4 50,yg 0 5 6 5 51,jd 6 4]
abbrev Qo3:IL:=[jb 52 1 2,jc 53 52,js 54 53 3,ja 55 54,jg 56 10 55,⟨some 57,.val (.cvi .i64 (.t 56)),(some (55,true))⟩,jk 58 5 11 55,ju 59 58 55,⟨some 60,.val (.bin .num .gtr (.t 57) (.t 59)),(some (55,true))⟩,jj 61 55 60,ja 62 61,jn 63 1 2 62,jt 64 63 62,D0 65 64 3 62,jv 66 65 62,jg 67 10 66,⟨some 68,.val (.bin .num .gtr (.t 67) (.c (.int .u64 65536))),(some (66,true))⟩,yx 69 66 68 62,jo 70 62 69]
abbrev Qo4:IL:=[jw 71 0 2 4 2,jw 72 0 3 6 3,yg 0 4 4 4 71,yg 0 5 6 5 72,jd 6 3]
abbrev Qo5:IL:=[jb 73 0 11,jc 74 73,jb 75 1 11,jc 76 75,jb 77 1 11,jc 78 77,ja 79 10,Gq 80 79,yi 81 78 80,⟨some 82,.val (.slc none (.t 74) (some (.t 76)) (some (.t 81)) none),none⟩,jb 83 3 2,jq 1 83 82]
abbrev Qo6:IL:=[jb 84 1 11,jc 85 84,ja 86 10,Gq 87 86,yi 88 85 87,jb 89 1 11,jq 1 89 88]
abbrev Qo7:IL:=[jw 90 0 2 4 2,jw 91 0 11 6 11,yg 0 4 4 4 90,yg 0 5 6 5 91,jd 6 0]
abbrev r65:RC:=jQ QFV (.seq (jQ QFW (.cond (.t 15) (jQ QFX (jQ QFY (jD QFZ (.ret)))) (.skip))) (jQ QF0 (.seq (jQ QF1 (.cond (.t 39) (jQ QF2 (jD QF3 (.ret))) (.skip))) (.seq (jQ QF4 (.cond (.t 49) (jD Qo2 (.ret)) (.skip))) (.seq (jQ Qo3 (.cond (.t 70) (jD Qo4 (.ret)) (.skip))) (jQ Qo5 (jQ Qo6 (jD Qo7 (.ret)))))))))
abbrev o65:List RR:=[.cell 4 (some 4),.cell 5 (some 6),.tmp 6]
theorem k65:CT 65 92 r65 o65:=ck Tryz.func65 Tryz.ntmps65 (by decide +kernel)
abbrev QF5:IL:=[jh 2]
abbrev QF6:IL:=[ja 5 0,jr 6 120 5,jz 7 6]
abbrev QF7:IL:=[jh 2]
abbrev QF8:IL:=[ja 8 0,⟨some 9,.val (.bin .str .neq (.t 8) (.c (.str []))),none⟩]
abbrev QF9:IL:=[ja 11 0,jr 12 121 11,ja 10 12,jx 13 10 0,jx 14 10 1,ja 3 13,ja 4 14]
abbrev QGa:IL:=[ja 15 4,jr 16 122 15]
abbrev QGb:IL:=[jh 2]
abbrev QGc:IL:=[ja 17 3,ja 0 17]
abbrev QGd:RC:=.seq (jQ QF8 (jX 9 0)) (.block 1 (jQ QF9 (.seq (jQ QGa (.cond (.t 16) (jQ QGb (.ret)) (.skip))) (.reg QGc))))
abbrev QGe:IL:=[yj 2]
abbrev r68:RC:=jQ QF5 (.seq (jQ QF6 (.cond (.t 7) (jQ QF7 (.ret)) (.skip))) (.seq (.block 0 (.loop QGd)) (jQ QGe (.ret))))
abbrev o68:List RR:=[.tmp 2]
theorem k68:CT 68 18 r68 o68:=ck Tryz.func68 Tryz.ntmps68 (by decide +kernel)
abbrev QGf:IL:=[jh 2]
abbrev QGg:IL:=[ja 3 0,jr 4 123 3,ja 5 4,jg 6 0 5,zg 7 122 6 5,za 8 7 5,jj 9 5 8,ja 2 9]
abbrev r69:RC:=jQ QGf (jQ QGg (.ret))
abbrev o69:List RR:=[.tmp 2]
theorem k69:CT 69 10 r69 o69:=ck Tryz.func69 Tryz.ntmps69 (by decide +kernel)
abbrev QGh:IL:=[jh 4]
abbrev QGi:IL:=[jd 5 0]
abbrev QGj:IL:=[ja 6 5,ja 7 0,ji 8 1 7,jp 9 6 8]
abbrev QGk:IL:=[ja 12 0,ja 13 5,jl 14 2 12 13,jb 15 0 14,jc 16 15,ja 17 1,Bf 18 16 17,ja 19 18,jg 20 1 19,jg 21 0 19,jg 22 5 19,ya 23 2 21 22 19,jk 24 1 23 19,ju 25 24 19,Bg 26 20 25 19,jj 27 19 26]
abbrev QGl:IL:=[yj 4]
abbrev QGm:IL:=[ja 10 5,jm 11 10 1,ja 5 11]
abbrev QGn:RC:=.seq (jQ QGj (jX 9 0)) (.seq (.block 1 (jQ QGk (.cond (.t 27) (jQ QGl (.ret)) (.skip)))) (.reg QGm))
abbrev QGo:IL:=[jh 4]
abbrev r70:RC:=jQ QGh (.seq (jQ QGi (.block 0 (.loop QGn))) (jQ QGo (.ret)))
abbrev o70:List RR:=[.tmp 4]
theorem k70:CT 70 28 r70 o70:=ck Tryz.func70 Tryz.ntmps70 (by decide +kernel)
abbrev QGp:IL:=[jd 4 0]
abbrev QGq:IL:=[ja 6 0,ji 7 1 6,yn 8 7 8]
abbrev QGr:IL:=[jd 4 3]
abbrev QGs:IL:=[jd 5 0]
abbrev QGt:IL:=[ja 9 5,ja 10 0,ji 11 1 10,jp 12 9 11]
abbrev QGu:IL:=[ja 15 0,ja 16 5,jl 17 8 15 16,jb 18 0 17,jc 19 18,jr 20 124 19,js 21 20 0]
abbrev QGv:IL:=[jd 4 8]
abbrev QGw:IL:=[ja 22 0,ja 23 5,jl 24 8 22 23,jb 25 0 24,jc 26 25,ja 27 1,jy 28 125 26 27,jz 29 28]
abbrev QGx:IL:=[jd 4 1]
abbrev Qo9:IL:=[ja 30 0,ja 31 5,jl 32 8 30 31,jf 33 8 32,jr 34 126 33,jz 35 34]
abbrev Qpa:IL:=[jd 4 12]
abbrev Qpb:IL:=[ja 36 5,yn 37 36 0,ja 38 37,jg 39 0 38,jg 40 5 38,ya 41 8 39 40 38,jk 42 0 41 38,ym 43 42 38,jg 44 0 38,jg 45 5 38,D3 46 45 1 38,ya 47 8 44 46 38,jk 48 0 47 38,ym 49 48 38,⟨some 50,.val (.bin .str .lss (.t 43) (.t 49)),(some (38,true))⟩,jj 51 38 50]
abbrev Qpc:IL:=[jd 4 11]
abbrev Qpd:IL:=[ja 52 5,yn 53 52 0,ja 54 53,jg 55 0 54,jg 56 5 54,ya 57 8 55 56 54,jk 58 0 57 54,ym 59 58 54,jg 60 0 54,jg 61 5 54,D3 62 61 1 54,ya 63 8 60 62 54,jk 64 0 63 54,ym 65 64 54,MH 66 59 65 54,jj 67 54 66]
abbrev Qpe:IL:=[jd 4 9]
abbrev QGy:IL:=[ja 13 5,jm 14 13 1,ja 5 14]
abbrev QGz:RC:=.seq (jQ QGt (jX 12 0)) (.seq (.block 1 (.seq (jQ QGu (.cond (.t 21) (jQ QGv (.ret)) (.skip))) (.seq (jQ QGw (.cond (.t 29) (jQ QGx (.ret)) (.skip))) (.seq (jQ Qo9 (.cond (.t 35) (jQ Qpa (.ret)) (.skip))) (.seq (jD Qpb (.cond (.t 51) (jQ Qpc (.ret)) (.skip))) (jD Qpd (.cond (.t 67) (jQ Qpe (.ret)) (.skip)))))))) (.reg QGy))
abbrev Qpf:IL:=[jd 4 0]
abbrev r71:RC:=jQ QGp (.seq (jQ QGq (.cond (.t 8) (jQ QGr (.ret)) (.skip))) (.seq (jQ QGs (.block 0 (.loop QGz))) (jQ Qpf (.ret))))
abbrev o71:List RR:=[.tmp 4]
theorem k71:CT 71 68 r71 o71:=ck Tryz.func71 Tryz.ntmps71 (by decide +kernel)
abbrev QGA:IL:=[je 1 1 0,jh 2]
abbrev QGB:IL:=[jd 3 0]
abbrev QGC:IL:=[jd 4 0]
abbrev QGD:IL:=[ja 6 4,jb 7 1 1,jc 8 7,ji 9 1 8,jp 10 6 9]
abbrev QGE:IL:=[jb 13 1 1,jc 14 13,ja 15 4,jl 16 8 14 15,jb 17 7 16,jc 18 17,ja 5 18]
abbrev QGF:IL:=[ja 20 5,ja 21 3,zt 22 20 21,ja 19 22]
abbrev QGG:IL:=[ja 23 3,jm 24 23 1,ja 3 24]
abbrev QGH:IL:=[ja 26 5,yc 27 26 (-1),ja 28 27,jg 29 4 28,yl 30 29 0 28,jg 31 30 28,jn 32 1 1 31,jt 33 32 31,jv 34 4 31,⟨some 35,.val (.bin .num .sub (.t 34) (.c (.int .i64 1))),(some (31,false))⟩,yz 36 8 33 35 31,jn 37 7 36 31,jt 38 37 31,jv 39 5 31,zu 40 38 39 31,zf 41 31 40 28,jj 42 28 41,ja 25 42]
abbrev QGI:IL:=[jh 2]
abbrev QGJ:IL:=[ja 11 4,jm 12 11 1,ja 4 12]
abbrev QGK:RC:=.seq (jQ QGD (jX 10 0)) (.seq (.block 1 (jQ QGE (.block 2 (jQ QGF (.cond (.t 19) (.reg QGG) (jQ QGH (.cond (.t 25) (jQ QGI (.ret)) (.skip)))))))) (.reg QGJ))
abbrev Qpg:IL:=[jb 43 2 1,jc 44 43,ja 45 3,zt 46 44 45,ja 2 46]
abbrev r72:RC:=jQ QGA (jQ QGB (.seq (jQ QGC (.block 0 (.loop QGK))) (jQ Qpg (.ret))))
abbrev o72:List RR:=[.tmp 2]
theorem k72:CT 72 47 r72 o72:=ck Tryz.func72 Tryz.ntmps72 (by decide +kernel)
def Tt:IL:=[je 2 2 0,je 3 3 1,jh 4]
def Tu:IL:=[jb 6 2 3,jc 7 6,jr 8 127 7,jz 9 8,ja 10 9,jn 11 2 3 10,jt 12 11 10,ye 13 0 12 10,yr 14 13 4096 10,jo 15 10 14,ja 16 15,jn 17 3 3 16,jt 18 17 16,D1 19 18 1 16,jo 20 16 19,ja 21 20,jn 22 3 3 21,jt 23 22 21,yr 24 23 5 21,jo 25 21 24,ja 26 25,jn 27 5 3 26,jt 28 27 26,D1 29 28 1 26,jo 30 26 29,ja 31 30,jn 32 5 3 31,jt 33 32 31,yr 34 33 10 31,jo 35 31 34]
def Tv:IL:=[jh 4]
def Tw:IL:=[jb 36 4 3,jc 37 36,yo 38 37 1,ja 39 38,jk 40 4 3 39,ju 41 40 39,ze 42 41 5 39,jj 43 39 42,ja 44 43,jn 45 4 3 44,jt 46 45 44,yq 47 46 7 44,jo 48 44 47,ja 5 48]
def Tx:IL:=[jb 49 3 3,jc 50 49,yc 51 50 5]
def TA:IL:=[jb 52 4 3,jc 53 52,js 54 53 0,ja 5 54]
def Ce:IL:=[ja 55 5,ja 56 55,zp 57 2 2 56,zp 58 8 3 56,Hb 59 128 57 58 56,jj 60 56 59,ja 61 60,jk 62 7 3 61,ju 63 62 61,yl 64 63 (-1) 61,jg 65 64 61,jn 66 3 3 65,jt 67 66 65,yq 68 67 2 65,zf 69 65 68 61,jj 70 61 69,ja 4 70]
def r73:RC:=jQ Tt (.seq (jQ Tu (.cond (.t 35) (jQ Tv (.ret)) (.skip))) (jQ Tw (.seq (jQ Tx (.cond (.t 51) (.reg TA) (.skip))) (jQ Ce (.ret)))))
def o73:List RR:=[.tmp 4]
theorem k73:CT 73 71 r73 o73:=ck Tryz.func73 Tryz.ntmps73 (by decide +kernel)
abbrev QGL:IL:=[je 4 4 0,je 5 5 1,jd 8 0]
abbrev QGM:IL:=[jd 9 0]
abbrev QGN:IL:=[ja 13 9,ja 14 2,ji 15 1 14,jp 16 13 15]
abbrev QGO:IL:=[jw 19 0 4 2 4,jb 20 4 5,yb 21 0 5 20,ja 22 2,ja 23 9,jl 24 14 22 23,jb 25 0 24,yd 26 7 25,⟨some 27,.call (.f 129) [(.t 19),(.t 21),(.c (.int .i64 (-1))),(.t 26)],none⟩,ja 10 27]
abbrev QGP:IL:=[ja 28 10,yc 29 28 0]
abbrev QGQ:IL:=[ja 30 10,ja 8 30]
abbrev QGR:IL:=[jd 11 0]
abbrev QGS:IL:=[ja 31 11,ja 32 9,jp 33 31 32]
abbrev Qph:IL:=[ja 36 2,ja 37 11,jl 38 14 36 37,jb 39 0 38,yd 40 7 39,ja 41 2,ja 42 9,jl 43 14 41 42,jb 44 0 43,yd 45 7 44,jy 46 130 40 45]
abbrev Qpi:IL:=[jd 8 9]
abbrev QGT:IL:=[ja 34 11,jm 35 34 1,ja 11 35]
abbrev TB:RC:=.seq (jQ QGS (jX 33 2)) (.seq (.block 3 (jD Qph (.cond (.t 46) (jQ Qpi (.ret)) (.skip)))) (.reg QGT))
abbrev Qpj:IL:=[jw 47 0 4 2 4,jw 48 0 5 8 5,ja 49 2,ja 50 9,jl 51 14 49 50,jb 52 7 51,yd 53 7 52,ja 54 3,zl 55 75 47 48 53 54,ja 12 55]
abbrev Qpk:IL:=[ja 56 12,yc 57 56 0]
abbrev Qpl:IL:=[ja 58 12,ja 8 58]
abbrev QGU:IL:=[ja 17 9,jm 18 17 1,ja 9 18]
abbrev QGV:RC:=.seq (jQ QGN (jX 16 0)) (.seq (.block 1 (.seq (jD QGO (jQ QGP (.cond (.t 29) (jQ QGQ (.ret)) (.skip)))) (.seq (jQ QGR (.block 2 (.loop TB))) (jD Qpj (jQ Qpk (.cond (.t 57) (jQ Qpl (.ret)) (.skip))))))) (.reg QGU))
abbrev Qpm:IL:=[jd 8 0]
abbrev r74:RC:=jQ QGL (.seq (jQ QGM (.block 0 (.loop QGV))) (jQ Qpm (.ret)))
abbrev o74:List RR:=[.tmp 8]
theorem k74:CT 74 59 r74 o74:=ck Tryz.func74 Tryz.ntmps74 (by decide +kernel)
abbrev QGW:IL:=[je 4 4 0,je 5 5 1,je 6 6 2,jd 8 0]
abbrev QGX:IL:=[jb 9 5 5,jc 10 9,js 11 10 10]
abbrev QGY:IL:=[jf 12 2 4,jb 13 6 5,jc 14 13,jf 15 7 6,ja 16 3,jm 17 16 1,zl 18 20 12 14 15 17,ja 8 18]
abbrev QGZ:IL:=[jf 19 2 4,jb 20 5 5,jc 21 20,jb 22 6 5,jc 23 22,jf 24 7 6,zl 25 129 19 21 23 24,ja 8 25]
abbrev r75:RC:=jQ QGW (.seq (jQ QGX (.cond (.t 11) (jQ QGY (.ret)) (.skip))) (jQ QGZ (.ret)))
abbrev o75:List RR:=[.tmp 8]
theorem k75:CT 75 26 r75 o75:=ck Tryz.func75 Tryz.ntmps75 (by decide +kernel)
abbrev QG0:IL:=[je 3 3 0,jh 6]
abbrev QG1:IL:=[ja 9 1,yw 10 9 0,ja 11 10,jv 12 1 11,jn 13 1 3 11,jt 14 13 11,ye 15 1 14 11,MJ 16 12 15 11,jo 17 11 16,ja 18 17,jv 19 2 18,⟨some 20,.val (.bin .num .gtr (.t 19) (.c (.int .u64 2147483647))),(some (18,false))⟩,jo 21 18 20]
abbrev QG2:IL:=[jh 6]
abbrev QG3:IL:=[jb 22 1 3,jc 23 22,ja 24 1,jl 25 5 23 24,jb 26 1 25,jc 27 26,ja 7 27]
abbrev QG4:IL:=[jd 8 0]
abbrev QG5:IL:=[ja 28 8,jb 29 1 3,jc 30 29,ja 31 1,jl 32 5 30 31,jb 33 2 32,jc 34 33,ji 35 1 34,jp 36 28 35]
abbrev QG6:IL:=[ja 39 7,ja 40 39,jn 41 1 3 40,jt 42 41 40,jv 43 1 40,yz 44 5 42 43 40,jn 45 2 44 40,jt 46 45 40,jv 47 8 40,yz 48 3 46 47 40,jn 49 1 48 40,jt 50 49 40,jv 51 2 40,⟨some 52,.val (.cvi .i64 (.t 51)),(some (40,false))⟩,⟨some 53,.val (.bin .num .eql (.t 50) (.t 52)),(some (40,false))⟩,jo 54 40 53,ja 7 54]
abbrev QG7:IL:=[ja 37 8,jm 38 37 1,ja 8 38]
abbrev QG8:RC:=.seq (jQ QG5 (jX 36 0)) (.seq (.block 1 (.reg QG6)) (.reg QG7))
abbrev QG9:IL:=[ja 55 7,ja 6 55]
abbrev r76:RC:=jQ QG0 (.seq (jQ QG1 (.cond (.t 21) (jQ QG2 (.ret)) (.skip))) (jQ QG3 (.seq (jQ QG4 (.block 0 (.loop QG8))) (jQ QG9 (.ret)))))
abbrev o76:List RR:=[.tmp 6]
theorem k76:CT 76 56 r76 o76:=ck Tryz.func76 Tryz.ntmps76 (by decide +kernel)
abbrev QHa:IL:=[jd 2 0]
abbrev QHb:IL:=[ja 5 0,⟨some 6,.val (.bin .num .and (.t 5) (.c (.int .u64 9218868437227405312))),none⟩,ja 7 0,⟨some 8,.val (.bin .num .and (.t 7) (.c (.int .u64 4503599627370495))),none⟩,ja 3 6,ja 4 8]
abbrev QHc:IL:=[ja 10 3,zz 11 10 9218868437227405312,ja 12 11,jg 13 4 12,⟨some 14,.val (.bin .num .neq (.t 13) (.c (.int .u64 0))),(some (12,true))⟩,jj 15 12 14,ja 9 15]
abbrev QHd:IL:=[jd 2 0]
abbrev QHe:IL:=[ja 17 3,zz 18 17 9218868437227405312,ja 16 18]
abbrev QHf:IL:=[jd 2 1]
abbrev QHg:IL:=[ja 20 3,zz 21 20 0,ja 22 21,jg 23 4 22,⟨some 24,.val (.bin .num .eql (.t 23) (.c (.int .u64 0))),(some (22,true))⟩,jj 25 22 24,ja 19 25]
abbrev QHh:IL:=[jd 2 2]
abbrev QHi:IL:=[ja 27 3,zz 28 27 0,ja 26 28]
abbrev QHj:IL:=[jd 2 3]
abbrev Qpn:IL:=[jd 2 4]
abbrev r77:RC:=jQ QHa (.seq (jQ QHb (.block 0 (jQ QHc (.cond (.t 9) (jQ QHd (.ret)) (jQ QHe (.cond (.t 16) (jQ QHf (.ret)) (jQ QHg (.cond (.t 19) (jQ QHh (.ret)) (jQ QHi (.cond (.t 26) (jQ QHj (.ret)) (.skip))))))))))) (jQ Qpn (.ret)))
abbrev o77:List RR:=[.tmp 2]
theorem k77:CT 77 29 r77 o77:=ck Tryz.func77 Tryz.ntmps77 (by decide +kernel)
abbrev QHk:IL:=[je 2 2 0,je 3 3 1,jd 4 0]
abbrev QHl:IL:=[jb 6 0 2,jc 7 6,jb 8 0 3,jc 9 8,zq 10 7 9]
abbrev QHm:IL:=[jb 11 0 2,jc 12 11,jb 13 0 3,jc 14 13,jy 15 131 12 14,ja 4 15]
abbrev QHn:IL:=[jb 16 0 2,jc 17 16]
abbrev QHo:IL:=[js 19 17 11,ja 18 19]
abbrev QHp:IL:=[jb 20 3 2,jc 21 20,jb 22 3 3,jc 23 22,jy 24 132 21 23,ja 4 24]
abbrev QHq:IL:=[js 26 17 12,ja 25 26]
abbrev QHr:IL:=[jb 27 4 2,jc 28 27,jb 29 4 3,jc 30 29,jy 31 133 28 30,ja 4 31]
abbrev QHs:IL:=[js 33 17 10,ja 32 33]
abbrev QHt:IL:=[jb 34 5 2,jc 35 34,jb 36 5 3,jc 37 36,jy 38 134 35 37,ja 5 38]
abbrev Qpo:IL:=[ja 39 5,yc 40 39 0]
abbrev Qpp:IL:=[ja 41 5,ja 4 41]
abbrev Qpq:IL:=[jb 42 6 2,jc 43 42,jb 44 6 3,jc 45 44,jy 46 135 43 45,ja 4 46]
abbrev Qpr:IL:=[jf 47 7 2,jf 48 7 3,jy 49 136 47 48,ja 4 49]
abbrev r78:RC:=jQ QHk (.seq (jQ QHl (.cond (.t 10) (jQ QHm (.ret)) (.skip))) (.seq (jQ QHn (.block 0 (jQ QHo (.cond (.t 18) (jQ QHp (.ret)) (jQ QHq (.cond (.t 25) (jQ QHr (.ret)) (jQ QHs (.cond (.t 32) (.seq (jQ QHt (jQ Qpo (.cond (.t 40) (jQ Qpp (.ret)) (.skip)))) (jQ Qpq (.ret))) (.skip))))))))) (jQ Qpr (.ret))))
abbrev o78:List RR:=[.tmp 4]
theorem k78:CT 78 50 r78 o78:=ck Tryz.func78 Tryz.ntmps78 (by decide +kernel)
abbrev QHu:IL:=[jd 2 0]
abbrev QHv:IL:=[ja 4 0,⟨some 5,.val (.bin .num .rem (.t 4) (.c (.int .u64 9223372036854775808))),none⟩,ja 3 5]
abbrev QHw:IL:=[ja 7 3,⟨some 8,.val (.bin .num .gtr (.t 7) (.c (.int .u64 9218868437227405312))),none⟩,ja 6 8]
abbrev QHx:IL:=[jd 2 0]
abbrev QHy:IL:=[ja 10 3,zz 11 10 9218868437227405312,ja 9 11]
abbrev QHz:IL:=[jd 2 1]
abbrev QHA:IL:=[ja 13 3,zz 14 13 0,ja 12 14]
abbrev QHB:IL:=[jd 2 2]
abbrev QHC:IL:=[ja 16 3,MP 17 16 4503599627370496,ja 15 17]
abbrev QHD:IL:=[jd 2 3]
abbrev Qps:IL:=[jd 2 4]
abbrev r79:RC:=jQ QHu (jQ QHv (.seq (.block 0 (jQ QHw (.cond (.t 6) (jQ QHx (.ret)) (jQ QHy (.cond (.t 9) (jQ QHz (.ret)) (jQ QHA (.cond (.t 12) (jQ QHB (.ret)) (jQ QHC (.cond (.t 15) (jQ QHD (.ret)) (.skip)))))))))) (jQ Qps (.ret))))
abbrev o79:List RR:=[.tmp 2]
theorem k79:CT 79 18 r79 o79:=ck Tryz.func79 Tryz.ntmps79 (by decide +kernel)
abbrev QHE:IL:=[jh 2]
abbrev QHF:IL:=[ja 3 0,yo 4 3 1,ja 5 4,jg 6 0 5,ze 7 6 9 5,jj 8 5 7,ja 2 8]
abbrev r80:RC:=jQ QHE (jQ QHF (.ret))
abbrev o80:List RR:=[.tmp 2]
theorem k80:CT 80 9 r80 o80:=ck Tryz.func80 Tryz.ntmps80 (by decide +kernel)
abbrev QHG:IL:=[je 1 1 0,jh 2]
abbrev QHH:IL:=[jb 3 3 1,jc 4 3,ji 5 1 4,js 6 5 0,ja 7 6,jk 8 4 1 7,ju 9 8 7,ys 10 1 9 7,yl 11 10 0 7,jj 12 7 11,ja 13 12,jk 14 5 1 13,ju 15 14 13,ys 16 1 15 13,yl 17 16 0 13,jj 18 13 17,ja 19 18,jk 20 6 1 19,ju 21 20 19,ys 22 1 21 19,yl 23 22 0 19,jj 24 19 23,ja 2 24]
abbrev r81:RC:=jQ QHG (jQ QHH (.ret))
abbrev o81:List RR:=[.tmp 2]
theorem k81:CT 81 25 r81 o81:=ck Tryz.func81 Tryz.ntmps81 (by decide +kernel)
abbrev Qpt:IL:=[je 2 2 0,je 3 3 1,jd 4 0]
abbrev Qpu:IL:=[jb 5 0 2,jc 6 5,jb 7 0 3,jc 8 7,jy 9 101 6 8,ja 4 9]
abbrev QLA:RC:=jQ Qpt (jQ Qpu (.ret))
abbrev QLB:List RR:=[.tmp 4]
theorem QLC:CT 100 10 QLA QLB:=ck Tryz.func100 Tryz.ntmps100 (by decide +kernel)
abbrev Qpv:IL:=[yv 2]
abbrev Qpw:IL:=[⟨some 5,.mk 5 5 1 1 [.int .u8 0] (.c (.int .i64 8)) (.c (.int .i64 8)),none⟩,ja 3 5]
abbrev Qpx:IL:=[ja 6 3,ji 7 1 6,jd 8 0]
abbrev Qpy:IL:=[jp 9 8 7]
abbrev Qpz:IL:=[ja 10 8,ja 4 10]
abbrev QpA:IL:=[ja 11 3,ja 12 4,ja 13 0,ja 14 4,MM 15 8 14,⟨some 16,.val (.bin .num .shr (.t 13) (.t 15)),none⟩,⟨some 17,.val (.cvi .u8 (.t 16)),none⟩,jl 18 1 11 12,jq 1 18 17]
abbrev QpB:IL:=[jm 19 8 1,ja 8 19]
abbrev QpC:RC:=jQ Qpy (.seq (jX 9 0) (.seq (.block 1 (jQ Qpz (.reg QpA))) (.reg QpB)))
abbrev QpD:IL:=[ja 20 3,⟨some 21,.val (.b2s (.t 20)),none⟩,ja 2 21]
abbrev QLD:RC:=jQ Qpv (jQ Qpw (.seq (jQ Qpx (.block 0 (.loop QpC))) (jQ QpD (.ret))))
abbrev QLE:List RR:=[.tmp 2]
theorem QLF:CT 105 22 QLD QLE:=ck Tryz.func105 Tryz.ntmps105 (by decide +kernel)
abbrev QpE:IL:=[je 1 1 0,jh 2]
abbrev QpF:IL:=[jb 3 1 1,jc 4 3,⟨some 5,.val (.bin .num .leq (.c (.int .i64 0)) (.t 4)),none⟩,ja 6 5,jk 7 1 1 6,ju 8 7 6,jk 9 2 1 6,ju 10 9 6,Bg 11 8 10 6,jj 12 6 11,ja 13 12,jk 14 2 1 13,ju 15 14 13,jk 16 0 1 13,ju 17 16 13,ys 18 0 17 13,Bg 19 15 18 13,jj 20 13 19,ja 2 20]
abbrev QLG:RC:=jQ QpE (jQ QpF (.ret))
abbrev QLH:List RR:=[.tmp 2]
theorem QLI:CT 109 21 QLG QLH:=ck Tryz.func109 Tryz.ntmps109 (by decide +kernel)
abbrev QpG:IL:=[je 1 1 0,zj 2 0,zm 3 3,jd 4 0]
abbrev QpH:IL:=[jf 9 6 1,jr 10 62 9,jr 11 194 10,ja 8 11,jx 12 8 0,jx 13 8 1,jx 14 8 2,ja 5 12,ja 6 13,ja 7 14]
abbrev QpI:IL:=[ja 15 7,yc 16 15 0]
abbrev QpJ:IL:=[jw 17 0 1 6 1,ja 18 7,zj 2 0,yg 0 3 6 3 17,ja 4 18]
abbrev QpK:IL:=[ja 19 5,jf 20 6 1,ja 21 6,jy 22 195 20 21,ja 2 19,jq 6 3 22,jd 4 0]
abbrev QLJ:RC:=jQ QpG (jQ QpH (.seq (jQ QpI (.cond (.t 16) (jD QpJ (.ret)) (.skip))) (jQ QpK (.ret))))
abbrev QLK:List RR:=[.tmp 2,.cell 3 (some 6),.tmp 4]
theorem QLL:CT 110 23 QLJ QLK:=ck Tryz.func110 Tryz.ntmps110 (by decide +kernel)
abbrev QpL:IL:=[je 1 1 0,zj 2 0,zm 3 3,jd 4 0]
abbrev QpM:IL:=[jf 8 6 1,jr 9 62 8,ja 5 9]
abbrev QpN:IL:=[ja 10 5,ji 11 0 10,yw 12 11 8]
abbrev QpO:IL:=[jw 13 0 1 6 1,zj 2 0,yg 0 3 6 3 13,jd 4 4]
abbrev QpP:IL:=[zj 6 0]
abbrev QpQ:IL:=[jd 7 7]
abbrev QpR:IL:=[ja 14 7,yo 15 14 0]
abbrev QpS:IL:=[ja 18 6,⟨some 19,.val (.bin .num .mul (.t 18) (.c (.int .u64 256))),none⟩,ja 20 5,ja 21 7,D4 22 20 21,Ba 23 22,yi 24 19 23,ja 6 24]
abbrev QpT:IL:=[ja 16 7,zi 17 16 1,ja 7 17]
abbrev QpU:RC:=.seq (jQ QpR (jX 15 0)) (.seq (.block 1 (.reg QpS)) (.reg QpT))
abbrev QpV:IL:=[ja 25 6,jf 26 6 1,⟨some 27,.call (.f 195) [(.t 26),(.c (.int .i64 8))],none⟩,ja 2 25,jq 6 3 27,jd 4 0]
abbrev QLM:RC:=jQ QpL (jQ QpM (.seq (jQ QpN (.cond (.t 12) (jD QpO (.ret)) (.skip))) (jQ QpP (.seq (jQ QpQ (.block 0 (.loop QpU))) (jQ QpV (.ret))))))
abbrev QLN:List RR:=[.tmp 2,.cell 3 (some 6),.tmp 4]
theorem QLO:CT 111 28 QLM QLN:=ck Tryz.func111 Tryz.ntmps111 (by decide +kernel)
abbrev QpW:IL:=[jh 2]
abbrev QpX:IL:=[ja 3 0,js 4 3 0,ja 5 4,jv 6 0 5,yq 7 6 1 5,jo 8 5 7,ja 9 8,jv 10 0 9,yq 11 10 2 9,jo 12 9 11,ja 2 12]
abbrev QLP:RC:=jQ QpW (jQ QpX (.ret))
abbrev QLQ:List RR:=[.tmp 2]
theorem QLR:CT 112 13 QLP QLQ:=ck Tryz.func112 Tryz.ntmps112 (by decide +kernel)
abbrev QpY:IL:=[je 3 3 0,je 4 4 1,je 5 5 2,yf 6]
abbrev QpZ:IL:=[yf 7]
abbrev Qp0:IL:=[jb 11 4 5,jc 12 11,ji 13 1 12,jd 14 0]
abbrev Qp1:IL:=[jp 15 14 13]
abbrev Qp2:IL:=[jl 16 14 12 14,jf 17 14 16,⟨some 9,.allocN 9 [.int .i64 0,.int .u64 0,.str [],.nils,.nils,.nils,.nils,.int .i64 0,.int .u64 0,.str [],.nils,.nils,.nils,.nils],none⟩,jq 14 9 17]
abbrev Qp3:IL:=[jb 18 0 9,jw 19 0 9 7 18,jr 20 23 19,⟨some 21,.call (.f 197) [(.c (.int .i64 1)),(.t 20)],none⟩,jw 22 0 3 2 3,jw 23 0 4 8 4,jb 24 7 9,jw 25 0 9 7 24,yh 26 198 22 23 25,⟨some 27,.call (.f 197) [(.c (.int .i64 2)),(.t 26)],none⟩,⟨some 28,.bsl 4 2 [.int .i64 0,.int .i64 0,.int .u64 0,.str []] [(0,4,(.t 21)),(4,4,(.t 27))],none⟩,ja 10 28]
abbrev Qp4:IL:=[ja 29 7,jb 30 0 4,yb 31 0 4 30,ja 32 10,jr 33 61 32,⟨some 34,.val (.build [.int .i64 0,.int .i64 0,.int .u64 0,.str []] [(0,1,(.t 31)),(1,1,(.c (.int .i64 6))),(3,1,(.t 33))]),none⟩,NZ 35 4 1 0 4 34,yp 36 4 40 53 29 35,ja 7 36]
abbrev Qp5:IL:=[jm 37 14 1,ja 14 37]
abbrev Qp6:RC:=.gho (.drop 9) (jQ Qp1 (.seq (jX 15 0) (.seq (.block 1 (jQ Qp2 (jD Qp3 (.draw Qp4)))) (.reg Qp5))))
abbrev Qp7:IL:=[ja 38 7,ja 6 38]
abbrev QLS:RC:=jQ QpY (jQ QpZ (.gho (.vec 7 7 4) (.seq (jQ Qp0 (.block 0 (.loop Qp6))) (jQ Qp7 (.ret)))))
abbrev QLT:List RR:=[.tmp 6]
theorem QLU:CT 115 39 QLS QLT:=ck Tryz.func115 Tryz.ntmps115 (by decide +kernel)
abbrev Qp8:IL:=[je 3 3 0,je 4 4 1,je 5 5 2,yf 6]
abbrev Qp9:IL:=[yf 7]
abbrev Qqa:IL:=[jb 10 3 5,jc 11 10,ji 12 1 11,jd 13 0]
abbrev Qqb:IL:=[jp 14 13 12]
abbrev Qqc:IL:=[jl 15 7 11 13,jf 16 7 15,yk 9 9,jq 7 9 16]
abbrev Qqd:IL:=[ja 17 7,jb 18 0 4,yb 19 0 4 18,jw 20 0 3 2 3,jw 21 0 4 8 4,jw 22 0 9 7 9,yh 23 198 20 21 22,jy 24 197 19 23,NZ 25 4 1 0 4 24,yp 26 4 40 53 17 25,ja 7 26]
abbrev Qqe:IL:=[jm 27 13 1,ja 13 27]
abbrev Qqf:RC:=.gho (.drop 9) (jQ Qqb (.seq (jX 14 0) (.seq (.block 1 (jQ Qqc (.draw Qqd))) (.reg Qqe))))
abbrev Qqg:IL:=[ja 28 7,ja 6 28]
abbrev QLV:RC:=jQ Qp8 (jQ Qp9 (.gho (.vec 7 7 4) (.seq (jQ Qqa (.block 0 (.loop Qqf))) (jQ Qqg (.ret)))))
abbrev QLW:List RR:=[.tmp 6]
theorem QLX:CT 118 29 QLV QLW:=ck Tryz.func118 Tryz.ntmps118 (by decide +kernel)
abbrev Qqh:IL:=[jh 2]
abbrev Qqi:IL:=[ja 5 0,ji 6 0 5,yn 7 6 120]
abbrev Qqj:IL:=[jh 2]
abbrev Qqk:IL:=[yv 3]
abbrev Qql:IL:=[jd 4 0]
abbrev Qqm:IL:=[ja 8 4,ja 9 0,ji 10 0 9,jp 11 8 10]
abbrev Qqn:IL:=[ja 14 0,ja 15 4,D4 16 14 15,⟨some 17,.val (.bin .num .neq (.t 16) (.c (.int .u8 46))),none⟩]
abbrev Qqo:IL:=[ja 18 3,ja 19 0,ja 20 4,ja 21 4,jm 22 21 1,⟨some 23,.val (.slc none (.t 19) (some (.t 20)) (some (.t 22)) none),none⟩,⟨some 24,.val (.bin .str .add (.t 18) (.t 23)),none⟩,ja 3 24]
abbrev Qqp:IL:=[ja 25 3,jr 26 123 25,jz 27 26]
abbrev II:IL:=[jh 2]
abbrev IJ:IL:=[yv 3]
abbrev Qqq:IL:=[ja 12 4,jm 13 12 1,ja 4 13]
abbrev Qqr:RC:=.seq (jQ Qqm (jX 11 0)) (.seq (.block 1 (.seq (jQ Qqn (.cond (.t 17) (jQ Qqo (.exit 1)) (.skip))) (.seq (jQ Qqp (.cond (.t 27) (jQ II (.ret)) (.skip))) (.reg IJ)))) (.reg Qqq))
abbrev IK:IL:=[ja 28 3,jr 29 123 28,ja 2 29]
abbrev QLY:RC:=jQ Qqh (.seq (jQ Qqi (.cond (.t 7) (jQ Qqj (.ret)) (.skip))) (jQ Qqk (.seq (jQ Qql (.block 0 (.loop Qqr))) (jQ IK (.ret)))))
abbrev QLZ:List RR:=[.tmp 2]
theorem QL0:CT 120 30 QLY QLZ:=ck Tryz.func120 Tryz.ntmps120 (by decide +kernel)
abbrev Qqs:IL:=[yv 2,yv 3]
abbrev Qqt:IL:=[ja 5 0,ji 6 0 5,zi 7 6 1,ja 4 7]
abbrev Qqu:IL:=[ja 8 4,yo 9 8 0]
abbrev Qqv:IL:=[ja 12 0,ja 13 4,D4 14 12 13,MQ 15 14 46]
abbrev Qqw:IL:=[ja 16 0,ja 17 4,⟨some 18,.val (.slc none (.t 16) none (some (.t 17)) none),none⟩,ja 19 0,ja 20 4,jm 21 20 1,MN 22 19 21,ja 2 18,ja 3 22]
abbrev Qqx:IL:=[ja 10 4,zi 11 10 1,ja 4 11]
abbrev Qqy:RC:=.seq (jQ Qqu (jX 9 0)) (.seq (.block 1 (jQ Qqv (.cond (.t 15) (jD Qqw (.ret)) (.skip)))) (.reg Qqx))
abbrev Qqz:IL:=[ja 23 0,yv 2,ja 3 23]
abbrev QL1:RC:=jQ Qqs (.seq (jQ Qqt (.block 0 (.loop Qqy))) (jQ Qqz (.ret)))
abbrev QL2:List RR:=[.tmp 2,.tmp 3]
theorem QL3:CT 121 24 QL1 QL2:=ck Tryz.func121 Tryz.ntmps121 (by decide +kernel)
abbrev QqA:IL:=[jh 2]
abbrev QqB:IL:=[ja 3 0]
abbrev QqC:IL:=[⟨some 5,.val (.bin .str .eql (.t 3) (.c (.str [109,101,115,115,97,103,101]))),none⟩,ja 4 5]
abbrev QqD:IL:=[⟨some 6,.val (.bin .str .eql (.t 3) (.c (.str [101,110,117,109]))),none⟩,ja 4 6]
abbrev QqE:IL:=[⟨some 7,.val (.bin .str .eql (.t 3) (.c (.str [115,101,114,118,105,99,101]))),none⟩,ja 4 7]
abbrev QqF:IL:=[⟨some 8,.val (.bin .str .eql (.t 3) (.c (.str [117,110,105,111,110]))),none⟩,ja 4 8]
abbrev QqG:IL:=[⟨some 9,.val (.bin .str .eql (.t 3) (.c (.str [109,97,112]))),none⟩,ja 4 9]
abbrev QqH:IL:=[⟨some 10,.val (.bin .str .eql (.t 3) (.c (.str [108,105,115,116]))),none⟩,ja 4 10]
abbrev QqI:IL:=[⟨some 11,.val (.bin .str .eql (.t 3) (.c (.str [114,101,113,117,105,114,101,100]))),none⟩,ja 4 11]
abbrev QqJ:IL:=[⟨some 12,.val (.bin .str .eql (.t 3) (.c (.str [111,112,116,105,111,110,97,108]))),none⟩,ja 4 12]
abbrev IM:IL:=[⟨some 13,.val (.bin .str .eql (.t 3) (.c (.str [112,108,97,105,110]))),none⟩,ja 4 13]
abbrev IN:IL:=[⟨some 14,.val (.bin .str .eql (.t 3) (.c (.str [100,101,102,97,117,108,116]))),none⟩,ja 4 14]
abbrev IP:IL:=[⟨some 15,.val (.bin .str .eql (.t 3) (.c (.str [114,101,115,101,114,118,101,100]))),none⟩,ja 4 15]
abbrev IQ:IL:=[⟨some 16,.val (.bin .str .eql (.t 3) (.c (.str [105,109,112,111,114,116]))),none⟩,ja 4 16]
abbrev IR:IL:=[⟨some 17,.val (.bin .str .eql (.t 3) (.c (.str [115,112,97,99,101]))),none⟩,ja 4 17]
abbrev IS:IL:=[⟨some 18,.val (.bin .str .eql (.t 3) (.c (.str [114,112,99]))),none⟩,ja 4 18]
abbrev IU:IL:=[⟨some 19,.val (.bin .str .eql (.t 3) (.c (.str [115,116,114,101,97,109]))),none⟩,ja 4 19]
abbrev IV:IL:=[⟨some 20,.val (.bin .str .eql (.t 3) (.c (.str [114,101,116,117,114,110,115]))),none⟩,ja 4 20]
abbrev IW:IL:=[⟨some 21,.val (.bin .str .eql (.t 3) (.c (.str [111,112,101,110]))),none⟩,ja 4 21]
abbrev IX:IL:=[⟨some 22,.val (.bin .str .eql (.t 3) (.c (.str [116,114,117,101]))),none⟩,ja 4 22]
abbrev IY:IL:=[⟨some 23,.val (.bin .str .eql (.t 3) (.c (.str [102,97,108,115,101]))),none⟩,ja 4 23]
abbrev IZ:IL:=[⟨some 24,.val (.bin .str .eql (.t 3) (.c (.str [110,97,110]))),none⟩,ja 4 24]
abbrev I0:IL:=[⟨some 25,.val (.bin .str .eql (.t 3) (.c (.str [105,110,102]))),none⟩,ja 4 25]
abbrev I1:IL:=[yj 2]
abbrev I2:IL:=[jh 2]
abbrev QL4:RC:=jQ QqA (.seq (jQ QqB (.block 0 (.seq (jQ QqC (.cond (.t 4) (.skip) (jQ QqD (.cond (.t 4) (.skip) (jQ QqE (.cond (.t 4) (.skip) (jQ QqF (.cond (.t 4) (.skip) (jQ QqG (.cond (.t 4) (.skip) (jQ QqH (.cond (.t 4) (.skip) (jQ QqI (.cond (.t 4) (.skip) (jQ QqJ (.cond (.t 4) (.skip) (jQ IM (.cond (.t 4) (.skip) (jQ IN (.cond (.t 4) (.skip) (jQ IP (.cond (.t 4) (.skip) (jQ IQ (.cond (.t 4) (.skip) (jQ IR (.cond (.t 4) (.skip) (jQ IS (.cond (.t 4) (.skip) (jQ IU (.cond (.t 4) (.skip) (jQ IV (.cond (.t 4) (.skip) (jQ IW (.cond (.t 4) (.skip) (jQ IX (.cond (.t 4) (.skip) (jQ IY (.cond (.t 4) (.skip) (jQ IZ (.cond (.t 4) (.skip) (.reg I0))))))))))))))))))))))))))))))))))))))))) (.cond (.t 4) (jQ I1 (.ret)) (.skip))))) (jQ I2 (.ret)))
abbrev QL5:List RR:=[.tmp 2]
theorem QL6:CT 122 26 QL4 QL5:=ck Tryz.func122 Tryz.ntmps122 (by decide +kernel)
abbrev QqK:IL:=[jh 2]
abbrev QqL:IL:=[ja 4 0,ji 5 0 4,js 6 5 0,ja 7 6,jv 8 0 7,ye 9 0 8 7,yr 10 9 40 7,jo 11 7 10,ja 12 11,jv 13 0 12,⟨some 14,.val (.idx (.t 13) (.c (.int .i64 0))),(some (12,false))⟩,zd 15 200 14 12,zb 16 15 12,jv 17 16 12,jg 18 0 17,⟨some 19,.val (.idx (.t 18) (.c (.int .i64 0))),(some (17,true))⟩,zg 20 201 19 17,za 21 20 17,yx 22 17 21 12,jo 23 12 22]
abbrev QqM:IL:=[jh 2]
abbrev QqN:IL:=[jd 3 1]
abbrev QqO:IL:=[ja 24 3,ja 25 0,ji 26 0 25,jp 27 24 26]
abbrev QqP:IL:=[ja 30 0,ja 31 3,D4 32 30 31,jr 33 200 32,jz 34 33,ja 35 34,jg 36 0 35,jg 37 3 35,MS 38 36 37 35,zg 39 201 38 35,za 40 39 35,jj 41 35 40,ja 42 41,jg 43 0 42,jg 44 3 42,MS 45 43 44 42,⟨some 46,.val (.bin .num .neq (.t 45) (.c (.int .u8 95))),(some (42,true))⟩,jj 47 42 46,ja 48 47,jg 49 0 48,jg 50 3 48,MS 51 49 50 48,⟨some 52,.val (.bin .num .lss (.t 51) (.c (.int .u8 48))),(some (48,true))⟩,jg 53 52 48,jv 54 0 53,jv 55 3 53,⟨some 56,.val (.idx (.t 54) (.t 55)),(some (53,false))⟩,⟨some 57,.val (.bin .num .gtr (.t 56) (.c (.int .u8 57))),(some (53,false))⟩,zf 58 53 57 48,jj 59 48 58]
abbrev QqQ:IL:=[jh 2]
abbrev QqR:IL:=[ja 28 3,jm 29 28 1,ja 3 29]
abbrev Pb:RC:=.seq (jQ QqO (jX 27 0)) (.seq (.block 1 (jQ QqP (.cond (.t 59) (jQ QqQ (.ret)) (.skip)))) (.reg QqR))
abbrev QqS:IL:=[yj 2]
abbrev QL7:RC:=jQ QqK (.seq (jQ QqL (.cond (.t 23) (jQ QqM (.ret)) (.skip))) (.seq (jQ QqN (.block 0 (.loop Pb))) (jQ QqS (.ret))))
abbrev QL8:List RR:=[.tmp 2]
theorem QL9:CT 123 60 QL7 QL8:=ck Tryz.func123 Tryz.ntmps123 (by decide +kernel)
abbrev QqT:IL:=[jd 2 0]
abbrev QqU:IL:=[ja 3 0]
abbrev QqV:IL:=[⟨some 5,.val (.bin .str .eql (.t 3) (.c (.str [100,101,112,114,101,99,97,116,101,100]))),none⟩,ja 4 5]
abbrev QqW:IL:=[⟨some 6,.val (.bin .str .eql (.t 3) (.c (.str [115,101,99,114,101,116]))),none⟩,ja 4 6]
abbrev QqX:IL:=[⟨some 7,.val (.bin .str .eql (.t 3) (.c (.str [105,100,101,109,112,111,116,101,110,116]))),none⟩,ja 4 7]
abbrev QqY:IL:=[jd 2 1]
abbrev QqZ:IL:=[⟨some 9,.val (.bin .str .eql (.t 3) (.c (.str [100,111,99]))),none⟩,ja 8 9]
abbrev Qq0:IL:=[⟨some 10,.val (.bin .str .eql (.t 3) (.c (.str [97,108,105,97,115]))),none⟩,ja 8 10]
abbrev Qq1:IL:=[⟨some 11,.val (.bin .str .eql (.t 3) (.c (.str [114,111,117,116,101]))),none⟩,ja 8 11]
abbrev Qq2:IL:=[⟨some 12,.val (.bin .str .eql (.t 3) (.c (.str [111,119,110,101,114]))),none⟩,ja 8 12]
abbrev I3:IL:=[jd 2 7]
abbrev I4:IL:=[⟨some 14,.val (.bin .str .eql (.t 3) (.c (.str [115,105,110,99,101]))),none⟩,ja 13 14]
abbrev I5:IL:=[⟨some 15,.val (.bin .str .eql (.t 3) (.c (.str [117,110,116,105,108]))),none⟩,ja 13 15]
abbrev I6:IL:=[⟨some 16,.val (.bin .str .eql (.t 3) (.c (.str [108,101,110,103,116,104]))),none⟩,ja 13 16]
abbrev I7:IL:=[⟨some 17,.val (.bin .str .eql (.t 3) (.c (.str [116,105,109,101,111,117,116]))),none⟩,ja 13 17]
abbrev I8:IL:=[jd 2 4]
abbrev I9:IL:=[⟨some 19,.val (.bin .str .eql (.t 3) (.c (.str [109,105,110]))),none⟩,ja 18 19]
abbrev La:IL:=[⟨some 20,.val (.bin .str .eql (.t 3) (.c (.str [109,97,120]))),none⟩,ja 18 20]
abbrev Lb:IL:=[jd 2 3]
abbrev Lc:IL:=[jd 2 0]
abbrev QMa:RC:=jQ QqT (.seq (jQ QqU (.block 0 (.seq (jQ QqV (.cond (.t 4) (.skip) (jQ QqW (.cond (.t 4) (.skip) (.reg QqX))))) (.cond (.t 4) (jQ QqY (.ret)) (.seq (jQ QqZ (.cond (.t 8) (.skip) (jQ Qq0 (.cond (.t 8) (.skip) (jQ Qq1 (.cond (.t 8) (.skip) (.reg Qq2))))))) (.cond (.t 8) (jQ I3 (.ret)) (.seq (jQ I4 (.cond (.t 13) (.skip) (jQ I5 (.cond (.t 13) (.skip) (jQ I6 (.cond (.t 13) (.skip) (.reg I7))))))) (.cond (.t 13) (jQ I8 (.ret)) (.seq (jQ I9 (.cond (.t 18) (.skip) (.reg La))) (.cond (.t 18) (jQ Lb (.ret)) (.skip))))))))))) (jQ Lc (.ret)))
abbrev QMb:List RR:=[.tmp 2]
theorem QMc:CT 124 21 QMa QMb:=ck Tryz.func124 Tryz.ntmps124 (by decide +kernel)
abbrev Qq3:IL:=[jh 4]
abbrev Qq4:IL:=[ja 5 0]
abbrev Qq5:IL:=[⟨some 7,.val (.bin .str .eql (.t 5) (.c (.str [100,101,112,114,101,99,97,116,101,100]))),none⟩,ja 6 7]
abbrev Qq6:IL:=[⟨some 8,.val (.bin .str .eql (.t 5) (.c (.str [100,111,99]))),none⟩,ja 6 8]
abbrev Qq7:IL:=[ja 9 1,yo 10 9 1,ja 11 10,jg 12 1 11,ze 13 12 6 11,jj 14 11 13,ja 4 14]
abbrev Qq8:IL:=[⟨some 16,.val (.bin .str .eql (.t 5) (.c (.str [97,108,105,97,115]))),none⟩,ja 15 16]
abbrev Qq9:IL:=[⟨some 17,.val (.bin .str .eql (.t 5) (.c (.str [115,105,110,99,101]))),none⟩,ja 15 17]
abbrev Qra:IL:=[⟨some 18,.val (.bin .str .eql (.t 5) (.c (.str [117,110,116,105,108]))),none⟩,ja 15 18]
abbrev Qrb:IL:=[ja 19 1,js 20 19 2,ja 21 20,jv 22 1 21,yq 23 22 4 21,jo 24 21 23,ja 25 24,jv 26 1 25,yq 27 26 6 25,jo 28 25 27,ja 4 28]
abbrev Qrc:IL:=[⟨some 30,.val (.bin .str .eql (.t 5) (.c (.str [109,105,110]))),none⟩,ja 29 30]
abbrev Ld:IL:=[⟨some 31,.val (.bin .str .eql (.t 5) (.c (.str [109,97,120]))),none⟩,ja 29 31]
abbrev Le:IL:=[⟨some 32,.val (.bin .str .eql (.t 5) (.c (.str [108,101,110,103,116,104]))),none⟩,ja 29 32]
abbrev Lf:IL:=[⟨some 33,.val (.bin .str .eql (.t 5) (.c (.str [115,101,99,114,101,116]))),none⟩,ja 29 33]
abbrev Lg:IL:=[ja 34 1,js 35 34 2,ja 4 35]
abbrev Lh:IL:=[⟨some 37,.val (.bin .str .eql (.t 5) (.c (.str [105,100,101,109,112,111,116,101,110,116]))),none⟩,ja 36 37]
abbrev Li:IL:=[⟨some 38,.val (.bin .str .eql (.t 5) (.c (.str [116,105,109,101,111,117,116]))),none⟩,ja 36 38]
abbrev Lj:IL:=[⟨some 39,.val (.bin .str .eql (.t 5) (.c (.str [114,111,117,116,101]))),none⟩,ja 36 39]
abbrev Lk:IL:=[ja 40 1,js 41 40 6,ja 4 41]
abbrev Ll:IL:=[ja 42 1,js 43 42 1,ja 44 43,jv 45 1 44,yq 46 45 5 44,jo 47 44 46,ja 4 47]
abbrev QMd:RC:=jQ Qq3 (.seq (jQ Qq4 (.block 0 (.seq (jQ Qq5 (.cond (.t 6) (.skip) (.reg Qq6))) (.cond (.t 6) (jQ Qq7 (.ret)) (.seq (jQ Qq8 (.cond (.t 15) (.skip) (jQ Qq9 (.cond (.t 15) (.skip) (.reg Qra))))) (.cond (.t 15) (jQ Qrb (.ret)) (.seq (jQ Qrc (.cond (.t 29) (.skip) (jQ Ld (.cond (.t 29) (.skip) (jQ Le (.cond (.t 29) (.skip) (.reg Lf))))))) (.cond (.t 29) (jQ Lg (.ret)) (.seq (jQ Lh (.cond (.t 36) (.skip) (jQ Li (.cond (.t 36) (.skip) (.reg Lj))))) (.cond (.t 36) (jQ Lk (.ret)) (.skip))))))))))) (jQ Ll (.ret)))
abbrev QMe:List RR:=[.tmp 4]
theorem QMf:CT 125 48 QMd QMe:=ck Tryz.func125 Tryz.ntmps125 (by decide +kernel)
abbrev Qrd:IL:=[je 1 1 0,jh 2]
abbrev Qre:IL:=[jb 4 0 1,jc 5 4,jr 6 124 5,ja 3 6]
abbrev Qrf:IL:=[ja 7 3,yc 8 7 0,ja 9 8,jk 10 1 1 9,jk 11 0 10 9,ju 12 11 9,jg 13 3 9,⟨some 14,.val (.bin .num .eql (.t 12) (.t 13)),(some (9,true))⟩,jj 15 9 14,ja 16 15,jg 17 3 16,jk 18 1 1 16,zp 19 7 18 16,Hb 20 202 17 19 16,jj 21 16 20,ja 2 21]
abbrev QMg:RC:=jQ Qrd (jQ Qre (jQ Qrf (.ret)))
abbrev QMh:List RR:=[.tmp 2]
theorem QMi:CT 126 22 QMg QMh:=ck Tryz.func126 Tryz.ntmps126 (by decide +kernel)
abbrev Qrg:IL:=[jh 2]
abbrev Qrh:IL:=[ja 3 0,jr 4 203 3,yw 5 4 0,ja 2 5]
abbrev QMj:RC:=jQ Qrg (jQ Qrh (.ret))
abbrev QMk:List RR:=[.tmp 2]
theorem QMl:CT 127 6 QMj QMk:=ck Tryz.func127 Tryz.ntmps127 (by decide +kernel)
abbrev Qri:IL:=[je 2 2 0,je 3 3 1,jh 4]
abbrev Qrj:IL:=[jb 5 5 3,jc 6 5]
abbrev Qrk:IL:=[js 8 6 10,ja 7 8]
abbrev Qrl:IL:=[jb 9 6 3,jc 10 9,yo 11 10 0,ja 12 11,jk 13 6 3 12,ju 14 13 12,jk 15 0 2 12,ju 16 15 12,ys 17 1 16 12,Gr 18 14 17 12,jj 19 12 18,ja 20 19,jk 21 3 3 20,ju 22 21 20,zv 23 22 3 20,jj 24 20 23,ja 4 24]
abbrev Qrm:IL:=[js 26 6 9,ja 25 26]
abbrev Qrn:IL:=[jb 27 6 3,jc 28 27,yo 29 28 0,ja 30 29,jk 31 6 3 30,ju 32 31 30,jk 33 1 2 30,ju 34 33 30,ys 35 1 34 30,Gr 36 32 35 30,jj 37 30 36,ja 4 37]
abbrev Qro:IL:=[jb 38 6 3,jc 39 38,js 40 39 (-1),ja 4 40]
abbrev QMm:RC:=jQ Qri (.seq (jQ Qrj (.block 0 (jQ Qrk (.cond (.t 7) (jQ Qrl (.ret)) (jQ Qrm (.cond (.t 25) (jQ Qrn (.ret)) (.skip))))))) (jQ Qro (.ret)))
abbrev QMn:List RR:=[.tmp 4]
theorem QMo:CT 128 41 QMm QMn:=ck Tryz.func128 Tryz.ntmps128 (by decide +kernel)
abbrev Qrp:IL:=[je 4 4 0,je 7 7 3,jd 8 0]
abbrev Qrq:IL:=[jb 10 0 7,jc 11 10,ja 12 1,zq 13 11 12,ja 14 13,yu 15 7 7 14,zd 16 43 15 14,jo 17 14 16,ja 9 17]
abbrev Qrr:IL:=[jd 8 12]
abbrev Qrs:IL:=[jb 19 2 7,jc 20 19,ji 21 0 20,yn 22 21 4096,ja 18 22]
abbrev Qrt:IL:=[jd 8 3]
abbrev Qru:IL:=[ja 24 1,js 25 24 7,ja 26 25,jk 27 2 7 26,ju 28 27 26,zg 29 127 28 26,za 30 29 26,jj 31 26 30,ja 23 31]
abbrev Qrv:IL:=[jd 8 7]
abbrev Qrw:IL:=[ja 33 1,jf 34 7 7,jy 35 202 33 34,jz 36 35,ja 32 36]
abbrev Qrx:IL:=[jd 8 12]
abbrev Qry:IL:=[ja 38 1,js 39 38 9,ja 40 39,zp 41 2 4 40,jg 42 2 40,jk 43 1 7 40,ju 44 43 40,⟨some 45,.call (.f 76) [(.t 41),(.t 42),(.t 44)],(some (40,true))⟩,za 46 45 40,jj 47 40 46,ja 37 47]
abbrev Lm:IL:=[jd 8 16]
abbrev Ln:IL:=[jd 8 0]
abbrev QMp:RC:=jQ Qrp (.seq (.block 0 (jQ Qrq (.cond (.t 9) (jQ Qrr (.ret)) (jQ Qrs (.cond (.t 18) (jQ Qrt (.ret)) (jQ Qru (.cond (.t 23) (jQ Qrv (.ret)) (jQ Qrw (.cond (.t 32) (jQ Qrx (.ret)) (jQ Qry (.cond (.t 37) (jQ Lm (.ret)) (.skip)))))))))))) (jQ Ln (.ret)))
abbrev QMq:List RR:=[.tmp 8]
theorem QMr:CT 129 48 QMp QMq:=ck Tryz.func129 Tryz.ntmps129 (by decide +kernel)
abbrev Qrz:IL:=[je 2 2 0,je 3 3 1,jh 4]
abbrev QrA:IL:=[jf 5 7 2,jf 6 7 3,jy 7 78 5 6,js 8 7 0,ja 4 8]
abbrev QMs:RC:=jQ Qrz (jQ QrA (.ret))
abbrev QMt:List RR:=[.tmp 4]
theorem QMu:CT 130 9 QMs QMt:=ck Tryz.func130 Tryz.ntmps130 (by decide +kernel)
abbrev QrB:IL:=[je 2 2 0,je 3 3 1,jd 4 0]
abbrev QrC:IL:=[jb 6 0 2,jc 7 6,jb 8 0 3,jc 9 8,jp 10 7 9,ja 5 10]
abbrev QrD:IL:=[jd 4 (-1)]
abbrev QrE:IL:=[jb 12 0 2,jc 13 12,jb 14 0 3,jc 15 14,zy 16 13 15,ja 11 16]
abbrev QrF:IL:=[jd 4 1]
abbrev QrG:IL:=[jb 18 0 2,jc 19 18,jr 20 80 19,jz 21 20,ja 17 21]
abbrev QrH:IL:=[jd 4 0]
abbrev QrI:IL:=[jb 23 0 2,jc 24 23,jr 25 205 24,ja 26 25,jk 27 2 2 26,ju 28 27 26,jk 29 2 3 26,ju 30 29 26,⟨some 31,.val (.bin .str .lss (.t 28) (.t 30)),(some (26,true))⟩,jj 32 26 31,ja 22 32]
abbrev QrJ:IL:=[jd 4 (-1)]
abbrev QrK:IL:=[jb 34 0 2,jc 35 34,jr 36 205 35,ja 37 36,jk 38 2 2 37,ju 39 38 37,jk 40 2 3 37,ju 41 40 37,⟨some 42,.val (.bin .str .gtr (.t 39) (.t 41)),(some (37,true))⟩,jj 43 37 42,ja 33 43]
abbrev Lo:IL:=[jd 4 1]
abbrev Lp:IL:=[jb 45 0 2,jc 46 45,jr 47 205 46,ja 44 47]
abbrev Lq:IL:=[jd 4 0]
abbrev Lr:IL:=[jw 49 0 2 7 2,jr 50 206 49,jw 51 0 3 7 3,jr 52 206 51,jp 53 50 52,ja 48 53]
abbrev Ls:IL:=[jd 4 (-1)]
abbrev Lt:IL:=[jw 55 0 2 7 2,jr 56 206 55,jw 57 0 3 7 3,jr 58 206 57,zy 59 56 58,ja 54 59]
abbrev Lu:IL:=[jd 4 1]
abbrev Lv:IL:=[jd 4 0]
abbrev QMv:RC:=jQ QrB (.seq (.block 0 (jQ QrC (.cond (.t 5) (jQ QrD (.ret)) (jQ QrE (.cond (.t 11) (jQ QrF (.ret)) (jQ QrG (.cond (.t 17) (jQ QrH (.ret)) (jQ QrI (.cond (.t 22) (jQ QrJ (.ret)) (jQ QrK (.cond (.t 33) (jQ Lo (.ret)) (jQ Lp (.cond (.t 44) (jQ Lq (.ret)) (jD Lr (.cond (.t 48) (jQ Ls (.ret)) (jD Lt (.cond (.t 54) (jQ Lu (.ret)) (.skip)))))))))))))))))) (jQ Lv (.ret)))
abbrev QMw:List RR:=[.tmp 4]
theorem QMx:CT 136 60 QMv QMw:=ck Tryz.func136 Tryz.ntmps136 (by decide +kernel)
abbrev QrL:IL:=[je 1 1 0,jh 2]
abbrev QrM:IL:=[jb 3 2 1,jc 4 3,ji 5 1 4,yw 6 5 1,ja 7 6,jn 8 2 1 7,jt 9 8 7,ye 10 1 9 7,yr 11 10 64 7,jo 12 7 11,ja 13 12,jn 14 3 1 13,jt 15 14 13,ye 16 1 15 13,yr 17 16 16 13,jo 18 13 17,ja 2 18]
abbrev QMy:RC:=jQ QrL (jQ QrM (.ret))
abbrev QMz:List RR:=[.tmp 2]
theorem QMA:CT 140 19 QMy QMz:=ck Tryz.func140 Tryz.ntmps140 (by decide +kernel)
abbrev QrN:IL:=[je 1 1 0,jh 2]
abbrev QrO:IL:=[jb 3 0 1,jc 4 3,jr 5 142 4,jz 6 5,ja 7 6,jn 8 2 1 7,jt 9 8 7,zn 10 147 9 148 7,jo 11 7 10,ja 2 11]
abbrev QMB:RC:=jQ QrN (jQ QrO (.ret))
abbrev QMC:List RR:=[.tmp 2]
theorem QMD:CT 146 12 QMB QMC:=ck Tryz.func146 Tryz.ntmps146 (by decide +kernel)
abbrev QrP:IL:=[jh 4]
abbrev QrQ:IL:=[ja 5 0,ja 6 1,yt 7 215 5 6,ja 4 7]
abbrev QME:RC:=jQ QrP (jQ QrQ (.ret))
abbrev QMF:List RR:=[.tmp 4]
theorem QMG:CT 147 8 QME QMF:=ck Tryz.func147 Tryz.ntmps147 (by decide +kernel)
abbrev QrR:IL:=[je 1 1 0,jh 2]
abbrev QrS:IL:=[jb 3 0 1,jc 4 3,jr 5 145 4,jz 6 5,ja 2 6]
abbrev QMH:RC:=jQ QrR (jQ QrS (.ret))
abbrev QMI:List RR:=[.tmp 2]
theorem QMJ:CT 148 7 QMH QMI:=ck Tryz.func148 Tryz.ntmps148 (by decide +kernel)
abbrev QrT:IL:=[je 2 2 0,je 3 3 1,jh 4]
abbrev QrU:IL:=[jb 5 0 2,jc 6 5,jb 7 0 3,jc 8 7,⟨some 9,.val (.bin .str .lss (.t 6) (.t 8)),none⟩,ja 4 9]
abbrev QMK:RC:=jQ QrT (jQ QrU (.ret))
abbrev QML:List RR:=[.tmp 4]
theorem QMM:CT 150 10 QMK QML:=ck Tryz.func150 Tryz.ntmps150 (by decide +kernel)
abbrev QrV:IL:=[je 2 2 0,je 3 3 1,jh 4]
abbrev QrW:IL:=[jb 5 0 2,jc 6 5,jb 7 0 3,jc 8 7,⟨some 9,.val (.bin .str .lss (.t 6) (.t 8)),none⟩,ja 4 9]
abbrev QMN:RC:=jQ QrV (jQ QrW (.ret))
abbrev QMO:List RR:=[.tmp 4]
theorem QMP:CT 152 10 QMN QMO:=ck Tryz.func152 Tryz.ntmps152 (by decide +kernel)
abbrev QrX:IL:=[je 1 1 0,jh 2]
abbrev QrY:IL:=[jb 3 2 1,jc 4 3,zx 5 157 4 158,jz 6 5,ja 2 6]
abbrev QMQ:RC:=jQ QrX (jQ QrY (.ret))
abbrev QMR:List RR:=[.tmp 2]
theorem QMS:CT 156 7 QMQ QMR:=ck Tryz.func156 Tryz.ntmps156 (by decide +kernel)
abbrev QrZ:IL:=[jh 4]
abbrev Qr0:IL:=[jd 5 1]
abbrev Qr1:IL:=[ja 6 5,ja 7 0,ji 8 1 7,jp 9 6 8]
abbrev Qr2:IL:=[ja 12 1,ja 13 0,ja 14 5,zi 15 14 1,jl 16 3 13 15,yd 17 3 16,ja 18 0,ja 19 5,jl 20 3 18 19,yd 21 3 20,⟨some 22,.callF (.t 12) [(.t 17),(.t 21)],none⟩,jz 23 22]
abbrev Qr3:IL:=[jh 4]
abbrev Qr4:IL:=[ja 10 5,jm 11 10 1,ja 5 11]
abbrev Qr5:RC:=.seq (jQ Qr1 (jX 9 0)) (.seq (.block 1 (jD Qr2 (.cond (.t 23) (jQ Qr3 (.ret)) (.skip)))) (.reg Qr4))
abbrev Qr6:IL:=[yj 4]
abbrev QMT:RC:=jQ QrZ (.seq (jQ Qr0 (.block 0 (.loop Qr5))) (jQ Qr6 (.ret)))
abbrev QMU:List RR:=[.tmp 4]
theorem QMV:CT 157 24 QMT QMU:=ck Tryz.func157 Tryz.ntmps157 (by decide +kernel)
abbrev Qr7:IL:=[je 2 2 0,je 3 3 1,jh 4]
abbrev Qr8:IL:=[jb 5 1 2,jc 6 5,jb 7 1 3,jc 8 7,jp 9 6 8,ja 4 9]
abbrev QMW:RC:=jQ Qr7 (jQ Qr8 (.ret))
abbrev QMX:List RR:=[.tmp 4]
theorem QMY:CT 158 10 QMW QMX:=ck Tryz.func158 Tryz.ntmps158 (by decide +kernel)
abbrev Qr9:IL:=[je 2 2 0,jh 3]
abbrev Qsa:IL:=[jb 4 0 2,jc 5 4,jb 6 0 1,jc 7 6,MK 8 5 7,ja 3 8]
abbrev QMZ:RC:=jQ Qr9 (jQ Qsa (.ret))
abbrev QM0:List RR:=[.tmp 3]
theorem QM1:CT 160 9 QMZ QM0:=ck Tryz.func160 Tryz.ntmps160 (by decide +kernel)
abbrev Qsb:IL:=[je 1 1 0,jh 2]
abbrev Qsc:IL:=[jb 3 2 1,jc 4 3,zx 5 164 4 165,ja 2 5]
abbrev QM2:RC:=jQ Qsb (jQ Qsc (.ret))
abbrev QM3:List RR:=[.tmp 2]
theorem QM4:CT 163 6 QM2 QM3:=ck Tryz.func163 Tryz.ntmps163 (by decide +kernel)
abbrev Qsd:IL:=[je 3 3 1,jh 4]
abbrev Qse:IL:=[ja 7 0,ji 8 1 7,jd 9 0]
abbrev Qsf:IL:=[jp 10 9 8]
abbrev Qsg:IL:=[ja 11 9,jl 12 3 7 9,jf 13 3 12,⟨some 6,.allocN 6 [.str [],.int .i64 0,.nils],none⟩,ja 5 11,jq 3 6 13]
abbrev Qsh:IL:=[ja 14 0,ja 15 5,Bd 16 3 14 15,⟨some 17,.val (.mkfn (.func 217) [] [(.t 3),(.t 6)]),none⟩,yt 18 147 16 17]
abbrev Qsi:IL:=[yj 4]
abbrev Qsj:IL:=[jm 19 9 1,ja 9 19]
abbrev Qsk:RC:=.gho (.drop 6) (jQ Qsf (.seq (jX 10 0) (.seq (.block 1 (jQ Qsg (jQ Qsh (.cond (.t 18) (jQ Qsi (.ret)) (.skip))))) (.reg Qsj))))
abbrev Qsl:IL:=[jh 4]
abbrev QM5:RC:=jQ Qsd (.seq (jQ Qse (.block 0 (.loop Qsk))) (jQ Qsl (.ret)))
abbrev QM6:List RR:=[.tmp 4]
theorem QM7:CT 164 20 QM5 QM6:=ck Tryz.func164 Tryz.ntmps164 (by decide +kernel)
abbrev Qsm:IL:=[je 1 1 0,yv 2]
abbrev Qsn:IL:=[jb 3 0 1,jc 4 3,ja 2 4]
abbrev QM8:RC:=jQ Qsm (jQ Qsn (.ret))
abbrev QM9:List RR:=[.tmp 2]
theorem QNa:CT 165 5 QM8 QM9:=ck Tryz.func165 Tryz.ntmps165 (by decide +kernel)
abbrev Qso:IL:=[je 1 1 0,jh 2]
abbrev Qsp:IL:=[jb 5 3 1,jc 6 5,ji 7 1 6,jd 8 0]
abbrev Qsq:IL:=[jp 9 8 7]
abbrev Qsr:IL:=[ja 10 8,jl 11 2 6 8,jf 12 2 11,⟨some 4,.allocN 4 [.int .i64 0,.int .i64 0],none⟩,ja 3 10,jq 2 4 12]
abbrev Qss:IL:=[jb 13 0 4,yb 14 0 4 13,yw 15 14 0,ja 16 15,jn 17 1 4 16,zk 18 0 4 17 16,yr 19 18 2147483647 16,jo 20 16 19,ja 21 20,jn 22 1 4 21,zk 23 0 4 22 21,jn 24 0 4 21,zk 25 0 4 24 21,⟨some 26,.val (.bin .num .lss (.t 23) (.t 25)),(some (21,false))⟩,jo 27 21 26,ja 28 27,jv 29 3 28,yr 30 29 0 28,jv 31 30 28,jk 32 0 4 31,yy 33 0 4 32 31,jk 34 3 1 31,yy 35 0 1 34 31,jg 36 3 31,D3 37 36 1 31,ya 38 2 35 37 31,jk 39 1 38 31,ym 40 39 31,Bg 41 33 40 31,yx 42 31 41 28,jo 43 28 42]
abbrev Qst:IL:=[yj 2]
abbrev Qsu:IL:=[jm 44 8 1,ja 8 44]
abbrev Qsv:RC:=.gho (.drop 4) (jQ Qsq (.seq (jX 9 0) (.seq (.block 1 (jQ Qsr (jD Qss (.cond (.t 43) (jQ Qst (.ret)) (.skip))))) (.reg Qsu))))
abbrev Qsw:IL:=[jb 45 2 1,jc 46 45,⟨some 47,.val (.iaddr 3 none (.t 46) (.c (.int .i64 0))),none⟩,jb 48 1 47,jc 49 48,yc 50 49 0,ja 51 50,jn 52 2 1 51,jt 53 52 51,⟨some 54,.val (.mkfn (.func 218) [] [(.t 1)]),(some (51,false))⟩,⟨some 55,.callF (.f 147) [(.t 53),(.t 54)],(some (51,false))⟩,jo 56 51 55,ja 2 56]
abbrev QNb:RC:=jQ Qso (.seq (jQ Qsp (.block 0 (.loop Qsv))) (jQ Qsw (.ret)))
abbrev QNc:List RR:=[.tmp 2]
theorem QNd:CT 168 57 QNb QNc:=ck Tryz.func168 Tryz.ntmps168 (by decide +kernel)
abbrev Qsx:IL:=[je 1 1 0,jh 2]
abbrev Qsy:IL:=[jb 3 4 1,jc 4 3,ji 5 1 4,yn 6 5 0,ja 7 6,jn 8 2 1 7,jt 9 8 7,zn 10 147 9 176 7,jo 11 7 10,ja 2 11]
abbrev QNe:RC:=jQ Qsx (jQ Qsy (.ret))
abbrev QNf:List RR:=[.tmp 2]
theorem QNg:CT 175 12 QNe QNf:=ck Tryz.func175 Tryz.ntmps175 (by decide +kernel)
abbrev Qsz:IL:=[je 1 1 0,jh 2]
abbrev QsA:IL:=[jb 3 2 1,jc 4 3,ji 5 1 4,yn 6 5 1,ja 7 6,jn 8 2 1 7,jt 9 8 7,ye 10 1 9 7,yq 11 10 1 7,jv 12 11 7,jk 13 2 1 12,ju 14 13 12,NY 15 8 14 0 12,jk 16 0 15 12,ju 17 16 12,⟨some 18,.val (.bin .str .neq (.t 17) (.c (.str [97,108,105,97,115]))),(some (12,true))⟩,jg 19 18 12,jn 20 2 1 19,jt 21 20 19,⟨some 22,.call (.f 177) [(.t 21),(.c (.int .i64 4))],(some (19,false))⟩,D0 23 22 0 19,zf 24 19 23 12,yx 25 12 24 7,jo 26 7 25,ja 2 26]
abbrev QNh:RC:=jQ Qsz (jQ QsA (.ret))
abbrev QNi:List RR:=[.tmp 2]
theorem QNj:CT 176 27 QNh QNi:=ck Tryz.func176 Tryz.ntmps176 (by decide +kernel)
abbrev QsB:IL:=[jd 4 0]
abbrev QsC:IL:=[ja 9 0,ji 10 1 9,yn 11 10 8]
abbrev QsD:IL:=[jd 4 3]
abbrev QsE:IL:=[yv 5]
abbrev QsF:IL:=[ja 12 0,ji 13 1 12,jd 14 0]
abbrev QsG:IL:=[jp 15 14 13]
abbrev QsH:IL:=[ja 16 14,jl 17 8 12 14,jf 18 8 17,⟨some 7,.allocN 7 [.str [],.int .i64 0,.int .u64 0,.str [],.nils,.nils,.nils,.nils],none⟩,ja 6 16,jq 8 7 18]
abbrev QsI:IL:=[jf 19 8 7,ja 20 1,ja 21 5,ja 22 6,yn 23 22 0,zl 24 222 19 20 21 23,ja 8 24]
abbrev QsJ:IL:=[ja 25 8,yc 26 25 0]
abbrev QsK:IL:=[ja 27 8,ja 4 27]
abbrev Lw:IL:=[jb 28 0 7,jc 29 28,ja 5 29]
abbrev Lx:IL:=[jm 30 14 1,ja 14 30]
abbrev QsL:RC:=.gho (.drop 7) (jQ QsG (.seq (jX 15 0) (.seq (.block 1 (jQ QsH (.seq (jQ QsI (jQ QsJ (.cond (.t 26) (jQ QsK (.ret)) (.skip)))) (.reg Lw)))) (.reg Lx))))
abbrev Ly:IL:=[jd 4 0]
abbrev QNk:RC:=jQ QsB (.seq (jQ QsC (.cond (.t 11) (jQ QsD (.ret)) (.skip))) (jQ QsE (.seq (jQ QsF (.block 0 (.loop QsL))) (jQ Ly (.ret)))))
abbrev QNl:List RR:=[.tmp 4]
theorem QNm:CT 177 31 QNk QNl:=ck Tryz.func177 Tryz.ntmps177 (by decide +kernel)
abbrev QsM:IL:=[yf 2]
abbrev QsN:IL:=[ja 7 0,N0 8 228 7,ja 3 8]
abbrev QsO:IL:=[ja 9 3,zx 10 229 9 230]
abbrev QsP:IL:=[yf 4]
abbrev QsQ:IL:=[ja 11 3,ji 12 1 11,jd 13 0]
abbrev QsR:IL:=[jp 14 13 12]
abbrev QsS:IL:=[ja 15 13,jl 16 14 11 13,jf 17 14 16,⟨some 6,.allocN 6 [.int .i64 0,.int .u64 0,.str [],.nils,.nils,.nils,.nils,.int .i64 0,.int .u64 0,.str [],.nils,.nils,.nils,.nils],none⟩,ja 5 15,jq 14 6 17]
abbrev QsT:IL:=[ja 18 5,jm 19 18 1,ja 20 3,ji 21 1 20,zt 22 19 21,ja 23 22,jn 24 0 6 23,MT 25 0 6 7 24 23,jv 26 3 23,jv 27 5 23,ML 28 27 1 23,yz 29 14 26 28 23,jn 30 0 29 23,MO 31 7 30 23,D2 32 232 25 31 23,zb 33 32 23,jo 34 23 33]
abbrev QsU:IL:=[ja 35 4,jf 36 14 6,⟨some 37,.bsl 14 1 [.int .i64 0,.int .u64 0,.str [],.nils,.nils,.nils,.nils,.int .i64 0,.int .u64 0,.str [],.nils,.nils,.nils,.nils] [(0,14,(.t 36))],none⟩,yp 38 14 256 77 35 37,ja 4 38]
abbrev QsV:IL:=[jm 39 13 1,ja 13 39]
abbrev QsW:RC:=.gho (.drop 6) (jQ QsR (.seq (jX 14 0) (.seq (.block 1 (jQ QsS (jD QsT (.cond (.t 34) (.reg QsU) (.skip))))) (.reg QsV))))
abbrev Lz:IL:=[ja 40 4,ja 2 40]
abbrev QNn:RC:=jQ QsM (jQ QsN (jQ QsO (jQ QsP (.gho (.vec 4 4 14) (.seq (jQ QsQ (.block 0 (.loop QsW))) (jQ Lz (.ret)))))))
abbrev QNo:List RR:=[.tmp 2]
theorem QNp:CT 189 41 QNn QNo:=ck Tryz.func189 Tryz.ntmps189 (by decide +kernel)
abbrev QsX:IL:=[zj 2 0,jd 3 0,jd 4 0]
abbrev QsY:IL:=[zj 5 0,zj 6 1]
abbrev QsZ:IL:=[jd 7 0]
abbrev Qs0:IL:=[ja 9 7,yw 10 9 10]
abbrev Qs1:IL:=[ja 13 7,ja 14 0,ji 15 0 14,⟨some 16,.val (.bin .num .geq (.t 13) (.t 15)),none⟩]
abbrev Qs2:IL:=[zj 2 0,jd 3 0,jd 4 4]
abbrev Qs3:IL:=[ja 17 0,ja 18 7,D4 19 17 18,Ba 20 19,ja 8 20]
abbrev Qs4:IL:=[ja 21 7,js 22 21 9,ja 23 22,jg 24 8 23,⟨some 25,.val (.bin .num .gtr (.t 24) (.c (.int .u64 1))),(some (23,true))⟩,jj 26 23 25]
abbrev Qs5:IL:=[zj 2 0,jd 3 0,jd 4 6]
abbrev LA:IL:=[ja 27 5,ja 28 8,⟨some 29,.val (.bin .num .rem (.t 28) (.c (.int .u64 128))),none⟩,ja 30 6,⟨some 31,.val (.bin .num .mul (.t 29) (.t 30)),none⟩,yi 32 27 31,ja 5 32]
abbrev LB:IL:=[ja 33 8,MP 34 33 128]
abbrev LC:IL:=[ja 35 5,ja 36 7,jm 37 36 1,ja 2 35,ja 3 37,jd 4 0]
abbrev LD:IL:=[ja 38 6,⟨some 39,.val (.bin .num .mul (.t 38) (.c (.int .u64 128))),none⟩,ja 6 39]
abbrev Qs6:IL:=[ja 11 7,jm 12 11 1,ja 7 12]
abbrev Qs7:RC:=.seq (jQ Qs0 (jX 10 0)) (.seq (.block 1 (.seq (jQ Qs1 (.cond (.t 16) (jQ Qs2 (.ret)) (.skip))) (jQ Qs3 (.seq (jQ Qs4 (.cond (.t 26) (jQ Qs5 (.ret)) (.skip))) (jQ LA (.seq (jQ LB (.cond (.t 34) (jQ LC (.ret)) (.skip))) (.reg LD))))))) (.reg Qs6))
abbrev LF:IL:=[zj 2 0,jd 3 0,jd 4 6]
abbrev QNq:RC:=jQ QsX (jQ QsY (.seq (jQ QsZ (.block 0 (.loop Qs7))) (jQ LF (.ret))))
abbrev QNr:List RR:=[.tmp 2,.tmp 3,.tmp 4]
theorem QNs:CT 194 40 QNq QNr:=ck Tryz.func194 Tryz.ntmps194 (by decide +kernel)
abbrev Qs8:IL:=[je 2 2 0,zm 4 4]
abbrev Qs9:IL:=[jb 5 1 2,jc 6 5,ja 7 1,yi 8 6 7,jb 9 1 2,jq 1 9 8]
abbrev Qta:IL:=[jf 10 6 2,jq 6 4 10]
abbrev QNt:RC:=jQ Qs8 (jQ Qs9 (jQ Qta (.ret)))
abbrev QNu:List RR:=[.cell 4 (some 6)]
theorem QNv:CT 195 11 QNt QNu:=ck Tryz.func195 Tryz.ntmps195 (by decide +kernel)
abbrev Qtb:IL:=[jh 2]
abbrev Qtc:IL:=[ja 3 0,MU 4 3 97,ja 5 4,jg 6 0 5,MV 7 6 122 5,jj 8 5 7,ja 2 8]
abbrev QNw:RC:=jQ Qtb (jQ Qtc (.ret))
abbrev QNx:List RR:=[.tmp 2]
theorem QNy:CT 200 9 QNw QNx:=ck Tryz.func200 Tryz.ntmps200 (by decide +kernel)
abbrev Qtd:IL:=[jh 2]
abbrev Qte:IL:=[ja 3 0,MU 4 3 65,ja 5 4,jg 6 0 5,MV 7 6 90 5,jj 8 5 7,ja 2 8]
abbrev QNz:RC:=jQ Qtd (jQ Qte (.ret))
abbrev QNA:List RR:=[.tmp 2]
theorem QNB:CT 201 9 QNz QNA:=ck Tryz.func201 Tryz.ntmps201 (by decide +kernel)
abbrev Qtf:IL:=[je 3 3 1,jh 4]
abbrev Qtg:IL:=[ja 6 0,jr 7 80 6,jz 8 7,ja 9 8,jn 10 0 3 9,jt 11 10 9,jv 12 0 9,zu 13 11 12 9,jo 14 9 13,ja 15 14,yu 16 7 3 15,zd 17 81 16 15,zb 18 17 15,jo 19 15 18]
abbrev Qth:IL:=[jh 4]
abbrev Qti:IL:=[ja 20 0,jr 21 205 20]
abbrev Qtj:IL:=[jb 22 1 3,jc 23 22,zz 24 23 0,ja 25 24,jk 26 2 3 25,ju 27 26 25,ys 28 0 27 25,ze 29 28 4096 25,jj 30 25 29,ja 31 30,jg 32 0 31,yl 33 32 8 31,jg 34 33 31,jn 35 2 3 34,jt 36 35 34,zd 37 127 36 34,zf 38 34 37 31,jj 39 31 38,ja 4 39]
abbrev Qtk:IL:=[jb 40 2 3,jc 41 40,⟨some 42,.val (.bin .str .neq (.t 41) (.c (.str []))),none⟩]
abbrev Qtl:IL:=[jh 4]
abbrev Qtm:IL:=[ja 43 0]
abbrev Qtn:IL:=[js 45 43 1,ja 44 45]
abbrev Qto:IL:=[jb 46 1 3,jc 47 46,⟨some 48,.val (.bin .num .leq (.t 47) (.c (.int .u64 1))),none⟩,ja 4 48]
abbrev LG:IL:=[js 50 43 2,ja 49 50]
abbrev LH:IL:=[jb 51 1 3,jc 52 51,Gq 53 52,ja 5 53]
abbrev LI:IL:=[ja 54 5,yo 55 54 (-2147483648),ja 56 55,jg 57 5 56,ze 58 57 2147483647 56,jj 59 56 58,ja 4 59]
abbrev LJ:IL:=[js 61 43 4,ja 60 61]
abbrev LK:IL:=[jb 62 1 3,jc 63 62,MP 64 63 4294967296,ja 4 64]
abbrev LL:IL:=[js 66 43 9,ja 65 66]
abbrev LM:IL:=[jb 67 1 3,jc 68 67,MP 69 68 2147483648,ja 4 69]
abbrev LN:IL:=[yj 4]
abbrev QNC:RC:=jQ Qtf (.seq (jQ Qtg (.cond (.t 19) (jQ Qth (.ret)) (.skip))) (.seq (jQ Qti (.cond (.t 21) (jQ Qtj (.ret)) (.skip))) (.seq (jQ Qtk (.cond (.t 42) (jQ Qtl (.ret)) (.skip))) (.seq (jQ Qtm (.block 0 (jQ Qtn (.cond (.t 44) (jQ Qto (.ret)) (jQ LG (.cond (.t 49) (jQ LH (jQ LI (.ret))) (jQ LJ (.cond (.t 60) (jQ LK (.ret)) (jQ LL (.cond (.t 65) (jQ LM (.ret)) (.skip))))))))))) (jQ LN (.ret))))))
abbrev QND:List RR:=[.tmp 4]
theorem Qtp:CT 202 70 QNC QND:=ck Tryz.func202 Tryz.ntmps202 (by decide +kernel)
abbrev Qtq:IL:=[jd 2 0]
abbrev Qtr:IL:=[jd 3 0]
abbrev Qts:IL:=[ja 5 3,ja 6 0,ji 7 0 6,jp 8 5 7]
abbrev Qtt:IL:=[ja 9 0,ja 10 3,jy 11 237 9 10,ja 4 11]
abbrev Qtu:IL:=[ja 12 4,js 13 12 0]
abbrev Qtv:IL:=[ja 14 3,ja 2 14]
abbrev Qtw:IL:=[ja 15 3,ja 16 4,yi 17 15 16,ja 3 17]
abbrev Qtx:RC:=.seq (jQ Qts (jX 8 0)) (.block 1 (jQ Qtt (.seq (jQ Qtu (.cond (.t 13) (jQ Qtv (.ret)) (.skip))) (.reg Qtw))))
abbrev Qty:IL:=[jd 2 (-1)]
abbrev QNE:RC:=jQ Qtq (.seq (jQ Qtr (.block 0 (.loop Qtx))) (jQ Qty (.ret)))
abbrev QNF:List RR:=[.tmp 2]
theorem QNG:CT 203 18 QNE QNF:=ck Tryz.func203 Tryz.ntmps203 (by decide +kernel)
abbrev Qtz:IL:=[jh 2]
abbrev QtA:IL:=[ja 3 0,js 4 3 7,ja 5 4,jv 6 0 5,yq 7 6 8 5,jo 8 5 7,ja 2 8]
abbrev QNH:RC:=jQ Qtz (jQ QtA (.ret))
abbrev QNI:List RR:=[.tmp 2]
theorem QNJ:CT 205 9 QNH QNI:=ck Tryz.func205 Tryz.ntmps205 (by decide +kernel)
abbrev QtB:IL:=[je 1 1 0,zj 2 0]
abbrev QtC:IL:=[jb 4 0 1,jc 5 4,jr 6 238 5,ja 3 6]
abbrev QtD:IL:=[jb 7 1 1,jc 8 7,⟨some 9,.val (.bin .num .add (.t 8) (.c (.int .u64 9223372036854775808))),none⟩,ja 2 9]
abbrev QtE:IL:=[jb 11 0 1,jc 12 11,yc 13 12 6,ja 10 13]
abbrev QtF:IL:=[jb 14 1 1,jc 15 14,ja 2 15]
abbrev QtG:IL:=[jb 17 1 1,jc 18 17,jr 19 79 18,js 20 19 0,ja 16 20]
abbrev QtH:IL:=[zj 2 18446744073709551615]
abbrev QtI:IL:=[jb 22 1 1,jc 23 22,⟨some 24,.val (.bin .num .geq (.t 23) (.c (.int .u64 9223372036854775808))),none⟩,ja 21 24]
abbrev QtJ:IL:=[jb 25 1 1,jc 26 25,⟨some 27,.val (.bin .num .sub (.c (.int .u64 18446744073709551615)) (.t 26)),none⟩,ja 2 27]
abbrev QtK:IL:=[jb 28 1 1,jc 29 28,⟨some 30,.val (.bin .num .add (.t 29) (.c (.int .u64 9223372036854775808))),none⟩,ja 2 30]
abbrev QNK:RC:=jQ QtB (.seq (.block 0 (jQ QtC (.cond (.t 3) (jQ QtD (.ret)) (jQ QtE (.cond (.t 10) (jQ QtF (.ret)) (jQ QtG (.cond (.t 16) (jQ QtH (.ret)) (jQ QtI (.cond (.t 21) (jQ QtJ (.ret)) (.skip)))))))))) (jQ QtK (.ret)))
abbrev QNL:List RR:=[.tmp 2]
theorem QNM:CT 206 31 QNK QNL:=ck Tryz.func206 Tryz.ntmps206 (by decide +kernel)
abbrev QtL:IL:=[jh 4]
abbrev QtM:IL:=[ja 5 0,ja 6 1,yt 7 243 5 6,yo 8 7 0,ja 4 8]
abbrev QNN:RC:=jQ QtL (jQ QtM (.ret))
abbrev QNO:List RR:=[.tmp 4]
theorem QNP:CT 215 9 QNN QNO:=ck Tryz.func215 Tryz.ntmps215 (by decide +kernel)
abbrev QtN:IL:=[je 3 3 0,jh 4]
abbrev QtO:IL:=[jc 5 1,jw 6 0 3 3 3,⟨some 7,.call (.t 5) [(.t 6)],none⟩,jc 8 1,jf 9 3 2,⟨some 10,.call (.t 8) [(.t 9)],none⟩,MK 11 7 10,ja 4 11]
abbrev QNQ:RC:=jQ QtN (jD QtO (.ret))
abbrev QNR:List RR:=[.tmp 4]
theorem QNS:CT 217 12 QNQ QNR:=ck Tryz.func217 Tryz.ntmps217 (by decide +kernel)
abbrev QtP:IL:=[je 2 2 0,jh 3]
abbrev QtQ:IL:=[jb 4 1 2,jc 5 4,yn 6 5 2147483647,ja 7 6,jn 8 3 1 7,jt 9 8 7,jn 10 1 2 7,jt 11 10 7,D2 12 219 9 11 7,jo 13 7 12,ja 3 13]
abbrev QNT:RC:=jQ QtP (jQ QtQ (.ret))
abbrev QNU:List RR:=[.tmp 3]
theorem QNV:CT 218 14 QNT QNU:=ck Tryz.func218 Tryz.ntmps218 (by decide +kernel)
abbrev QtR:IL:=[je 3 3 1,jh 4]
abbrev QtS:IL:=[ja 5 0,Bb 6 245 3,yt 7 244 5 6,ja 4 7]
abbrev QNW:RC:=jQ QtR (jQ QtS (.ret))
abbrev QNX:List RR:=[.tmp 4]
theorem QNY:CT 219 8 QNW QNX:=ck Tryz.func219 Tryz.ntmps219 (by decide +kernel)
abbrev QtT:IL:=[je 4 4 0,jd 8 0]
abbrev QtU:IL:=[DY 12 247,jb 13 0 4,yb 14 0 4 13,⟨some 15,.val (.mgetp true (.agg [.int .i64 0,.int .i64 0]) (.t 12) (.t 14)),none⟩,ja 11 15,jx 16 11 0,jx 17 11 1,⟨some 9,.allocN 9 [.int .i64 0,.int .i64 0],none⟩,yg 0 9 2 9 16,ja 10 17]
abbrev QtV:IL:=[ja 19 10,jz 20 19,ja 18 20]
abbrev QtW:IL:=[jd 8 8]
abbrev QtX:IL:=[ja 22 1,yw 23 22 1,ja 24 23,jv 25 1 24,yr 26 25 6 24,jo 27 24 26,ja 28 27,jn 29 1 9 28,jt 30 29 28,jv 31 1 28,⟨some 32,.val (.bin .num .shr (.t 30) (.t 31)),(some (28,false))⟩,⟨some 33,.val (.bin .num .and (.t 32) (.c (.int .i64 1))),(some (28,false))⟩,yq 34 33 0 28,jo 35 28 34,ja 21 35]
abbrev QtY:IL:=[jd 8 1]
abbrev QtZ:IL:=[jf 37 8 4,jr 38 248 37,jz 39 38,ja 36 39]
abbrev Qt0:IL:=[jd 8 12]
abbrev Qt1:IL:=[ja 41 3,ja 42 41,jk 43 0 4 42,ju 44 43 42,jg 45 2 42,⟨some 46,.val (.bin .str .lss (.t 44) (.t 45)),(some (42,true))⟩,jj 47 42 46,ja 40 47]
abbrev Qt2:IL:=[jd 8 11]
abbrev LO:IL:=[ja 49 3,ja 50 49,jk 51 0 4 50,ju 52 51 50,jg 53 2 50,MH 54 52 53 50,jj 55 50 54,ja 48 55]
abbrev LP:IL:=[jd 8 9]
abbrev LQ:IL:=[jd 8 0]
abbrev QNZ:RC:=jQ QtT (jD QtU (.seq (.block 0 (jQ QtV (.cond (.t 18) (jQ QtW (.ret)) (jQ QtX (.cond (.t 21) (jQ QtY (.ret)) (jQ QtZ (.cond (.t 36) (jQ Qt0 (.ret)) (jQ Qt1 (.cond (.t 40) (jQ Qt2 (.ret)) (jQ LO (.cond (.t 48) (jQ LP (.ret)) (.skip)))))))))))) (jQ LQ (.ret))))
abbrev QN0:List RR:=[.tmp 8]
theorem QN1:CT 222 56 QNZ QN0:=ck Tryz.func222 Tryz.ntmps222 (by decide +kernel)
def Pd:IL:=[yf 2]
def Pe:IL:=[ja 3 0,⟨some 4,.isnil false (.t 3),none⟩]
def Pf:IL:=[yf 2]
def Ph:IL:=[⟨some 5,.bsl0 5 14,none⟩,ja 6 0,yp 7 14 256 77 5 6,ja 2 7]
def Qt3:RC:=jQ Pd (.seq (jQ Pe (.cond (.t 4) (jQ Pf (.gho (.vec 2 2 14) (.gho (.give 2 2 1 1000) (.ret)))) (.skip))) (jQ Ph (.gho (.give 2 5 1 1000) (.ret))))
def RL:List RR:=[.tmp 2]
theorem QN2:CT 228 8 Qt3 RL:=ck Tryz.func228 Tryz.ntmps228 (by decide +kernel)
abbrev Qt4:IL:=[je 2 2 0,je 3 3 1,jd 4 0]
abbrev Qt5:IL:=[jb 5 0 2,jf 6 7 5,jb 7 0 3,jf 8 7 7,jy 9 231 6 8,ja 4 9]
abbrev QN3:RC:=jQ Qt4 (jQ Qt5 (.ret))
abbrev QN4:List RR:=[.tmp 4]
theorem QN5:CT 230 10 QN3 QN4:=ck Tryz.func230 Tryz.ntmps230 (by decide +kernel)
abbrev Qt6:IL:=[je 2 2 0,je 3 3 1,jd 4 0]
abbrev Qt7:IL:=[jb 11 0 2,jc 12 11,jb 13 0 3,jc 14 13,zq 15 12 14]
abbrev Qt8:IL:=[jb 16 0 2,jc 17 16,jb 18 0 3,jc 19 18,jy 20 101 17 19,ja 4 20]
abbrev Qt9:IL:=[jf 21 7 3,jr 22 255 21,ja 5 22]
abbrev Qua:IL:=[jf 23 7 2,jr 24 255 23]
abbrev Qub:IL:=[⟨some 25,.val (.tas 238 true (.agg [.int .i64 0,.int .u64 0,.str [],.nils,.nils,.nils,.nils]) (.t 24)),none⟩,jx 26 25 1,jx 27 25 0]
abbrev Quc:IL:=[yk 6 6,jq 7 6 27]
abbrev Qud:IL:=[jf 28 7 6,jf 29 7 3,jy 30 256 28 29,ja 4 30]
abbrev Que:IL:=[⟨some 31,.val (.tas 239 true (.nils) (.t 24)),none⟩,jx 32 31 1,jx 33 31 0]
abbrev Quf:IL:=[ja 7 33]
abbrev LR:IL:=[ja 34 7,ja 35 5,⟨some 36,.val (.tas 239 false (.nils) (.t 35)),none⟩,⟨some 37,.callF (.f 257) [(.t 34),(.t 36),(.f 231)],none⟩,ja 4 37]
abbrev LS:IL:=[⟨some 38,.val (.tas 241 true (.nils) (.t 24)),none⟩,jx 39 38 1,jx 40 38 0]
abbrev LU:IL:=[ja 8 40]
abbrev LV:IL:=[ja 41 8,ja 42 5,⟨some 43,.val (.tas 241 false (.nils) (.t 42)),none⟩,⟨some 44,.callF (.f 258) [(.t 41),(.t 43),(.f 259)],none⟩,ja 4 44]
abbrev LW:IL:=[⟨some 45,.val (.tas 244 true (.agg [.nils,.nils]) (.t 24)),none⟩,jx 46 45 1,jx 47 45 0]
abbrev LX:IL:=[⟨some 9,.allocN 9 [.nils,.nils],none⟩,jq 2 9 47]
abbrev LY:IL:=[ja 48 5,⟨some 49,.val (.tas 244 false (.agg [.nils,.nils]) (.t 48)),none⟩,⟨some 10,.allocN 10 [.nils,.nils],none⟩,jq 2 10 49]
abbrev LZ:IL:=[jd 4 0]
abbrev QN6:RC:=jQ Qt6 (.seq (jQ Qt7 (.cond (.t 15) (jQ Qt8 (.ret)) (.skip))) (jQ Qt9 (.seq (jQ Qua (.block 0 (jQ Qub (.cond (.t 26) (jQ Quc (jQ Qud (.ret))) (jQ Que (.cond (.t 32) (jQ Quf (jQ LR (.ret))) (jQ LS (.cond (.t 39) (jQ LU (jQ LV (.ret))) (jQ LW (.cond (.t 46) (jQ LX (jQ LY (.seq (.no) (.ret)))) (.skip))))))))))) (jQ LZ (.ret)))))
abbrev QN7:List RR:=[.tmp 4]
theorem QN8:CT 231 62 QN6 QN7:=ck Tryz.func231 Tryz.ntmps231 (by decide +kernel)
abbrev Qug:IL:=[je 2 2 0,je 3 3 1,jh 4]
abbrev Quh:IL:=[jf 5 7 2,jf 6 7 3,jy 7 231 5 6,js 8 7 0,ja 4 8]
abbrev QN9:RC:=jQ Qug (jQ Quh (.ret))
abbrev QOa:List RR:=[.tmp 4]
theorem QOb:CT 232 9 QN9 QOa:=ck Tryz.func232 Tryz.ntmps232 (by decide +kernel)
def Pi:IL:=[jd 4 0]
def Pj:IL:=[ja 6 0,ja 7 1,D4 8 6 7,ja 5 8]
def Pk:IL:=[ja 10 5,⟨some 11,.val (.bin .num .lss (.t 10) (.c (.int .u8 128))),none⟩,ja 9 11]
def Pl:IL:=[jd 4 1]
def Bm:IL:=[ja 13 5,MU 14 13 194,ja 15 14,jg 16 5 15,MV 17 16 223 15,jj 18 15 17,ja 19 18,jg 20 0 19,jg 21 1 19,zw 22 21 1 19,Bh 23 267 20 22 1 19,jj 24 19 23,ja 12 24]
def Pm:IL:=[jd 4 2]
def Bn:IL:=[ja 26 5,MQ 27 26 224,ja 28 27,jg 29 0 28,jg 30 1 28,zw 31 30 1 28,⟨some 32,.call (.f 268) [(.t 29),(.t 31),(.c (.int .u8 160)),(.c (.int .u8 191))],(some (28,true))⟩,jj 33 28 32,ja 34 33,jg 35 0 34,jg 36 1 34,zw 37 36 2 34,Bh 38 267 35 37 1 34,jj 39 34 38,ja 25 39]
def Pn:IL:=[jd 4 3]
def Bo:IL:=[ja 41 5,MQ 42 41 237,ja 43 42,jg 44 0 43,jg 45 1 43,zw 46 45 1 43,⟨some 47,.call (.f 268) [(.t 44),(.t 46),(.c (.int .u8 128)),(.c (.int .u8 159))],(some (43,true))⟩,jj 48 43 47,ja 49 48,jg 50 0 49,jg 51 1 49,zw 52 51 2 49,Bh 53 267 50 52 1 49,jj 54 49 53,ja 40 54]
def Po:IL:=[jd 4 3]
def Dq:IL:=[ja 56 5,MU 57 56 225,ja 58 57,jg 59 5 58,MV 60 59 239 58,jj 61 58 60,ja 62 61,jg 63 5 62,⟨some 64,.val (.bin .num .neq (.t 63) (.c (.int .u8 237))),(some (62,true))⟩,jj 65 62 64,ja 66 65,jg 67 0 66,jg 68 1 66,zw 69 68 1 66,Bh 70 267 67 69 2 66,jj 71 66 70,ja 55 71]
def N5:IL:=[jd 4 3]
def Dr:IL:=[ja 73 5,MQ 74 73 240,ja 75 74,jg 76 0 75,jg 77 1 75,zw 78 77 1 75,⟨some 79,.call (.f 268) [(.t 76),(.t 78),(.c (.int .u8 144)),(.c (.int .u8 191))],(some (75,true))⟩,jj 80 75 79,ja 81 80,jg 82 0 81,jg 83 1 81,zw 84 83 2 81,Bh 85 267 82 84 2 81,jj 86 81 85,ja 72 86]
def N6:IL:=[jd 4 4]
def Ds:IL:=[ja 88 5,MU 89 88 241,ja 90 89,jg 91 5 90,MV 92 91 243 90,jj 93 90 92,ja 94 93,jg 95 0 94,jg 96 1 94,zw 97 96 1 94,Bh 98 267 95 97 3 94,jj 99 94 98,ja 87 99]
def N7:IL:=[jd 4 4]
def Dt:IL:=[ja 101 5,MQ 102 101 244,ja 103 102,jg 104 0 103,jg 105 1 103,zw 106 105 1 103,⟨some 107,.call (.f 268) [(.t 104),(.t 106),(.c (.int .u8 128)),(.c (.int .u8 143))],(some (103,true))⟩,jj 108 103 107,ja 109 108,jg 110 0 109,jg 111 1 109,zw 112 111 2 109,Bh 113 267 110 112 2 109,jj 114 109 113,ja 100 114]
def N8:IL:=[jd 4 4]
def N9:IL:=[jd 4 0]
def Qui:RC:=jQ Pi (jQ Pj (.seq (.block 0 (jQ Pk (.cond (.t 9) (jQ Pl (.ret)) (jQ Bm (.cond (.t 12) (jQ Pm (.ret)) (jQ Bn (.cond (.t 25) (jQ Pn (.ret)) (jQ Bo (.cond (.t 40) (jQ Po (.ret)) (jQ Dq (.cond (.t 55) (jQ N5 (.ret)) (jQ Dr (.cond (.t 72) (jQ N6 (.ret)) (jQ Ds (.cond (.t 87) (jQ N7 (.ret)) (jQ Dt (.cond (.t 100) (jQ N8 (.ret)) (.skip)))))))))))))))))) (jQ N9 (.ret))))
def Quj:List RR:=[.tmp 4]
theorem QOc:CT 237 115 Qui Quj:=ck Tryz.func237 Tryz.ntmps237 (by decide +kernel)
abbrev Quk:IL:=[jh 2]
abbrev Qul:IL:=[ja 3 0,js 4 3 2,ja 5 4,jv 6 0 5,yq 7 6 3 5,jo 8 5 7,ja 2 8]
abbrev QOd:RC:=jQ Quk (jQ Qul (.ret))
abbrev QOe:List RR:=[.tmp 2]
theorem QOf:CT 238 9 QOd QOe:=ck Tryz.func238 Tryz.ntmps238 (by decide +kernel)
abbrev Qum:IL:=[jd 4 0]
abbrev Qun:IL:=[ja 6 0,ji 7 1 6,jd 8 0]
abbrev Quo:IL:=[jp 9 8 7]
abbrev Qup:IL:=[ja 10 8,ja 5 10]
abbrev Quq:IL:=[ja 11 1,ja 12 0,ja 13 5,jl 14 3 12 13,jf 15 3 14,Bc 16 11 15]
abbrev Qur:IL:=[ja 17 5,ja 4 17]
abbrev Qus:IL:=[jm 18 8 1,ja 8 18]
abbrev Qut:RC:=jQ Quo (.seq (jX 9 0) (.seq (.block 1 (jQ Qup (jQ Quq (.cond (.t 16) (jQ Qur (.ret)) (.skip))))) (.reg Qus)))
abbrev Quu:IL:=[jd 4 (-1)]
abbrev QOg:RC:=jQ Qum (.seq (jQ Qun (.block 0 (.loop Qut))) (jQ Quu (.ret)))
abbrev QOh:List RR:=[.tmp 4]
theorem QOi:CT 243 19 QOg QOh:=ck Tryz.func243 Tryz.ntmps243 (by decide +kernel)
abbrev Quv:IL:=[jh 4]
abbrev Quw:IL:=[ja 5 0,ja 6 1,yt 7 272 5 6,yo 8 7 0,ja 4 8]
abbrev QOj:RC:=jQ Quv (jQ Quw (.ret))
abbrev QOk:List RR:=[.tmp 4]
theorem QOl:CT 244 9 QOj QOk:=ck Tryz.func244 Tryz.ntmps244 (by decide +kernel)
abbrev Qux:IL:=[je 2 2 0,jh 3]
abbrev Quy:IL:=[jb 4 0 2,jc 5 4,jc 6 1,Bf 7 5 6,ja 8 7,ju 9 1 8,jk 10 1 2 8,ju 11 10 8,Bg 12 9 11 8,jj 13 8 12,ja 3 13]
abbrev QOm:RC:=jQ Qux (jQ Quy (.ret))
abbrev QOn:List RR:=[.tmp 3]
theorem QOo:CT 245 14 QOm QOn:=ck Tryz.func245 Tryz.ntmps245 (by decide +kernel)
abbrev Quz:IL:=[jh 6]
abbrev QuA:IL:=[ja 7 2,⟨some 8,.val (.bin .num .eql (.t 7) (.c (.int .i32 65533))),none⟩,ja 9 8,jg 10 0 9,jg 11 1 9,⟨some 12,.val (.slc none (.t 10) (some (.t 11)) none none),(some (9,true))⟩,⟨some 13,.call (.f 273) [(.t 12),(.c (.str [239,191,189]))],(some (9,true))⟩,za 14 13 9,jj 15 9 14,ja 6 15]
abbrev QOp:RC:=jQ Quz (jQ QuA (.ret))
abbrev QOq:List RR:=[.tmp 6]
theorem QOr:CT 246 16 QOp QOq:=ck Tryz.func246 Tryz.ntmps246 (by decide +kernel)
abbrev QuB:IL:=[⟨some 0,.val (.mov (.c (.nilm))),none⟩]
abbrev QuC:IL:=[⟨some 1,.mkm 1,none⟩,⟨some 2,.val (.build [.int .i64 0,.int .i64 0] [(0,1,(.c (.int .i64 1))),(1,1,(.c (.int .i64 126)))]),none⟩,⟨none,.mput (.t 1) (.c (.str [100,101,112,114,101,99,97,116,101,100])) (.t 2),none⟩,⟨some 3,.val (.build [.int .i64 0,.int .i64 0] [(0,1,(.c (.int .i64 7))),(1,1,(.c (.int .i64 126)))]),none⟩,⟨none,.mput (.t 1) (.c (.str [100,111,99])) (.t 3),none⟩,⟨some 4,.val (.build [.int .i64 0,.int .i64 0] [(0,1,(.c (.int .i64 7))),(1,1,(.c (.int .i64 84)))]),none⟩,⟨none,.mput (.t 1) (.c (.str [97,108,105,97,115])) (.t 4),none⟩,⟨some 5,.val (.build [.int .i64 0,.int .i64 0] [(0,1,(.c (.int .i64 4))),(1,1,(.c (.int .i64 84)))]),none⟩,⟨none,.mput (.t 1) (.c (.str [115,105,110,99,101])) (.t 5),none⟩,⟨some 6,.val (.build [.int .i64 0,.int .i64 0] [(0,1,(.c (.int .i64 4))),(1,1,(.c (.int .i64 84)))]),none⟩,⟨none,.mput (.t 1) (.c (.str [117,110,116,105,108])) (.t 6),none⟩,⟨some 7,.val (.build [.int .i64 0,.int .i64 0] [(0,1,(.c (.int .i64 3))),(1,1,(.c (.int .i64 4)))]),none⟩,⟨none,.mput (.t 1) (.c (.str [109,105,110])) (.t 7),none⟩,⟨some 8,.val (.build [.int .i64 0,.int .i64 0] [(0,1,(.c (.int .i64 3))),(1,1,(.c (.int .i64 4)))]),none⟩,⟨none,.mput (.t 1) (.c (.str [109,97,120])) (.t 8),none⟩,⟨some 9,.val (.build [.int .i64 0,.int .i64 0] [(0,1,(.c (.int .i64 4))),(1,1,(.c (.int .i64 4)))]),none⟩,⟨none,.mput (.t 1) (.c (.str [108,101,110,103,116,104])) (.t 9),none⟩,⟨some 10,.val (.build [.int .i64 0,.int .i64 0] [(0,1,(.c (.int .i64 1))),(1,1,(.c (.int .i64 4)))]),none⟩,⟨none,.mput (.t 1) (.c (.str [115,101,99,114,101,116])) (.t 10),none⟩,⟨some 11,.val (.build [.int .i64 0,.int .i64 0] [(0,1,(.c (.int .i64 1))),(1,1,(.c (.int .i64 64)))]),none⟩,⟨none,.mput (.t 1) (.c (.str [105,100,101,109,112,111,116,101,110,116])) (.t 11),none⟩,⟨some 12,.val (.build [.int .i64 0,.int .i64 0] [(0,1,(.c (.int .i64 4))),(1,1,(.c (.int .i64 64)))]),none⟩,⟨none,.mput (.t 1) (.c (.str [116,105,109,101,111,117,116])) (.t 12),none⟩,⟨some 13,.val (.build [.int .i64 0,.int .i64 0] [(0,1,(.c (.int .i64 7))),(1,1,(.c (.int .i64 64)))]),none⟩,⟨none,.mput (.t 1) (.c (.str [114,111,117,116,101])) (.t 13),none⟩,⟨some 14,.val (.build [.int .i64 0,.int .i64 0] [(0,1,(.c (.int .i64 7))),(1,1,(.c (.int .i64 34)))]),none⟩,⟨none,.mput (.t 1) (.c (.str [111,119,110,101,114])) (.t 14),none⟩,ja 15 1,ja 0 15]
abbrev QuD:RC:=jQ QuB (jQ QuC (.ret))
abbrev QuE:List RR:=[.tmp 0]
theorem QOs:CT 247 16 QuD QuE:=ck Tryz.func247 Tryz.ntmps247 (by decide +kernel)
abbrev QuF:IL:=[je 1 1 0,jh 2]
abbrev QuG:IL:=[jb 4 0 1,jc 5 4,jr 6 274 5,ja 3 6]
abbrev QuH:IL:=[ja 7 3,yc 8 7 0,ja 9 8,jg 10 3 9,jk 11 1 1 9,zp 12 7 11 9,Hb 13 275 10 12 9,jj 14 9 13,ja 2 14]
abbrev QOt:RC:=jQ QuF (jQ QuG (jQ QuH (.ret)))
abbrev QOu:List RR:=[.tmp 2]
theorem QOv:CT 248 15 QOt QOu:=ck Tryz.func248 Tryz.ntmps248 (by decide +kernel)
abbrev QuI:IL:=[je 1 1 0,⟨some 2,.val (.mov (.c (.nili))),none⟩]
abbrev QuJ:IL:=[jb 4 0 1,jc 5 4,jr 6 221 5,ja 3 6]
abbrev QuK:IL:=[jf 7 7 1,⟨some 8,.val (.mki 238 (.t 7)),none⟩,ja 2 8]
abbrev QuL:IL:=[jb 10 0 1,jc 11 10,js 12 11 11,ja 9 12]
abbrev QuM:IL:=[jb 13 3 1,jc 14 13,⟨some 15,.val (.mki 239 (.t 14)),none⟩,ja 2 15]
abbrev QuN:IL:=[jb 17 0 1,jc 18 17,js 19 18 12,ja 16 19]
abbrev QuO:IL:=[jb 20 4 1,jc 21 20,⟨some 22,.val (.mki 241 (.t 21)),none⟩,ja 2 22]
abbrev QuP:IL:=[jb 24 0 1,jc 25 24,js 26 25 10,ja 23 26]
abbrev QuQ:IL:=[jb 27 5 1,jc 28 27,jb 29 6 1,jc 30 29,⟨some 31,.val (.build [.nils,.nils] [(0,1,(.t 28)),(1,1,(.t 30))]),none⟩,⟨some 32,.val (.mki 244 (.t 31)),none⟩,ja 2 32]
abbrev QuR:IL:=[⟨some 2,.val (.mov (.c (.nili))),none⟩]
abbrev QOw:RC:=jQ QuI (.seq (.block 0 (jQ QuJ (.cond (.t 3) (jQ QuK (.ret)) (jQ QuL (.cond (.t 9) (jQ QuM (.ret)) (jQ QuN (.cond (.t 16) (jQ QuO (.ret)) (jQ QuP (.cond (.t 23) (jQ QuQ (.ret)) (.skip)))))))))) (jQ QuR (.ret)))
abbrev QOx:List RR:=[.tmp 2]
theorem QOy:CT 255 33 QOw QOx:=ck Tryz.func255 Tryz.ntmps255 (by decide +kernel)
abbrev QuS:IL:=[je 2 2 0,je 3 3 1,jd 4 0]
abbrev QuT:IL:=[jb 6 0 2,jc 7 6,jb 8 0 3,jc 9 8,zq 10 7 9,ja 5 10]
abbrev QuU:IL:=[jb 11 0 2,jc 12 11,jb 13 0 3,jc 14 13,jy 15 101 12 14,ja 4 15]
abbrev QuV:IL:=[jb 17 0 2,jc 18 17,jr 19 221 18,jz 20 19,ja 16 20]
abbrev QuW:IL:=[jd 4 0]
abbrev QuX:IL:=[jb 22 0 2,jc 23 22,jr 24 265 23,ja 21 24]
abbrev QuY:IL:=[jb 25 2 2,jc 26 25,jb 27 2 3,jc 28 27,jy 29 280 26 28,ja 4 29]
abbrev QuZ:IL:=[jb 31 0 2,jc 32 31,js 33 32 2,ja 34 33,jn 35 0 2 34,jt 36 35 34,yq 37 36 3 34,jo 38 34 37,ja 30 38]
abbrev Qu0:IL:=[jb 39 1 2,jc 40 39,Gq 41 40,jb 42 1 3,jc 43 42,Gq 44 43,jy 45 101 41 44,ja 4 45]
abbrev Qu1:IL:=[jb 47 0 2,jc 48 47,js 49 48 6,ja 46 49]
abbrev L0:IL:=[jb 50 1 2,yb 51 0 2 50,jr 52 282 51,jb 53 1 3,yb 54 0 3 53,jr 55 282 54,jy 56 281 52 55,ja 4 56]
abbrev L1:IL:=[jb 57 1 2,jc 58 57,jb 59 1 3,jc 60 59,jy 61 281 58 60,ja 4 61]
abbrev QOz:RC:=jQ QuS (.seq (.block 0 (jQ QuT (.cond (.t 5) (jQ QuU (.ret)) (jQ QuV (.cond (.t 16) (jQ QuW (.ret)) (jQ QuX (.cond (.t 21) (jQ QuY (.ret)) (jQ QuZ (.cond (.t 30) (jQ Qu0 (.ret)) (jQ Qu1 (.cond (.t 46) (jD L0 (.ret)) (.skip)))))))))))) (jQ L1 (.ret)))
abbrev QOA:List RR:=[.tmp 4]
theorem QOB:CT 256 62 QOz QOA:=ck Tryz.func256 Tryz.ntmps256 (by decide +kernel)
abbrev Qu2:IL:=[jh 6]
abbrev Qu3:IL:=[jd 7 0]
abbrev Qu4:IL:=[ja 8 7,ja 9 2,jp 10 8 9]
abbrev Qu5:IL:=[ja 13 0,ja 14 1,ja 15 7,yi 16 14 15,⟨some 17,.call (.f 268) [(.t 13),(.t 16),(.c (.int .u8 128)),(.c (.int .u8 191))],none⟩,jz 18 17]
abbrev Qu6:IL:=[jh 6]
abbrev Qu7:IL:=[ja 11 7,jm 12 11 1,ja 7 12]
abbrev Qu8:RC:=.seq (jQ Qu4 (jX 10 0)) (.seq (.block 1 (jQ Qu5 (.cond (.t 18) (jQ Qu6 (.ret)) (.skip)))) (.reg Qu7))
abbrev Qu9:IL:=[yj 6]
abbrev QOC:RC:=jQ Qu2 (.seq (jQ Qu3 (.block 0 (.loop Qu8))) (jQ Qu9 (.ret)))
abbrev QOD:List RR:=[.tmp 6]
theorem QOE:CT 267 19 QOC QOD:=ck Tryz.func267 Tryz.ntmps267 (by decide +kernel)
abbrev Qva:IL:=[jh 8]
abbrev Qvb:IL:=[ja 9 1,ja 10 0,ji 11 0 10,jp 12 9 11,ja 13 12,jg 14 0 13,jg 15 1 13,MS 16 14 15 13,jg 17 2 13,⟨some 18,.val (.bin .num .geq (.t 16) (.t 17)),(some (13,true))⟩,jj 19 13 18,ja 20 19,jg 21 0 20,jg 22 1 20,MS 23 21 22 20,jg 24 3 20,Bg 25 23 24 20,jj 26 20 25,ja 8 26]
abbrev QOF:RC:=jQ Qva (jQ Qvb (.ret))
abbrev QOG:List RR:=[.tmp 8]
theorem QOH:CT 268 27 QOF QOG:=ck Tryz.func268 Tryz.ntmps268 (by decide +kernel)
abbrev Qvc:IL:=[jd 4 0]
abbrev Qvd:IL:=[ja 6 0,ji 7 1 6,jd 8 0]
abbrev Qve:IL:=[jp 9 8 7]
abbrev Qvf:IL:=[ja 10 8,ja 5 10]
abbrev Qvg:IL:=[ja 11 1,ja 12 0,ja 13 5,jl 14 2 12 13,jf 15 2 14,Bc 16 11 15]
abbrev Qvh:IL:=[ja 17 5,ja 4 17]
abbrev Qvi:IL:=[jm 18 8 1,ja 8 18]
abbrev Qvj:RC:=jQ Qve (.seq (jX 9 0) (.seq (.block 1 (jQ Qvf (jQ Qvg (.cond (.t 16) (jQ Qvh (.ret)) (.skip))))) (.reg Qvi)))
abbrev Qvk:IL:=[jd 4 (-1)]
abbrev QOI:RC:=jQ Qvc (.seq (jQ Qvd (.block 0 (.loop Qvj))) (jQ Qvk (.ret)))
abbrev QOJ:List RR:=[.tmp 4]
theorem QOK:CT 272 19 QOI QOJ:=ck Tryz.func272 Tryz.ntmps272 (by decide +kernel)
abbrev Qvl:IL:=[jh 4]
abbrev Qvm:IL:=[ja 5 0,ja 6 1,jy 7 288 5 6,ja 4 7]
abbrev QOL:RC:=jQ Qvl (jQ Qvm (.ret))
abbrev QOM:List RR:=[.tmp 4]
theorem QON:CT 273 8 QOL QOM:=ck Tryz.func273 Tryz.ntmps273 (by decide +kernel)
abbrev Qvn:IL:=[jd 2 0]
abbrev Qvo:IL:=[DY 3 247,ja 4 0,⟨some 5,.val (.mget false (.agg [.int .i64 0,.int .i64 0]) (.t 3) (.t 4)),none⟩,⟨some 6,.val (.fld 0 none (.t 5)),none⟩,ja 2 6]
abbrev QOO:RC:=jQ Qvn (jQ Qvo (.ret))
abbrev QOP:List RR:=[.tmp 2]
theorem QOQ:CT 274 7 QOO QOP:=ck Tryz.func274 Tryz.ntmps274 (by decide +kernel)
abbrev Qvp:IL:=[jd 4 0]
abbrev Qvq:IL:=[ja 7 0,jr 8 292 7,ja 5 8]
abbrev Qvr:IL:=[ja 9 1,jr 10 292 9,ja 6 10]
abbrev Qvs:IL:=[ja 11 5]
abbrev Qvt:IL:=[ja 12 6]
abbrev Qvu:IL:=[jd 4 0]
abbrev Qvv:IL:=[jd 4 (-1)]
abbrev Qvw:IL:=[ja 13 6]
abbrev Qvx:IL:=[jd 4 1]
abbrev Qvy:IL:=[ja 14 0,ja 15 1,⟨some 16,.val (.bin .str .lss (.t 14) (.t 15)),none⟩]
abbrev L2:IL:=[jd 4 (-1)]
abbrev L3:IL:=[ja 17 0,ja 18 1,⟨some 19,.val (.bin .str .gtr (.t 17) (.t 18)),none⟩]
abbrev L4:IL:=[jd 4 1]
abbrev L5:IL:=[jd 4 0]
abbrev QOR:RC:=jQ Qvp (jQ Qvq (jQ Qvr (.seq (jQ Qvs (.cond (.t 11) (.seq (jQ Qvt (.cond (.t 12) (jQ Qvu (.ret)) (.skip))) (jQ Qvv (.ret))) (.skip))) (.seq (jQ Qvw (.cond (.t 13) (jQ Qvx (.ret)) (.skip))) (.seq (jQ Qvy (.cond (.t 16) (jQ L2 (.ret)) (.skip))) (.seq (jQ L3 (.cond (.t 19) (jQ L4 (.ret)) (.skip))) (jQ L5 (.ret))))))))
abbrev QOS:List RR:=[.tmp 4]
theorem QOT:CT 280 20 QOR QOS:=ck Tryz.func280 Tryz.ntmps280 (by decide +kernel)
abbrev Qvz:IL:=[jd 4 0]
abbrev QvA:IL:=[ja 7 0,jr 8 293 7,ja 5 8]
abbrev QvB:IL:=[ja 9 1,jr 10 293 9,ja 6 10]
abbrev QvC:IL:=[ja 11 5]
abbrev QvD:IL:=[ja 12 6]
abbrev QvE:IL:=[jd 4 0]
abbrev QvF:IL:=[jd 4 (-1)]
abbrev QvG:IL:=[ja 13 6]
abbrev QvH:IL:=[jd 4 1]
abbrev QvI:IL:=[ja 14 0,ja 15 1,jp 16 14 15]
abbrev L6:IL:=[jd 4 (-1)]
abbrev L7:IL:=[ja 17 0,ja 18 1,zy 19 17 18]
abbrev L8:IL:=[jd 4 1]
abbrev L9:IL:=[jd 4 0]
abbrev QOU:RC:=jQ Qvz (jQ QvA (jQ QvB (.seq (jQ QvC (.cond (.t 11) (.seq (jQ QvD (.cond (.t 12) (jQ QvE (.ret)) (.skip))) (jQ QvF (.ret))) (.skip))) (.seq (jQ QvG (.cond (.t 13) (jQ QvH (.ret)) (.skip))) (.seq (jQ QvI (.cond (.t 16) (jQ L6 (.ret)) (.skip))) (.seq (jQ L7 (.cond (.t 19) (jQ L8 (.ret)) (.skip))) (jQ L9 (.ret))))))))
abbrev QOV:List RR:=[.tmp 4]
theorem QOW:CT 281 20 QOU QOV:=ck Tryz.func281 Tryz.ntmps281 (by decide +kernel)
abbrev QvJ:IL:=[jh 4]
abbrev QvK:IL:=[ja 5 0,ji 6 0 5,ja 7 1,ji 8 0 7,⟨some 9,.val (.bin .num .geq (.t 6) (.t 8)),none⟩,ja 10 9,jg 11 0 10,jg 12 1 10,ys 13 0 12 10,⟨some 14,.val (.slc none (.t 11) none (some (.t 13)) none),(some (10,true))⟩,jg 15 1 10,MH 16 14 15 10,jj 17 10 16,ja 4 17]
abbrev QOX:RC:=jQ QvJ (jQ QvK (.ret))
abbrev QOY:List RR:=[.tmp 4]
theorem QOZ:CT 288 18 QOX QOY:=ck Tryz.func288 Tryz.ntmps288 (by decide +kernel)
abbrev QvL:IL:=[jh 2]
abbrev QvM:IL:=[ja 3 0,ja 4 0,⟨some 5,.val (.bin .str .neq (.t 3) (.t 4)),none⟩,ja 2 5]
abbrev QO0:RC:=jQ QvL (jQ QvM (.ret))
abbrev QO1:List RR:=[.tmp 2]
theorem QO2:CT 292 6 QO0 QO1:=ck Tryz.func292 Tryz.ntmps292 (by decide +kernel)
abbrev QvN:IL:=[jh 2]
abbrev QvO:IL:=[ja 3 0,ja 4 0,zq 5 3 4,ja 2 5]
abbrev QO3:RC:=jQ QvN (jQ QvO (.ret))
abbrev QO4:List RR:=[.tmp 2]
theorem QO5:CT 293 6 QO3 QO4:=ck Tryz.func293 Tryz.ntmps293 (by decide +kernel)
end Go.Proofs.YtdhlbgejhcejcaaGreatDoor.Rc

namespace Go.Proofs.YtdhlbgejhcejcaaGreatDoor.Bt
open Go

theorem ZS (n:Int):IntKind.u64.wrap n=n % 18446744073709551616:=by simp[IntKind.wrap,IntKind.bits,IntKind.signed]
theorem wu8 (n:Int):IntKind.u8.wrap n=n % 256:=by simp[IntKind.wrap,IntKind.bits,IntKind.signed]
theorem QC (n:Int):IntKind.i64.wrap n=(n+9223372036854775808) % 18446744073709551616-9223372036854775808:=IntKind.wrap_i64 n

theorem WM {n:Nat}(h:n<18446744073709551616):(BitVec.ofInt 64 (n:Int)).toNat=n:=by
 simp;omega

theorem Vb (a b:Nat)(ha:a<18446744073709551616)(hb:b<18446744073709551616):bits .xor .u64 (a:Int) (b:Int)=((a ^^^ b:Nat):Int):=by
 have hx:a ^^^ b<2 ^ 64:=Nat.xor_lt_two_pow (by omega) (by omega);show IntKind.u64.wrap ((BitVec.ofInt 64 (a:Int) ^^^ BitVec.ofInt 64 (b:Int)).toNat:Int)=_;rw[BitVec.toNat_xor,WM ha,WM hb,ZS];omega
theorem UJ (a b:Nat)(ha:a<18446744073709551616)(hb:b<18446744073709551616):bits .and .u64 (a:Int) (b:Int)=((a &&& b:Nat):Int):=by
 have hx:a &&& b<2 ^ 64:=Nat.and_lt_two_pow _ (by omega);show IntKind.u64.wrap ((BitVec.ofInt 64 (a:Int) &&& BitVec.ofInt 64 (b:Int)).toNat:Int)=_;rw[BitVec.toNat_and,WM ha,WM hb,ZS];omega
theorem Bp (a:Nat)(ha:a<18446744073709551616):a ^^^ 18446744073709551615=18446744073709551615-a:=by
 have h1:(BitVec.ofNat 64 a ^^^ BitVec.allOnes 64).toNat=a ^^^ 18446744073709551615:=by
  rw[BitVec.toNat_xor,BitVec.toNat_ofNat,BitVec.toNat_allOnes,Nat.mod_eq_of_lt (by omega)]
 rw[←h1,BitVec.xor_allOnes,BitVec.toNat_not,BitVec.toNat_ofNat,Nat.mod_eq_of_lt (by omega)]

theorem Bq (a:Int)(h0:0≤a)(h1:a<18446744073709551616):bits .xor .u64 a 0=a:=by
 obtain⟨n,rfl⟩:=QXV h0;have:=Vb n 0 (by omega) (by omega);rw[Nat.xor_zero]at this;exact this
theorem Bs (a:Int)(h0:0≤a)(h1:a<18446744073709551616):bits .xor .u64 a 18446744073709551615=18446744073709551615-a:=by
 obtain⟨n,rfl⟩:=QXV h0;have:=Vb n 18446744073709551615 (by omega) (by omega);rw[Bp n (by omega)]at this;rw[show((18446744073709551615:Nat):Int)=18446744073709551615 from rfl]at this;rw[this];omega
end Go.Proofs.YtdhlbgejhcejcaaGreatDoor.Bt

set_option linter.unusedSimpArgs false
namespace Go.Proofs.YtdhlbgejhcejcaaGreatDoor.Va
open Go Am Rc Bt

def RB (v:AV):Prop:=∃b,v=.bool b
theorem RB.rf {v:AV}{l:List AV}(h:RB v):v.rf=true∧(AV.rfL l=true∨v.nl=true):=by
 obtain⟨b,rfl⟩:=h;exact⟨rfl,.inr rfl⟩

def isk (k:Int):Bool:=decide (k≥1)&&decide (k≤9)
def Zc (k:Int):Bool:=k==7||k==8
def wk (k:Int):Int:=if k=1∨k=4∨k=5∨k=9 then 0 else if k=2∨k=3 then 1 else if k=6 then 2 else if k=7∨k=8 then 3 else if k=10 then 4 else -1

theorem TC (k:Int):Qi Tryz.prog 80 [.int .i64 k] (.bool (isk k)):=by
 refine k80.fn (by simp) ?_;simp only[isk,Qa,seval];cases h:decide (k≥1)<;>simp only[QXT,QXM,Qa,seval]

theorem Bu (k:Int):Qi Tryz.prog 221 [.int .i64 k] (.bool (isk k)):=by
 refine Qjw.fn (by simp) ?_;simp only[isk,Qa,seval];cases h:decide (k≥1)<;>simp only[QXT,QXM,Qa,seval]

theorem Hv (k:Int):Qi Tryz.prog 205 [.int .i64 k] (.bool (Zc k)):=by
 refine QNJ.fn (by simp) ?_;simp only[Zc,Qa,seval];cases h:(k==7)<;>simp only[QXW,QXX,Qa,seval]

theorem QvQ (k:Int):Qi Tryz.prog 265 [.int .i64 k] (.bool (Zc k)):=by
 refine QlE.fn (by simp) ?_;simp only[Zc,Qa,seval];cases h:(k==7)<;>simp only[QXW,QXX,Qa,seval]

def oc (n:Int)(s a:List UInt8)(c k kd t u:Int):AV:=.agg [.int .i64 n,.str s,.str a,.int .i64 c,.int .i64 k,.int .i64 kd,.int .i64 t,.int .i64 u]

def pk (c kd:Int):Bool:=c==4&&((decide (kd≥1)&&decide (kd≤6))||kd==9)
def Pp (c kd:Int):Int:=if c=5 then 6 else if pk c kd=true then 5 else wk kd

section
variable (n:Int)(s a:List UInt8)(c k kd t u:Int)

theorem QvR:Qi Tryz.prog 116 [oc n s a c k kd t u] (.bool (pk c kd)):=by
 refine Qdm.fn (by simp) ?_;simp only[oc,pk,eE,seval];cases h0:(c==4)<;>cases h1:decide (kd≥1)<;>cases h2:decide (kd≤6)<;>simp only[h1,h2,QXT,QXM,QXW,QXX,eE,seval]

theorem QO6:Qi Tryz.prog 199 [oc n s a c k kd t u] (.int .i64 (Pp c kd)):=by
 have hP:=QvR n s a c k kd t u;simp only[oc]at hP;refine Qic.fn (by simp) ?_;simp only[oc,eE,seval];by_cases hc:c=5
 ·have b0:(c==5)=true:=by simp[hc]
  simp only[b0,Pp,QWJ hc,Qa,seval]
 ·have b0:(c==5)=false:=by simp[hc]
  simp only[b0,Pp,QWu hc,eE,seval];refine aC hP ?_;cases pk c kd
  ·simp only[QWz,eE,seval]
   repeat' (first|(refine QP (fun h=>?_) (fun h=>?_)<;>simp only[h,Qa,seval])|(refine Xl (fun h=>?_) (fun h=>?_)<;>simp only[h,Qk,eE,seval])|(refine Xm (fun h=>?_) (fun h=>?_)<;>simp only[h,Qk,eE,seval]))
   all_goals((try simp only[QWm,QXY,ne_eq]at *)<;>unfold wk<;>(repeat' split)<;>first|rfl|(exfalso;omega))
  ·simp only[Qa,seval]

end

theorem Qo (i:Nat)(n:Nat)(h:i<n)(hn:n≤maxLen):IntKind.i64.wrap ((i:Int)+1)=((i+1:Nat):Int):=by
 simp only[maxLen]at hn;rw[QC];omega

theorem Ql {i n:Nat}(h:i<n):decide ((i:Int)<(n:Int))=true:=by simp;omega
theorem QA {i n:Nat}(h:¬i<n):decide ((i:Int)<(n:Int))=false:=by simp;omega
theorem Qg (i:Nat):(0≤(i:Int))=True:=by simp

end Go.Proofs.YtdhlbgejhcejcaaGreatDoor.Va

namespace Go.Proofs.YtdhlbgejhcejcaaGreatDoor.Br
open Go Am Go.RowKit Go.WideShapes Go.ChangeShapes Go.ChangeAt Go.Joins Go.Deep Go.WideElems Go.Maps

section
variable {H:Type}{enc:TypeId×Value→H}{P:Program}{W:World}{base:Nat}{sp:Nat→Bool}{held:Bool}

end

theorem Hc {X α:Type}{f:X→List α}{sz:Nat}(hsz:0<sz)(hf:∀x,(f x).length=sz):∀(xs:List X) (j:Nat),(xs.flatMap f)[j]? = (xs[j / sz]?).bind fun x=>(f x)[j % sz]?
 | [],j=>by simp
 |x :: xs,j=>by
  rw[QXK];by_cases hj:j<sz
  ·rw[QXG (by rw[hf];exact hj),Nat.div_eq_of_lt hj,Nat.mod_eq_of_lt hj];rfl
  ·obtain⟨i,rfl⟩:∃i,j=sz+i:=⟨j-sz,by omega⟩;rw[QXH (by rw[hf];omega),hf,Hc hsz hf xs,show sz+i-sz=i by omega,show(sz+i) / sz=i / sz+1 by rw[Nat.add_div_left _ hsz],Nat.add_mod_left];rfl

section
variable {H:Type}{enc:TypeId×Value→H}{P:Program}{W:World}

structure El (enc:TypeId×Value→H)(P:Program)(e:TypeId)(sz:Nat)(X:Type) where
 av:X→AV
 vals:X→List Value
 Kn:X→DataW H
 ok:X→Prop
 pos:0<sz
 len:∀x,(vals x).length=sz
 cells:∀x,(av x).cells.length=sz
 rfl':∀x,AV.rfL (av x).cells=true
 leaf:∀x,(av x).cells.all AV.leaf=true
 rep:∀(G:Gh) x,RepL G (av x).cells (vals x)
 opened:∀ {W:World} {n:Nat} {cs:List Value} {d:DataW H} {pl:List MemPlace},cs.length=sz→DataW.trod enc P W 0 (fun _=>true) true n e cs=some (d,pl)→∃x,ok x∧cs=vals x∧d=Kn x∧pl=[]
 shut:∀(W:World) (sp:Nat→Bool) x,ok x→∃n,DataW.trod enc P W 0 sp true n e (vals x)=some (Kn x,[])

end

def Xs:List AV→AV
 | [x]=>x
 |l=>.agg l

def Gu (P:Program):Nat→List Field→Nat→Bool
 |o,[],n=>Nat.beq o n
 |o,f :: fs,n=>Nat.beq f.offset o&&Gu P (o+P.cellsOf f.type) fs n

def Pq (P:Program)(ts:List TypeId)(t:TypeId):Bool :=
 match P.underlying t with
 |some (.int _)|some .bool|some .string=>P.cellsOf t==1
 |some (.struct fs)=>Gu P 0 fs.toList (P.cellsOf t)&&fs.toList.all fun f=>ts.contains f.type
 |some (.slice e)=>P.cellsOf t==1&&(decide (0<P.cellsOf e)&&decide (0<P.bytesOf e))&&ts.contains e
 |_=>false
def Pr (P:Program)(ts:List TypeId):Bool:=ts.all (Pq P ts)

def Q6 (P:Program)(M:Nat):Nat→TypeId→List AV→Prop
 |0,_,_=>False
 |k+1,t,cs=>match P.underlying t with
  |some (.int ik)=>∃n,cs=[.int ik n]∧(Lit.int ik n).wf=true
  |some .bool=>∃b,cs=[.bool b]
  |some .string=>∃s,cs=[.str s]∧s.length≤M
  |some (.struct fs)=>HasL (Q6 P M k) fs.toList cs
  |some (.slice e)=>∃l:List (List AV),cs=[.list (l.map Xs)]∧(l.length≤maxLen∧(M=reachBytes→l.length*P.bytesOf e≤M))∧(∀c∈l,Q6 P M k e c)∧l.length≤M
  |_=>False
where
 HasL (h:TypeId→List AV→Prop):List Field→List AV→Prop
  | [],cs=>cs=[]
  |f :: fs,cs=>∃a b,cs=a++b∧h f.type a∧HasL h fs b

theorem Hd {l:List AV}(h:l.all AV.leaf=true):(Xs l).cells=l:=by
 match l,h with
 | [],_=>rfl
 | [x],h=>cases x<;>first|rfl|simp[AV.leaf]at h
 |_ :: _ :: _,_=>rfl

mutual
def wt:AV→Nat
 |.list l=>1+JC l
 |.agg l=>JC l
 |_=>1
def JC:List AV→Nat
 | []=>0
 |x :: l=>wt x+JC l
end
theorem Vc (a b:List AV):JC (a++b)=JC a+JC b:=by
 induction a with
 |nil=>simp[JC]
 |cons x a ih=>simp only[QWC,JC,ih];omega
theorem RM:∀l:List AV,wt (Xs l)=JC l
 | []=>by simp[Xs,wt]
 | [x]=>by simp[Xs,JC]
 |_ :: _ :: _=>by simp[Xs,wt]

theorem Uf {G:Gh}:∀ {ls:List (List AV)} {cs:List (List Value)},ls.length=cs.length→(∀i (h1:i<ls.length) (h2:i<cs.length),RepL G ls[i] cs[i])→RepL G ls.flatten cs.flatten
 | [],[],_,_=>.nil
 |l :: ls,c :: cs,hn,h=>by
  rw[List.flatten_cons,List.flatten_cons];exact RepL.append (h 0 (by simp) (by simp)) (Uf (by simpa using hn) fun i h1 h2=>h (i+1) (by simpa using h1) (by simpa using h2))
 | [],_ :: _,hn,_=>by simp at hn
 |_ :: _,[],hn,_=>by simp at hn

section
variable {H:Type}{enc:TypeId×Value→H}{P:Program}{W:World}{M:Nat}

theorem Hw {d:DataW H}:∀ {l:List (DataW H)},d∈l→Rows.uptoBulk d≤Rows.uptoBulkAll l
 | [],h=>by cases h
 |x :: l,h=>by
  rw[Rows.uptoBulkAll];rcases QXD.1 h with rfl|h
  ·omega
  ·have:=Hw h;omega

theorem RP (d:DataW H):1≤Rows.uptoBulk d:=by unfold Rows.uptoBulk;split<;>omega
theorem Gv {x:AV}(h:wt x=1)(d:DataW H):JC [x]≤Rows.uptoBulk d:=by
 have:=RP d;rw[JC,JC,h];exact this
theorem RQ (a b:List (DataW H)):Rows.uptoBulkAll (a++b)=Rows.uptoBulkAll a+Rows.uptoBulkAll b:=by
 induction a with
 |nil=>simp[Rows.uptoBulkAll]
 |cons x a ih=>simp only[QWC,Rows.uptoBulkAll,ih];omega
theorem Bv (F:Nat→List AV)(xs:List (DataW H))(h:∀i d,xs[i]? = some d→JC (F i)≤Rows.uptoBulk d):∀n,n≤xs.length→JC (((List.range n).map F).map Xs)≤Rows.uptoBulkAll (xs.take n)
 |0,_=>QWo _
 |n+1,hn=>by
  have hx:xs[n]? = some xs[n]:=QWh (by omega);have:=Bv F xs h n (by omega);have h1:=h n _ hx;rw[List.range_succ,QXZ,QXZ,Vc,QX0,hx,RQ];simp only[QWM,QXh,JC,RM,QX1,Rows.uptoBulkAll];omega

def TD (P:Program)(M:Nat)(t:TypeId)(d:DataW H):Prop:=M=maxLen∨(M≠reachBytes∧Rows.uptoBulk d≤M)∨(d.weights P t).all (·≤M)=true

theorem K5 {t:TypeId}{d:DataW H}:∀ {ts:List TypeId} {ds:List (DataW H)} (i:Nat),(DataW.weightsEach P ts ds).all (·≤M)=true→ts[i]? = some t→ds[i]? = some d→(d.weights P t).all (·≤M)=true
 | [],_,_,_,h,_=>by simp at h
 |_ :: _,[],_,_,_,h=>by simp at h
 |t' :: ts,d' :: ds,0,h,h1,h2=>by
  rw[DataW.weightsEach,QXy,QWE]at h;cases h1;cases h2;exact h.1
 |t' :: ts,d' :: ds,i+1,h,h1,h2=>by
  rw[DataW.weightsEach,QXy,QWE]at h;exact K5 i h.2 (by simpa using h1) (by simpa using h2)

theorem Yc {e:TypeId}{d:DataW H}:∀ {ds:List (DataW H)},(DataW.weightsAll P e ds).all (·≤M)=true→d∈ds→(d.weights P e).all (·≤M)=true
 | [],_,h=>by cases h
 |d' :: ds,h,hd=>by
  rw[DataW.weightsAll,QXy,QWE]at h;rcases QXD.1 hd with rfl|hd
  ·exact h.1
  ·exact Yc h.2 hd

def Opn (W:World)(h:List AV→Prop)(B n:Nat)(cs:List Value):Prop :=
 ∃avs,h avs∧RepL (Gh.bare fun b o=>sv W b o) avs cs∧avs.length=n∧AV.rfL avs=true∧avs.all AV.leaf=true∧JC avs≤B

theorem He {h:TypeId→List AV→Prop}{cs:List Value}:∀(fs:List Field) (ds:List (DataW H)) (o:Nat),Gu P o fs cs.length=true→fs.length=ds.length→(∀(i:Nat) (f:Field) (d:DataW H),fs[i]? = some f→ds[i]? = some d→Opn W (h f.type) (Rows.uptoBulk d) (P.cellsOf f.type) ((cs.drop f.offset).take (P.cellsOf f.type)))→
  Opn W (Q6.HasL h fs) (Rows.uptoBulkAll ds) (cs.length-o) (cs.drop o)
 | [],_,o,hc,_,_=>by
  have e:o=cs.length:=QWc hc;refine⟨[],rfl,?_,by simp[e],rfl,rfl,QWo _⟩;rw[e,List.drop_length];exact .nil
 |_ :: _,[],_,_,hl,_=>by simp at hl
 |f :: fs,d :: ds,o,hc,hl,hf=>by
  simp only[Gu,QWE]at hc;have eo:f.offset=o:=QWc hc.1;obtain⟨a,a1,a2,a3,a4,a5,a6⟩:=hf 0 f d rfl rfl;obtain⟨b,b1,b2,b3,b4,b5,b6⟩:=He fs ds _ hc.2 (by simpa using hl) fun i g d hg hd=>hf (i+1) g d (by simpa using hg) (by simpa using hd)
  rw[eo]at a2;refine⟨a++b,⟨a,b,rfl,a1,b1⟩,?_,?_,by rw[K0,a4,b4]<;>rfl,by rw[QXy,a5,b5]<;>rfl,by rw[Vc,Rows.uptoBulkAll];omega⟩
  ·have:=RepL.append a2 b2
   rwa [←QWI,QXx]at this
  ·have hlen:a.length=((cs.drop o).take (P.cellsOf f.type)).length:=(RepL.length a2).symm;rw[QWS,a3,b3];rw[a3,QXd,QWV]at hlen;omega

theorem Ug {ts:List TypeId}(hP:Pr P ts=true):∀(k:Nat) (t:TypeId) (cs:List Value) (d:DataW H) (pl:List MemPlace),ts.contains t=true→DataW.trod enc P W 0 (fun _=>true) true k t cs=some (d,pl)→TD P M t d→
  Opn W (Q6 P M k t) (Rows.uptoBulk d) (P.cellsOf t) cs
 |0,_,_,_,_,_,h,_=>by simp[DataW.trod]at h
 |k+1,t,cs,d,pl,ht,h,hb=>by
  have hp:=QWs.1 hP t (by simpa using ht);unfold Pq at hp;split at hp
  ·rename_i ik hu;obtain⟨v,rfl,_,hw⟩:=DataW.trod_int hu h;refine⟨[.int ik v],?_,.cons (.int ik v) .nil,by rw[QWm]at hp;simp[hp],rfl,rfl,Gv rfl _⟩;simp only[Q6,hu];exact⟨v,rfl,hw⟩
  ·rename_i hu;obtain⟨b,rfl,_⟩:=DataW.trod_bool hu h;refine⟨[.bool b],?_,.cons (.bool b) .nil,by rw[QWm]at hp;simp[hp],rfl,rfl,Gv rfl _⟩;simp only[Q6,hu];exact⟨b,rfl⟩
  ·rename_i hu;obtain⟨⟨⟨s⟩⟩,rfl,e,hw⟩:=DataW.trod_string hu h;have hw:s.length≤M:=by
    cases e;rcases hb with rfl|hb|hb
    ·exact hw
    ·replace hb:=hb.2;rw[Rows.uptoBulk]at hb;exact QWf (Nat.le_succ _) hb
    ·rw[DataW.weights]at hb
     simpa using hb
   refine⟨[.str s],?_,.cons (.str s) .nil,by rw[QWm]at hp;simp[hp],rfl,rfl,Gv rfl _⟩;simp only[Q6,hu];exact⟨s,rfl,hw⟩
  ·rename_i fs hu;simp only[QWE,QWs]at hp;obtain⟨xs,n',hk,e,hlen,hxl,hx⟩:=DataW.trod_struct hu h;obtain rfl:k=n':=by omega
   have hbx:∀(i:Nat) x (f:Field),xs[i]? = some x→fs[i]? = some f→TD P M f.type x.1:=fun i x f hx hf=>by
    cases e;refine hb.imp id fun hb=>hb.imp (fun hb=>⟨hb.1,?_⟩) fun hb=>?_
    ·replace hb:=hb.2;rw[Rows.uptoBulk]at hb;have:=Hw (l:=xs.map (·.1)) (QXB.2 ⟨x,QWt hx,rfl⟩);omega
    ·rw[DataW.weights,hu]at hb;exact K5 i hb (by simp[hf]) (by simp[hx])
   have:=He (W:=W) (h:=Q6 P M k) (cs:=cs) fs.toList (xs.map (·.1)) 0 (by rw[hlen];exact hp.1) (by simp[hxl]) (fun i f d hi hd=>by
    have hi':fs[i]? = some f:=by simpa using hi
    have hf:f∈fs.toList:=QWt hi;obtain⟨x,hxi,rfl⟩:∃x,xs[i]? = some x∧x.1=d:=by
     rw[QXE]at hd;obtain⟨x,h1,h2⟩:=QWj.1 hd;exact⟨x,h1,h2⟩
    have h2:=hx i f hi';rw[hxi]at h2;exact Ug hP k f.type _ _ _ (hp.2 f hf) h2 (hbx i _ f hxi hi'))
   rw[QWX,QXA,hlen]at this;obtain⟨avs,h1,h2,h3,h4,h5,h6⟩:=this;refine⟨avs,?_,h2,h3,h4,h5,by cases e;rw[Rows.uptoBulk];omega⟩;simp only[Q6,hu];exact h1
  ·rename_i e hu;simp only[QWE,QWl,QWm]at hp;obtain⟨⟨h1,h0,hby⟩,hpe⟩:=hp;rcases DataW.trod_slice hu h with⟨rfl,_⟩|⟨a,len,cap,elems,rest,n',hk,rfl,e0,_,hl,hm,hln0,hel,_⟩
   ·refine⟨[.list []],?_,.cons (.list (cs:=[]) (sz:=0) .nil (by simp) rfl rfl (by simp) rfl (QWo _) (QWo _)) .nil,by simp[h1],rfl,rfl,Gv rfl _⟩;simp only[Q6,hu];exact⟨[],rfl,⟨QWo _,fun _=>by simp⟩,by simp,QWo _⟩
   ·obtain rfl:k=n':=by omega
    have hbx:∀x∈elems,TD P M e x.1:=fun x hx=>by
     cases e0;refine hb.imp id fun hb=>hb.imp (fun hb=>⟨hb.1,?_⟩) fun hb=>?_
     ·replace hb:=hb.2;rw[Rows.uptoBulk]at hb;have:=Hw (l:=elems.map (·.1)) (QXB.2 ⟨x,hx,rfl⟩);omega
     ·rw[DataW.weights,hu,QXs,QXy,QWE,QWE]at hb;exact Yc hb.2.1 (QXB.2 ⟨x,hx,rfl⟩)
    have hlenM:len≤M:=by
     cases e0;rcases hb with rfl|hb|hb
     ·omega
     ·have key:∀l:List (DataW H),l.length≤Rows.uptoBulkAll l:=by
       intro l
       induction l with
       |nil=>simp
       |cons x l ih=>
        have:1≤Rows.uptoBulk x:=by unfold Rows.uptoBulk;split<;>omega
        rw[Rows.uptoBulkAll,QWv];omega
      replace hb:=hb.2;rw[Rows.uptoBulk]at hb;have:=key (elems.map (·.1));rw[QXb]at this;omega
     ·rw[DataW.weights,hu,QXs,QWE]at hb;have h5:=hb.1;simp only[QWl,QXb]at h5;have h6:elems.length*1≤(elems.length+rest.length)*P.bytesOf e:=Nat.mul_le_mul (Nat.le_add_right _ _) hby;omega
    have hlenB:M=reachBytes→len*P.bytesOf e≤M:=fun hM=>by
     cases e0;rcases hb with rfl|hb|hb
     ·exact absurd hM (by unfold maxLen reachBytes;omega)
     ·exact absurd hM hb.1
     ·rw[DataW.weights,hu,QXs,QWE]at hb;have h5:=hb.1;simp only[QWl,QXb]at h5;have h6:elems.length*P.bytesOf e≤(elems.length+rest.length)*P.bytesOf e:=Nat.mul_le_mul (Nat.le_add_right _ _) (QWe _);have h7:len*P.bytesOf e=elems.length*P.bytesOf e:=by rw[show len=elems.length by omega]
      omega
    haveI:Inhabited ({c:List Value // c.length=P.cellsOf e}×List AV):=⟨(⟨List.replicate (P.cellsOf e) (.bool false),by simp⟩,[])⟩
    obtain⟨F,hF⟩:=choose_lt (α:={c:List Value // c.length=P.cellsOf e}×List AV) (n:=len) (p:=fun i x=>W.cells? 0 (a.add (i*P.cellsOf e)) (P.cellsOf e)=some x.1.1∧Q6 P M k e x.2∧RepL (Gh.bare fun b o=>sv W b o) x.2 x.1.1∧x.2.length=P.cellsOf e∧AV.rfL x.2=true∧x.2.all AV.leaf=true∧∀d,elems[i]? = some d→JC x.2≤Rows.uptoBulk d.1) (fun i hi=>by
     have hb:=hel i hi;rw[QWh (by omega)]at hb;obtain⟨cs',c1,c2⟩:=Option.bind_eq_some_iff.1 hb;obtain⟨_,hln,_⟩:=World.cells?_some c1;obtain⟨avs,o1,o2,o3,o4,o5,o6⟩:=Ug hP k e cs' _ _ hpe c2 (hbx _ (QW8 _));exact⟨(⟨cs',hln⟩,avs),c1,o1,o2,o3,o4,o5,fun d hd=>by
      rw[QWh (by omega)]at hd;cases hd;exact o6⟩)
    have cellAt:∀i j,i<len→j<P.cellsOf e→W.cell? (a.add (i*P.cellsOf e+j))=(F i).1.1[j]?:=by
     intro i j hi hj;obtain⟨_,_,h3⟩:=World.cells?_some (hF i hi).1;rw[←h3 j hj,add_add]
    have hspot:0<len→a.spot=none:=by
     intro hc;have:=cellAt 0 0 hc h0;rw[Nat.zero_mul,show a.add (0+0)=a from rfl,QWh (by rw[(F 0).1.2];exact h0)]at this;unfold World.cell? at this;split at this
     ·split at this
      ·cases this
      ·rename_i h;simpa using h
     ·cases this
    have hel':∀c∈(List.range len).map (fun i=>(F i).2),∃i,i<len∧c=(F i).2:=by
     intro c hc;obtain⟨i,hi,rfl⟩:=QXB.1 hc;exact⟨i,QXO.1 hi,rfl⟩
    have hflat:∀L:List (List AV),(∀c∈L,c.all AV.leaf=true)→QK (L.map Xs)=L.flatten:=by
     intro L
     induction L with
     |nil=>intro _;rfl
     |cons c L ih=>
      intro hh;show(Xs c).cells++QK (L.map Xs)=c++L.flatten;rw[Hd (hh c (by simp)),ih fun x hx=>hh x (by simp[hx])]
    have hrf:∀L:List (List AV),(∀c∈L,AV.rfL c=true)→AV.rfL L.flatten=true:=by
     intro L
     induction L with
     |nil=>intro _;rfl
     |cons c L ih=>
      intro hh;rw[List.flatten_cons,K0,hh c (by simp),ih fun x hx=>hh x (by simp[hx])]<;>rfl
    have hlf:∀L:List (List AV),(∀c∈L,c.all AV.leaf=true)→L.flatten.all AV.leaf=true:=by
     intro L
     induction L with
     |nil=>intro _;rfl
     |cons c L ih=>
      intro hh;rw[List.flatten_cons,QXy,hh c (by simp),ih fun x hx=>hh x (by simp[hx])]<;>rfl
    have hl1:∀c∈(List.range len).map (fun i=>(F i).2),c.all AV.leaf=true:=fun c hc=>by
     obtain⟨i,hi,rfl⟩:=hel' c hc;exact(hF i hi).2.2.2.2.2.1
    have hl2:∀c∈(List.range len).map (fun i=>(F i).2),AV.rfL c=true:=fun c hc=>by
     obtain⟨i,hi,rfl⟩:=hel' c hc;exact(hF i hi).2.2.2.2.1
    have hwt:JC [.list (((List.range len).map fun i=>(F i).2).map Xs)]≤Rows.uptoBulk d:=by
     cases e0;have hw:=fun n hn=>Bv (fun i=>if i<len then(F i).2 else []) (elems.map (·.1)) (fun i d hd=>by
      rw[QXE]at hd;obtain⟨x,h1,rfl⟩:=QWj.1 hd;by_cases hi:i<len
      ·rw[QWJ hi];exact(hF i hi).2.2.2.2.2.2 x h1
      ·rw[QWu hi];exact QWo _) n hn
     have h1:=hw len (by rw[QXb];omega);rw[QWO (by rw[QXb];omega)]at h1;have h2:(List.range len).map (fun i=>if i<len then(F i).2 else [])=(List.range len).map fun i=>(F i).2:=by
      refine QX2 fun i hi=>?_
      rw[QWJ (QXO.1 hi)]
     rw[h2]at h1;rw[JC,JC,wt,Rows.uptoBulk];omega
    refine⟨[.list (((List.range len).map fun i=>(F i).2).map Xs)],?_,.cons (.list (cs:=((List.range len).map fun i=>(F i).1.1).flatten) (sz:=P.cellsOf e) ?_ ?_ ?_ ?_ ?_ (by simp) hl (by omega)) .nil,by simp[h1],rfl,rfl,hwt⟩
    ·simp only[Q6,hu];refine⟨_,rfl,⟨by simp;omega,fun hM=>by simpa using hlenB hM⟩,?_,by simpa using hlenM⟩;intro c hc;obtain⟨i,hi,rfl⟩:=hel' c hc;exact(hF i hi).2.1
    ·rw[hflat _ hl1];refine Uf (by simp) fun i g1 g2=>?_
     simp only[QXb,List.length_range]at g1;simp only[List.getElem_map,List.getElem_range];exact(hF i (by omega)).2.2.1
    ·intro x hx;obtain⟨c,hc,rfl⟩:=QXB.1 hx;rw[Hd (hl1 c hc)];obtain⟨i,hi,rfl⟩:=hel' c hc;exact(hF i hi).2.2.2.1
    ·rw[hflat _ hl1];exact hrf _ hl2
    ·rw[hflat _ hl1];exact hlf _ hl1
    ·intro j u hj;rw[←List.flatMap_def,Hc h0 (fun i=>(F i).1.2)]at hj;by_cases hi:j / P.cellsOf e<len
     ·rw[List.getElem?_range hi]at hj;have hj:(F (j / P.cellsOf e)).1.1[j % P.cellsOf e]? = some u:=hj;have hk:=cellAt (j / P.cellsOf e) (j % P.cellsOf e) (by omega) (Nat.mod_lt _ h0);rw[hj,Nat.div_add_mod']at hk;have hs:=hspot (Nat.lt_of_le_of_lt (QWo _) hi);obtain⟨b,o,s⟩:=a;subst hs;refine⟨b,o,rfl,?_⟩;refine UF ?_;show W.cell? ⟨b,o+j,none⟩=some u;rw[←hk];unfold Addr.add;split
      ·rename_i h;rw[h];rfl
      ·rfl
     ·rw[QXF (by simp;omega)]at hj;cases hj
  ·cases hp

theorem Gw {t:TypeId}{v:Value}{d:DataW H}{p:List MemPlace}(hl:laidOutB P=true)(hr:P.readableRec t=true)(hrow:t<P.types.size)(h:DataW.Trod enc P W 0 (fun _=>true) true t v d p) :
  ∀(W':World) (sp:Nat→Bool),Below W.heap.size W W'→(∀q∈p,sp q.block=true)→DataW.Trod enc P W' 0 sp true t v d p:=by
 intro W' sp hb hs;obtain⟨n,hn⟩:=h;exact Trod_stays hl hr hrow ⟨n,hn⟩ (fun x hx=>hb.same (DataW.trod_lt n _ _ _ hn x hx)) hs

theorem Hf {t:TypeId}{fs:Array Field}{ts:List TypeId}{r:Reach}{b0:Nat}{v:Value}{d:DataW H}{p:List MemPlace}(hP:Pr P ts=true)(ht:ts.contains t=true)(hs:P.underlying t=some (.struct fs))(hv:Value.okWide P W r b0 t v)
  (h:DataW.Trod enc P W 0 (fun _=>true) true t v d p) (hb:TD P M t d):∃k avs,Q6 P M k t avs∧Rep (Gh.bare fun b o=>sv W b o) (.agg avs) v:=by
 obtain⟨⟨cs⟩,rfl,_⟩:=okWide_struct hs hv;obtain⟨n,hn⟩:=h;obtain⟨avs,h1,h2,_⟩:=Ug hP n t _ _ _ ht hn hb;exact⟨n,avs,h1,.agg h2⟩
theorem Zs {X:Type}{f:X→List AV}{ok:X→Prop}:∀ {l:List (List AV)},(∀c∈l,∃x,ok x∧c=f x)→∃xs:List X,l=xs.map f∧∀x∈xs,ok x
 | [],_=>⟨[],rfl,by simp⟩
 |c :: l,h=>by
  obtain⟨x,hx,rfl⟩:=h c (by simp);obtain⟨xs,rfl,hxs⟩:=Zs (l:=l) fun c hc=>h c (by simp[hc])
  exact⟨x :: xs,rfl,by simpa using ⟨hx,hxs⟩⟩

end

end Go.Proofs.YtdhlbgejhcejcaaGreatDoor.Br

namespace Go.Proofs.YtdhlbgejhcejcaaGreatDoor.Br
open Go Am

section
variable {P:Program}{M k:Nat}{t:TypeId}{cs:List AV}

theorem Xw {ik:IntKind}(hu:P.underlying t=some (.int ik))(h:Q6 P M k t cs):∃n,cs=[.int ik n]∧(Lit.int ik n).wf=true:=by
 cases k with
 |zero=>cases h
 |succ k=>simpa only [Q6,hu]using h

theorem RS (hu:P.underlying t=some .bool)(h:Q6 P M k t cs):∃b,cs=[.bool b]:=by
 cases k with
 |zero=>cases h
 |succ k=>simpa only [Q6,hu]using h

theorem Jr (hu:P.underlying t=some .string)(h:Q6 P M k t cs):∃s,cs=[.str s]∧s.length≤M:=by
 cases k with
 |zero=>cases h
 |succ k=>simpa only [Q6,hu]using h

theorem Jd {e:TypeId}(hu:P.underlying t=some (.slice e))(h:Q6 P M k t cs):∃(k':Nat) (l:List (List AV)),cs=[.list (l.map Xs)]∧l.length≤maxLen∧∀c∈l,Q6 P M k' e c:=by
 cases k with
 |zero=>cases h
 |succ k=>
  simp only[Q6,hu]at h;obtain⟨l,h1,h2,h3,_⟩:=h;exact⟨k,l,h1,h2.1,h3⟩

theorem K6 {e:TypeId}(hu:P.underlying t=some (.slice e))(h:Q6 P M k t cs):∃(k':Nat) (l:List (List AV)),cs=[.list (l.map Xs)]∧l.length≤M∧∀c∈l,Q6 P M k' e c:=by
 cases k with
 |zero=>cases h
 |succ k=>
  simp only[Q6,hu]at h;obtain⟨l,h1,_,h3,h4⟩:=h;exact⟨k,l,h1,h4,h3⟩

theorem Zd {fs:Array Field}(hu:P.underlying t=some (.struct fs))(h:Q6 P M k t cs):∃k',Q6.HasL (Q6 P M k') fs.toList cs:=by
 cases k with
 |zero=>cases h
 |succ k=>
  simp only[Q6,hu]at h;exact⟨k,h⟩

end

structure PO where
 num:Int
 name:List UInt8
 alias:List UInt8
 card:Int
 key:Int
 kind:Int
 target:Int
 union:Int

def PO.cells (o:PO):List AV:=[.int .i64 o.num,.str o.name,.str o.alias,.int .i64 o.card,.int .i64 o.key,.int .i64 o.kind,.int .i64 o.target,.int .i64 o.union]

structure PO.ok (M:Nat)(o:PO):Prop where
 num:(Lit.int .i64 o.num).wf=true
 name:o.name.length≤M
 alias:o.alias.length≤M
 card:(Lit.int .i64 o.card).wf=true
 key:(Lit.int .i64 o.key).wf=true
 kind:(Lit.int .i64 o.kind).wf=true
 target:(Lit.int .i64 o.target).wf=true
 union:(Lit.int .i64 o.union).wf=true

theorem QvT {M k:Nat}{cs:List AV}(h:Q6 Tryz.prog M k 67 cs):∃o:PO,o.ok M∧cs=o.cells:=by
 obtain⟨k,h⟩:=Zd Tryz.underlying67 h;simp only[Q6.HasL]at h;obtain⟨_,_,rfl,h0,_,_,rfl,h1,_,_,rfl,h2,_,_,rfl,h3,_,_,rfl,h4,_,_,rfl,h5,_,_,rfl,h6,_,_,rfl,h7,rfl⟩:=h;obtain⟨a0,rfl,w0⟩:=Xw Tryz.underlying3 h0;obtain⟨a1,rfl,w1⟩:=Jr Tryz.underlying9 h1;obtain⟨a2,rfl,w2⟩:=Jr Tryz.underlying9 h2;obtain⟨a3,rfl,w3⟩:=Xw Tryz.underlying3 h3;obtain⟨a4,rfl,w4⟩:=Xw Tryz.underlying3 h4;obtain⟨a5,rfl,w5⟩:=Xw Tryz.underlying3 h5;obtain⟨a6,rfl,w6⟩:=Xw Tryz.underlying3 h6;obtain⟨a7,rfl,w7⟩:=Xw Tryz.underlying3 h7;exact⟨⟨a0,a1,a2,a3,a4,a5,a6,a7⟩,⟨w0,w1,w2,w3,w4,w5,w6,w7⟩,rfl⟩

structure PG where
 name:List UInt8
 ops:List PO
 unions:Int

def PG.cells (g:PG):List AV:=[.str g.name,.list (g.ops.map fun o=>.agg o.cells),.int .i64 g.unions]

structure PG.ok (M:Nat)(g:PG):Prop where
 name:g.name.length≤M
 len:g.ops.length≤maxLen
 ops:∀o∈g.ops,o.ok M
 unions:(Lit.int .i64 g.unions).wf=true

theorem RT {M k:Nat}{cs:List AV}(h:Q6 Tryz.prog M k 41 cs):∃g:PG,g.ok M∧cs=g.cells:=by
 obtain⟨k,h⟩:=Zd Tryz.underlying41 h;simp only[Q6.HasL]at h;obtain⟨_,_,rfl,h0,_,_,rfl,h1,_,_,rfl,h2,rfl⟩:=h;obtain⟨a0,rfl,w0⟩:=Jr Tryz.underlying9 h0;obtain⟨k',l,rfl,w1,hl⟩:=Jd Tryz.underlying39 h1;obtain⟨a2,rfl,w2⟩:=Xw Tryz.underlying3 h2;obtain⟨ops,rfl,hok⟩:=Zs (f:=PO.cells) (ok:=PO.ok M) fun c hc=>QvT (hl c hc)
 refine⟨⟨a0,ops,a2⟩,⟨w0,by simpa using w1,hok,w2⟩,?_⟩;simp only[PG.cells,QX3,QWC,QWD];rfl

structure PS where
 lo:Int
 hi:Int

def PS.cells (x:PS):List AV:=[.int .i64 x.lo,.int .i64 x.hi]
def PS.ok (x:PS):Prop:=(Lit.int .i64 x.lo).wf=true∧(Lit.int .i64 x.hi).wf=true

theorem RU {M k:Nat}{cs:List AV}(h:Q6 Tryz.prog M k 119 cs):∃x:PS,x.ok∧cs=x.cells:=by
 obtain⟨k,h⟩:=Zd Tryz.underlying119 h;simp only[Q6.HasL]at h;obtain⟨_,_,rfl,h0,_,_,rfl,h1,rfl⟩:=h;obtain⟨a0,rfl,w0⟩:=Xw Tryz.underlying3 h0;obtain⟨a1,rfl,w1⟩:=Xw Tryz.underlying3 h1;exact⟨⟨a0,a1⟩,⟨w0,w1⟩,rfl⟩

structure PN where
 name:List UInt8
 val:List AV

def PN.cells (x:PN):List AV:=.str x.name :: x.val
def PN.ok (P:Program)(M:Nat)(t:TypeId)(x:PN):Prop:=x.name.length≤M∧∃k,Q6 P M k t x.val

theorem Bw {M k:Nat}{cs:List AV}(h:Q6 Tryz.prog M k 94 cs):∃x:PN,x.ok Tryz.prog M 32∧cs=x.cells:=by
 obtain⟨k,h⟩:=Zd Tryz.underlying94 h;simp only[Q6.HasL]at h;obtain⟨_,_,rfl,h0,a1,_,rfl,h1,rfl⟩:=h;obtain⟨a0,rfl,w0⟩:=Jr Tryz.underlying9 h0;exact⟨⟨a0,a1⟩,⟨w0,k,h1⟩,by simp[PN.cells]⟩

structure PI where
 name:List UInt8
 num:Int
 notes:List PN

def PI.cells (x:PI):List AV:=[.str x.name,.int .i64 x.num,.list (x.notes.map fun n=>Xs n.cells)]

structure PI.ok (M:Nat)(x:PI):Prop where
 name:x.name.length≤M
 num:(Lit.int .i64 x.num).wf=true
 len:x.notes.length≤maxLen
 notes:∀n∈x.notes,n.ok Tryz.prog M 32

theorem RV {M k:Nat}{cs:List AV}(h:Q6 Tryz.prog M k 92 cs):∃x:PI,x.ok M∧cs=x.cells:=by
 obtain⟨k,h⟩:=Zd Tryz.underlying92 h;simp only[Q6.HasL]at h;obtain⟨_,_,rfl,h0,_,_,rfl,h1,_,_,rfl,h2,rfl⟩:=h;obtain⟨a0,rfl,w0⟩:=Jr Tryz.underlying9 h0;obtain⟨a1,rfl,w1⟩:=Xw Tryz.underlying3 h1;obtain⟨k',l,rfl,w2,hl⟩:=Jd Tryz.underlying88 h2;obtain⟨ns,rfl,hok⟩:=Zs (f:=PN.cells) (ok:=PN.ok Tryz.prog M 32) fun c hc=>Bw (hl c hc)
 refine⟨⟨a0,a1,ns⟩,⟨w0,w1,by simpa using w2,hok⟩,?_⟩;simp only[PI.cells,QX3,QWC,QWD];rfl

structure PE where
 name:List UInt8
 opn:Bool
 items:List PI
 free:List PS
 notes:List PN

def PE.cells (x:PE):List AV:=[.str x.name,.bool x.opn,.list (x.items.map fun n=>.agg n.cells),.list (x.free.map fun n=>.agg n.cells),.list (x.notes.map fun n=>Xs n.cells)]

structure PE.ok (M:Nat)(x:PE):Prop where
 name:x.name.length≤M
 len1:x.items.length≤maxLen
 items:∀n∈x.items,n.ok M
 len2:x.free.length≤maxLen
 free:∀n∈x.free,n.ok
 len3:x.notes.length≤maxLen
 notes:∀n∈x.notes,n.ok Tryz.prog M 32

theorem RX {M k:Nat}{cs:List AV}(h:Q6 Tryz.prog M k 90 cs):∃x:PE,x.ok M∧cs=x.cells:=by
 obtain⟨k,h⟩:=Zd Tryz.underlying90 h;simp only[Q6.HasL]at h;obtain⟨_,_,rfl,h0,_,_,rfl,h1,_,_,rfl,h2,_,_,rfl,h3,_,_,rfl,h4,rfl⟩:=h;obtain⟨a0,rfl,w0⟩:=Jr Tryz.underlying9 h0;obtain⟨a1,rfl⟩:=RS Tryz.underlying4 h1;obtain⟨k2,l2,rfl,w2,hl2⟩:=Jd Tryz.underlying86 h2;obtain⟨k3,l3,rfl,w3,hl3⟩:=Jd Tryz.underlying87 h3;obtain⟨k4,l4,rfl,w4,hl4⟩:=Jd Tryz.underlying88 h4;obtain⟨x2,rfl,o2⟩:=Zs (f:=PI.cells) (ok:=PI.ok M) fun c hc=>RV (hl2 c hc)
 obtain⟨x3,rfl,o3⟩:=Zs (f:=PS.cells) (ok:=PS.ok) fun c hc=>RU (hl3 c hc)
 obtain⟨x4,rfl,o4⟩:=Zs (f:=PN.cells) (ok:=PN.ok Tryz.prog M 32) fun c hc=>Bw (hl4 c hc)
 refine⟨⟨a0,a1,x2,x3,x4⟩,⟨w0,by simpa using w2,o2,by simpa using w3,o3,by simpa using w4,o4⟩,?_⟩;simp only[PE.cells,QX3,QWC,QWD];rfl

structure PL where
 progs:List PG
 enums:List PE

def PL.av (p:PL):AV:=.agg [.list (p.progs.map fun n=>.agg n.cells),.list (p.enums.map fun n=>.agg n.cells)]

structure PL.ok (M:Nat)(x:PL):Prop where
 len1:x.progs.length≤maxLen
 progs:∀n∈x.progs,n.ok M
 len2:x.enums.length≤maxLen
 enums:∀n∈x.enums,n.ok M

theorem RY {M k:Nat}{cs:List AV}(h:Q6 Tryz.prog M k 25 cs):∃x:PL,x.ok M∧.agg cs=x.av:=by
 obtain⟨k,h⟩:=Zd Tryz.underlying25 h;simp only[Q6.HasL]at h;obtain⟨_,_,rfl,h0,_,_,rfl,h1,rfl⟩:=h;obtain⟨k2,l2,rfl,w2,hl2⟩:=Jd Tryz.underlying22 h0;obtain⟨k3,l3,rfl,w3,hl3⟩:=Jd Tryz.underlying23 h1;obtain⟨x2,rfl,o2⟩:=Zs (f:=PG.cells) (ok:=PG.ok M) fun c hc=>RT (hl2 c hc)
 obtain⟨x3,rfl,o3⟩:=Zs (f:=PE.cells) (ok:=PE.ok M) fun c hc=>RX (hl3 c hc)
 refine⟨⟨x2,x3⟩,⟨by simpa using w2,o2,by simpa using w3,o3⟩,?_⟩;simp only[PL.av,QX3,QWC,QWD];rfl

end Go.Proofs.YtdhlbgejhcejcaaGreatDoor.Br

namespace Go.Proofs.YtdhlbgejhcejcaaGreatDoor.Va
open Go Am Rc Bt Br

def XN {α:Type}(p:α→Bool):List α→Nat→Int
 | [],_=>-1
 |x :: l,i=>if p x=true then(i:Int)else XN p l (i+1)

theorem Hx {α:Type}(p:α→Bool):∀(l:List α) (i:Nat),(XN p l i = -1∧l.find? p=none)∨∃k o,XN p l i=((i+k:Nat):Int)∧l[k]? = some o∧l.find? p=some o
 | [],_=>.inl ⟨rfl,rfl⟩
 |x :: l,i=>by
  unfold XN;rw[QX4];cases h:p x with
  |true=>exact .inr ⟨0,x,by simp,rfl,rfl⟩
  |false=>
   simp only[QWz,if_false];rcases Hx p l (i+1)with h'|⟨k,o,h1,h2,h3⟩
   ·exact .inl h'
   ·exact .inr ⟨k+1,o,by rw[h1];congr 1;omega,by simpa using h2,h3⟩

theorem Je {α:Type}(p:α→Bool){l:List α}{i:Nat}{x:α}(hx:l[i]? = some x):XN p (l.drop i) i=if p x=true then(i:Int)else XN p (l.drop (i+1)) (i+1):=by
 have hlt:i<l.length:=(QWg.1 hx).1;rw[QWY hlt,show l[i]=x from(QWg.1 hx).2];rfl

def Qv (o:PO):AV:=.agg o.cells
def Qp (g:PG):AV:=.agg g.cells
def Xe (x:PI):AV:=.agg x.cells
def Qr (x:PE):AV:=.agg x.cells

section ops
variable (L:List PO)(hl:L.length≤maxLen)(p:PO→Bool)(c:Nat)(cap:AV)(m:Qn)

def IxO (k:Nat)(st:St):Prop :=
 ∃f i,st=⟨f,Qd :: m,[]⟩∧k=L.length-i∧XN p L 0=XN p (L.drop i) i∧f 0=.list (L.map Qv)∧f 1=.fn (.func c) [] [cap.sh]∧f 7=.int .i64 (L.length:Nat)∧f 8=.int .i64 (i:Nat)

include hl in
theorem QO7 (hc:∀o∈L,Qh Tryz.prog c [Qv o,cap.sh] (Qd :: m) fun y m1=>y=.bool (p o)∧m1=Qd :: m) :
  Qh Tryz.prog 196 [.list (L.map Qv),.fn (.func c) [] [cap]] m fun y m1=>y=.int .i64 (XN p L 0)∧m1=m:=by
 refine RH.go (by simp) ?_;simp only[QXb,Qa,seval];refine Qc (IxO L p c cap m) _ ⟨_,0,rfl,rfl,rfl,(by rfl),(by rfl),(by rfl),(by rfl)⟩ ?_;rintro _ st ⟨f,i,rfl,rfl,hx,h0,h1,h7,h8⟩;simp only[h7,h8,Qa,seval];by_cases hlt:i<L.length
 ·obtain⟨x,hi⟩:∃x,L[i]? = some x:=⟨L[i],QWh hlt⟩;have hcl:=hc x (QWt hi);have hg:(L.map Qv)[i]? = some (Qv x):=by simp[hi]
  have e1:=Qo i _ hlt hl;simp only[Qv,PO.cells]at hcl;simp only[Ql hlt,Qg,QXI,Qb,hg,Qv,PO.cells,h0,h1,h8,eE,seval];refine XM (fa:=[]) (fb:=[cap.sh]) (by rfl) hcl (by simp only[QWM,QXh,QWD,QWC,Qa,seval]) ?_;rw[Je p hi]at hx;cases hp:p x
  ·rw[hp]at hx;simp only[QWz,if_false]at hx;simp only[h8,e1,Qa,seval];exact⟨L.length-(i+1),by omega,_,i+1,rfl,rfl,hx,(by exact h0),(by exact h1),(by exact h7),(by rfl)⟩
  ·rw[hp]at hx;simp only[if_true]at hx;simp only[hx,Qa,seval]
 ·have hx':XN p L 0 = -1:=by rw[hx,QWR (by omega)];rfl
  simp only[QA hlt,hx',Qa,seval]

end ops

def Gx:PO:=⟨0,[],[],0,0,0,0,0⟩
def Gy (p:PO→Bool)(L:List PO):AV:=.tup [Qv ((L.find? p).getD Gx),.bool (L.find? p).isSome]

theorem QO8 (g:PG)(hl:g.ops.length≤maxLen)(p:PO→Bool)(c:Nat)(cap:AV)(m:Qn)(hc:∀fr,∀o∈g.ops,Qh Tryz.prog c [Qv o,cap.sh.sh] (Qd :: fr :: m) fun y m1=>y=.bool (p o)∧m1=Qd :: fr :: m) :
  Qh Tryz.prog 114 [.agg [.fn (.func c) [] [cap]],Qp g] m fun y m1=>y=Gy p g.ops∧m1=m:=by
 refine Qdh.go (by simp) ?_;simp only[Qp,PG.cells,eE,seval];refine Qj (QO7 g.ops hl p c cap.sh _ fun o ho=>hc _ o ho) (by simp only[QWM,QXh,Qa,seval];rfl) ?_;rcases Hx p g.ops 0 with⟨h1,h2⟩|⟨j,o,h1,h2,h3⟩
 ·simp only[h1,Gy,h2,QXQ,QW5,Gx,Qv,PO.cells,splice,QXp,QWD,QWQ,QWX,QXv,QXj,QWv,QXc,QXs,QXt,AV.leaf,eE,seval]
 ·have hj:(g.ops.map fun o=>AV.agg o.cells)[j]? = some (.agg o.cells):=by simp[h2]
  have d:decide ((j:Int)<0)=false:=QX5 (by omega);rw[QWW]at h1;simp only[PO.cells]at hj;simp only[h1,d,Qg,QXI,Qb,QWW,hj,Gy,h3,QXr,QX6,Qv,PO.cells,splice,QXp,QWD,QWQ,QWX,QXv,QXj,QWv,QXc,QXs,QXt,AV.leaf,eE,seval]

section
variable (o:PO)(fr frO:Nat→Ob)

theorem QO9 (n:Int)(hf:frO 3=.cells [.int .i64 n]):Qh Tryz.prog 113 [Qv o,.ptr 2 3 0] [Qd,fr,frO] fun y m1=>y=.bool (o.num==n)∧m1=[Qd,fr,frO]:=by
 refine Qc9.go (by simp) ?_;simp only[hf,Qv,PO.cells,eE,seval]

end

theorem y66 (g:PG)(hl:g.ops.length≤maxLen)(n:Int):Qi Tryz.prog 66 [Qp g,.int .i64 n] (Gy (fun o=>o.num==n) g.ops):=by
 refine k66.fn (by simp) ?_;simp only[Qp,PG.cells,eE,seval];refine Qj (QO8 g hl (fun o=>o.num==n) 113 (.ptr 0 3 0) _ fun fr o _=>QO9 o fr _ n (by rfl)) (by simp only[QWM,QXh,Qp,PG.cells,Qa,seval]) ?_;simp only[Gy,Qv,PO.cells,splice,QXp,QWD,QWQ,QWX,QXv,QXj,QWv,QXc,QXs,QXt,AV.leaf,eE,seval]

def QB (p:Nat→Bool):Nat→Bool
 |0=>true
 |n+1=>QB p n&&p n

theorem QI {p:Nat→Bool}{n:Nat}:QB p n=true↔∀i,i<n→p i=true:=by
 induction n with
 |zero=>simp[QB]
 |succ n ih=>
  simp only[QB,QWE,ih]
  constructor
  ·rintro⟨h1,h2⟩ i hi;rcases Nat.lt_succ_iff_lt_or_eq.1 hi with h|rfl
   ·exact h1 i h
   ·exact h2
  ·intro h;exact⟨fun i hi=>h i (by omega),h n (by omega)⟩

theorem Cf {p:Nat→Bool}{n i:Nat}(hi:i<n)(h:p i=false):QB p n=false:=by
 rw[QX7];intro h';rw[QI.1 h' i hi]at h;cases h

theorem Hy {p q:Nat→Bool}{n:Nat}:QB (fun i=>p i&&q i) n=(QB p n&&QB q n):=by
 induction n with
 |zero=>rfl
 |succ n ih=>
  simp only[QB,ih];cases QB p n<;>cases QB q n<;>cases p n<;>cases q n<;>rfl

def Hg {α:Type}(l:List α)(q:α→Bool)(i:Nat):Bool:=match l[i]? with
 |some x=>q x
 |none=>true

theorem Yd {α:Type}{l:List α}{q:α→Bool}{i:Nat}{x:α}(h:l[i]? = some x):Hg l q i=q x:=by
 unfold Hg;rw[h]

theorem Hz {α:Type}(l:List α)(q:α→Bool):QB (Hg l q) l.length=l.all q:=by
 rw[QXa,QI,QWs]
 constructor
 ·intro h x hx;obtain⟨i,hi⟩:=QWr.1 hx;have:=h i (QWg.1 hi).1
  rwa [Yd hi]at this
 ·intro h i hi;rw[Yd (QWh hi)];exact h _ (QW8 _)

def Xa {α:Type}(l:List α)(lt:α→α→Bool)(i:Nat):Bool:=match i with
 |0=>true
 |k+1=>match l[k]?,l[k+1]? with
  |some x,some y=>lt x y
  |_,_=>true

theorem Jf {α:Type}{l:List α}{lt:α→α→Bool}{k:Nat}{x y:α}(h:l[k]? = some x)(h':l[k+1]? = some y):Xa l lt (k+1)=lt x y:=by
 unfold Xa;simp only[h,h']
theorem Yv {α:Type}{l:List α}{lt:α→α→Bool}:Xa l lt 0=true:=rfl

def XX {α:Type}(l:List α)(lt:α→α→Bool):Bool:=QB (Xa l lt) l.length

def uniq {α:Type}(l:List α)(nm:α→List UInt8)(i:Nat):Bool:=match l[i]? with
 |some x=>(l.take i).all fun y=>!(nm y==nm x)
 |none=>true
theorem UK {α:Type}{l:List α}{nm:α→List UInt8}{i:Nat}{x:α}(h:l[i]? = some x):uniq l nm i=(l.take i).all fun y=>!(nm y==nm x):=by
 unfold uniq;rw[h]
def Kx {α:Type}(l:List α)(nm:α→List UInt8):Bool:=QB (uniq l nm) l.length

theorem Q5 {α:Type}{l:List α}{q:α→Bool}{i:Nat}{x:α}(h:l[i]? = some x):(l.take (i+1)).all q=((l.take i).all q&&q x):=by
 rw[QX0,h];simp
theorem RZ {α:Type}{l:List α}{q:α→Bool}{i:Nat}{x:α}(h:l[i]? = some x):(l.take (i+1)).any q=((l.take i).any q||q x):=by
 rw[QX0,h];simp
theorem Du {α:Type}{l:List α}{q:α→Bool}:(l.all fun x=>!q x)=!l.any q:=by
 induction l with
 |nil=>rfl
 |cons x l ih=>simp[ih]

def JD (c:UInt8):Bool:=(decide (97≤c.toNat)&&decide (c.toNat≤122))||(decide (65≤c.toNat)&&decide (c.toNat≤90))
def Z4 (c:UInt8):Bool:=JD c||c.toNat==95||(decide (48≤c.toNat)&&decide (c.toNat≤57))
def Q2:List UInt8→Bool
 | []=>false
 |c :: t=>decide ((c :: t).length≤40)&&JD c&&t.all Z4
def Yw:List (List UInt8):=[[109,101,115,115,97,103,101],[101,110,117,109],[115,101,114,118,105,99,101],[117,110,105,111,110],[109,97,112],[108,105,115,116],[114,101,113,117,105,114,101,100],[111,112,116,105,111,110,97,108],[112,108,97,105,110],[100,101,102,97,117,108,116],[114,101,115,101,114,118,101,100],
 [105,109,112,111,114,116],[115,112,97,99,101],[114,112,99],[115,116,114,101,97,109],[114,101,116,117,114,110,115],[111,112,101,110],[116,114,117,101],[102,97,108,115,101],[110,97,110],[105,110,102]]
def Zk (s:List UInt8):Bool:=Yw.any fun w=>s==w
def XH (s:List UInt8):Bool:=Q2 s && !Zk s
def Qm:List UInt8→List (List UInt8)
 | []=>[[]]
 |c :: t=>if c=46 then [] :: Qm t else match Qm t with
  | []=>[[c]]
  |p :: ps=>(c :: p) :: ps
def Ka (s:List UInt8):Bool:=decide (s.length≤120)&&(Qm s).all Q2 && !(Qm s).any Zk

theorem Ky:∀s:List UInt8,Qm s≠[]
 | []=>by simp[Qm]
 |c :: t=>by
  unfold Qm;split
  ·simp
  ·split<;>simp

theorem D6 (a:List UInt8):∀s:List UInt8,(∀c∈a,c≠46)→Qm (a++s)=match Qm s with
  | []=>[a]
  |p :: ps=>(a++p) :: ps:=by
 induction a with
 |nil=>intro s _;cases h:Qm s with
  |nil=>exact absurd h (Ky s)
  |cons p ps=>simp[h]
 |cons c a ih=>
  intro s h;have hc:c≠46:=h c (by simp);rw[QWC,Qm,QWu hc,ih s fun x hx=>h x (by simp[hx])];cases hs:Qm s with
  |nil=>exact absurd hs (Ky s)
  |cons p ps=>rfl

theorem WN {s:List UInt8}(h:∀c∈s,c≠46):Qm s=[s]:=by
 have:=D6 s [] h
 simpa [Qm]using this

theorem Gz {a t:List UInt8}(h:∀c∈a,c≠46):Qm (a++46 :: t)=a :: Qm t:=by
 rw[D6 a _ h,Qm,QWJ rfl];simp

theorem GA {a t:List UInt8}(h:∀c∈t,c≠46):Qm (a++46 :: t)=Qm a++[t]:=by
 induction a with
 |nil=>
  show Qm (46 :: t)=[[]]++[t];rw[show Qm (46 :: t)=[] :: Qm t from by rw[Qm,QWJ rfl],WN h];rfl
 |cons c a ih=>
  rw[QWC,Qm,Qm,ih];split
  ·rfl
  ·cases hs:Qm a with
   |nil=>exact absurd hs (Ky a)
   |cons p ps=>rfl

theorem Uh (s:List UInt8):(Qm s).length=s.count 46+1:=by
 induction s with
 |nil=>rfl
 |cons c t ih=>
  unfold Qm;split
  ·rename_i h;subst h;simp[ih]
  ·rename_i h;rw[List.count_cons_of_ne (by simpa using h)];cases hs:Qm t with
   |nil=>exact absurd hs (Ky t)
   |cons p ps=>rw[hs]at ih;simpa using ih

def Z0 (g:PG):Bool:=decide (g.ops.length≤64)
def Jx (e:PE):Bool:=decide (1≤e.items.length)&&decide (e.items.length≤64)&&decide (e.free.length≤16)
def Hh (P:PL):Bool:=decide (P.progs.length≤64)&&decide (P.enums.length≤64)&&P.progs.all Z0&&P.enums.all Jx
def Kz (g:PG):Bool:=Ka g.name&&g.ops.all fun o=>XH o.name
def KU (e:PE):Bool:=Ka e.name&&e.items.all fun o=>XH o.name
def Bx (P:PL):Bool:=P.progs.all Kz&&P.enums.all KU
def Ze {α:Type}(f:α→Int)(x y:α):Bool:=decide (f x<f y)
def XI {α:Type}(f:α→List UInt8)(x y:α):Bool:=Op.bytesLess (f x) (f y)
def Jg (g:PG):Bool:=XX g.ops (Ze PO.num)
def JL (e:PE):Bool:=XX e.items (Ze PI.num)
def Hi (P:PL):Bool:=XX P.progs (XI PG.name)&&XX P.enums (XI PE.name)&&P.progs.all Jg&&P.enums.all JL
def KA (P:PL)(g:PG):Bool:=(P.enums.all fun e=>!(e.name==g.name))&&Kx g.ops PO.name
def Wm (e:PE):Bool:=Kx e.items PI.name
def Bz (P:PL):Bool:=P.progs.all (KA P)&&P.enums.all Wm
def Zl (o:PO):Bool:=decide (o.num≥1)&&decide (o.num≤65535)
def GB (x:PS):Bool:=decide (x.lo≥0)&&decide (x.hi≤2147483647)&&decide (x.lo≤x.hi)
def YZ (x y:PS):Bool:=decide (y.lo > x.hi)
def kept (l:List PS)(n:Int):Bool:=l.any fun x=>decide (x.lo≤n)&&decide (n≤x.hi)
def W2 (e:PE)(x:PI):Bool:=decide (x.num≤2147483647) && !kept e.free x.num
def Ui (e:PE):Bool:=match e.items with
 | []=>true
 |x :: _=>x.num==0
def Jh (e:PE):Bool:=e.free.all GB&&XX e.free YZ&&Ui e&&e.items.all (W2 e)
def GC (P:PL):Bool:=P.progs.all (fun g=>g.ops.all Zl)&&P.enums.all Jh

def X9 (x:PS):AV:=.agg x.cells
def Zp (x:List UInt8):AV:=.str x

theorem JM {α:Type}(p:α→Bool)(l:List α):decide (XN p l 0≥0)=l.any p:=by
 rcases Hx p l 0 with⟨h1,h2⟩|⟨k,o,h1,_,h3⟩
 ·rw[h1];have:l.any p=false:=by
   rw[List.any_eq_false];intro x hx;exact fun h=>by have:=List.find?_eq_none.1 h2 x hx;exact this h
  rw[this];rfl
 ·rw[h1];have:l.any p=true:=QX8.2 ⟨o,QX9 h3,List.find?_some h3⟩;rw[this];exact QYa (by omega)

theorem Wn (k n:Nat)(h:k+1<n)(hn:n≤maxLen):IntKind.i64.wrap (((k+1:Nat):Int)-1)=(k:Int):=by
 rw[QC];simp only[maxLen]at hn;omega

section
variable (L:List PG)(hl:L.length≤maxLen)(p:PG→Bool)(c:Nat)(cs:List AV)(m:Qn)

def JxG (k:Nat)(st:St):Prop :=
 ∃f i,st=⟨f,Qd :: m,[]⟩∧k=L.length-i∧XN p L 0=XN p (L.drop i) i∧f 0=.list (L.map Qp)∧f 1=.fn (.func c) [] (AV.shL cs)∧f 7=.int .i64 (L.length:Nat)∧f 8=.int .i64 (i:Nat)

include hl in
theorem z55 (hc:∀o∈L,Qh Tryz.prog c (Qp o :: AV.shL cs) (Qd :: m) fun y m1=>y=.bool (p o)∧m1=Qd :: m) :
  Qh Tryz.prog 55 [.list (L.map Qp),.fn (.func c) [] cs] m fun y m1=>y=.int .i64 (XN p L 0)∧m1=m:=by
 refine k55.go (by simp) ?_;simp only[QXb,Qa,seval];refine Qc (JxG L p c cs m) _ ⟨_,0,rfl,rfl,rfl,(by rfl),(by rfl),(by rfl),(by rfl)⟩ ?_;rintro _ st ⟨f,i,rfl,rfl,hx,h0,h1,h7,h8⟩;simp only[h7,h8,Qa,seval];by_cases hlt:i<L.length
 ·obtain⟨x,hi⟩:∃x,L[i]? = some x:=⟨L[i],QWh hlt⟩;have hcl:=hc x (QWt hi);have hg:(L.map Qp)[i]? = some (Qp x):=by simp[hi]
  have e1:=Qo i _ hlt hl;simp only[Qp,PG.cells]at hcl;simp only[Ql hlt,Qg,QXI,Qb,hg,Qp,PG.cells,h0,h1,h8,eE,seval];refine XM (fa:=[]) (fb:=AV.shL cs) (by rfl) hcl (by simp only[QWM,QXh,QWD,QWC,Qa,seval]) ?_;rw[Je p hi]at hx;cases hp:p x
  ·rw[hp]at hx;simp only[QWz,if_false]at hx;simp only[h8,e1,Qa,seval];exact⟨L.length-(i+1),by omega,_,i+1,rfl,rfl,hx,(by exact h0),(by exact h1),(by exact h7),(by rfl)⟩
  ·rw[hp]at hx;simp only[if_true]at hx;simp only[hx,Qa,seval]
 ·have hx':XN p L 0 = -1:=by rw[hx,QWR (by omega)];rfl
  simp only[QA hlt,hx',Qa,seval]

include hl in
theorem QPa (hc:∀o∈L,Qh Tryz.prog c (Qp o :: AV.shL (AV.shL cs)) (Qd :: Qd :: m) fun y m1=>y=.bool (p o)∧m1=Qd :: Qd :: m) :
  Qh Tryz.prog 207 [.list (L.map Qp),.fn (.func c) [] cs] m fun y m1=>y=.bool (L.any p)∧m1=m:=by
 refine Qih.go (by simp) ?_;simp only[Qa,seval];refine Qj (z55 L hl p c (AV.shL cs) _ hc) (by simp only[QWM,QXh,Qa,seval]<;>rfl) ?_;simp only[JM,Qa,seval]

include hl in
theorem Dv (hc:∀o∈L,Qh Tryz.prog c (Qp o :: AV.shL (AV.shL (AV.shL cs))) (Qd :: Qd :: Qd :: m) fun y m1=>y=.bool (p o)∧m1=Qd :: Qd :: Qd :: m) :
  Qh Tryz.prog 137 [.list (L.map Qp),.fn (.func c) [] cs] m fun y m1=>y=.bool (L.any p)∧m1=m:=by
 refine QdK.go (by simp) ?_;simp only[Qa,seval];refine Qj (QPa L hl p c (AV.shL cs) _ hc) (by simp only[QWM,QXh,Qa,seval]<;>rfl) ?_;simp only[Qa,seval]

end

section
variable (L:List PO)(hl:L.length≤maxLen)(p:PO→Bool)(c:Nat)(cs:List AV)(m:Qn)

def JxO (k:Nat)(st:St):Prop :=
 ∃f i,st=⟨f,Qd :: m,[]⟩∧k=L.length-i∧XN p L 0=XN p (L.drop i) i∧f 0=.list (L.map Qv)∧f 1=.fn (.func c) [] (AV.shL cs)∧f 7=.int .i64 (L.length:Nat)∧f 8=.int .i64 (i:Nat)

include hl in
theorem QPb (hc:∀o∈L,Qh Tryz.prog c (Qv o :: AV.shL cs) (Qd :: m) fun y m1=>y=.bool (p o)∧m1=Qd :: m) :
  Qh Tryz.prog 196 [.list (L.map Qv),.fn (.func c) [] cs] m fun y m1=>y=.int .i64 (XN p L 0)∧m1=m:=by
 refine RH.go (by simp) ?_;simp only[QXb,Qa,seval];refine Qc (JxO L p c cs m) _ ⟨_,0,rfl,rfl,rfl,(by rfl),(by rfl),(by rfl),(by rfl)⟩ ?_;rintro _ st ⟨f,i,rfl,rfl,hx,h0,h1,h7,h8⟩;simp only[h7,h8,Qa,seval];by_cases hlt:i<L.length
 ·obtain⟨x,hi⟩:∃x,L[i]? = some x:=⟨L[i],QWh hlt⟩;have hcl:=hc x (QWt hi);have hg:(L.map Qv)[i]? = some (Qv x):=by simp[hi]
  have e1:=Qo i _ hlt hl;simp only[Qv,PO.cells]at hcl;simp only[Ql hlt,Qg,QXI,Qb,hg,Qv,PO.cells,h0,h1,h8,eE,seval];refine XM (fa:=[]) (fb:=AV.shL cs) (by rfl) hcl (by simp only[QWM,QXh,QWD,QWC,Qa,seval]) ?_;rw[Je p hi]at hx;cases hp:p x
  ·rw[hp]at hx;simp only[QWz,if_false]at hx;simp only[h8,e1,Qa,seval];exact⟨L.length-(i+1),by omega,_,i+1,rfl,rfl,hx,(by exact h0),(by exact h1),(by exact h7),(by rfl)⟩
  ·rw[hp]at hx;simp only[if_true]at hx;simp only[hx,Qa,seval]
 ·have hx':XN p L 0 = -1:=by rw[hx,QWR (by omega)];rfl
  simp only[QA hlt,hx',Qa,seval]

include hl in
theorem QPc (hc:∀o∈L,Qh Tryz.prog c (Qv o :: AV.shL (AV.shL cs)) (Qd :: Qd :: m) fun y m1=>y=.bool (p o)∧m1=Qd :: Qd :: m) :
  Qh Tryz.prog 213 [.list (L.map Qv),.fn (.func c) [] cs] m fun y m1=>y=.bool (L.any p)∧m1=m:=by
 refine QiZ.go (by simp) ?_;simp only[Qa,seval];refine Qj (QPb L hl p c (AV.shL cs) _ hc) (by simp only[QWM,QXh,Qa,seval]<;>rfl) ?_;simp only[JM,Qa,seval]

include hl in
theorem BA (hc:∀o∈L,Qh Tryz.prog c (Qv o :: AV.shL (AV.shL (AV.shL cs))) (Qd :: Qd :: Qd :: m) fun y m1=>y=.bool (p o)∧m1=Qd :: Qd :: Qd :: m) :
  Qh Tryz.prog 143 [.list (L.map Qv),.fn (.func c) [] cs] m fun y m1=>y=.bool (L.any p)∧m1=m:=by
 refine Qd9.go (by simp) ?_;simp only[Qa,seval];refine Qj (QPc L hl p c (AV.shL cs) _ hc) (by simp only[QWM,QXh,Qa,seval]<;>rfl) ?_;simp only[Qa,seval]

end

section
variable (L:List PE)(hl:L.length≤maxLen)(p:PE→Bool)(c:Nat)(cs:List AV)(m:Qn)

def JxE (k:Nat)(st:St):Prop :=
 ∃f i,st=⟨f,Qd :: m,[]⟩∧k=L.length-i∧XN p L 0=XN p (L.drop i) i∧f 0=.list (L.map Qr)∧f 1=.fn (.func c) [] (AV.shL cs)∧f 7=.int .i64 (L.length:Nat)∧f 8=.int .i64 (i:Nat)

include hl in
theorem QPd (hc:∀o∈L,Qh Tryz.prog c (Qr o :: AV.shL cs) (Qd :: m) fun y m1=>y=.bool (p o)∧m1=Qd :: m) :
  Qh Tryz.prog 239 [.list (L.map Qr),.fn (.func c) [] cs] m fun y m1=>y=.int .i64 (XN p L 0)∧m1=m:=by
 refine Qkz.go (by simp) ?_;simp only[QXb,Qa,seval];refine Qc (JxE L p c cs m) _ ⟨_,0,rfl,rfl,rfl,(by rfl),(by rfl),(by rfl),(by rfl)⟩ ?_;rintro _ st ⟨f,i,rfl,rfl,hx,h0,h1,h7,h8⟩;simp only[h7,h8,Qa,seval];by_cases hlt:i<L.length
 ·obtain⟨x,hi⟩:∃x,L[i]? = some x:=⟨L[i],QWh hlt⟩;have hcl:=hc x (QWt hi);have hg:(L.map Qr)[i]? = some (Qr x):=by simp[hi]
  have e1:=Qo i _ hlt hl;simp only[Qr,PE.cells]at hcl;simp only[Ql hlt,Qg,QXI,Qb,hg,Qr,PE.cells,h0,h1,h8,eE,seval];refine XM (fa:=[]) (fb:=AV.shL cs) (by rfl) hcl (by simp only[QWM,QXh,QWD,QWC,Qa,seval]) ?_;rw[Je p hi]at hx;cases hp:p x
  ·rw[hp]at hx;simp only[QWz,if_false]at hx;simp only[h8,e1,Qa,seval];exact⟨L.length-(i+1),by omega,_,i+1,rfl,rfl,hx,(by exact h0),(by exact h1),(by exact h7),(by rfl)⟩
  ·rw[hp]at hx;simp only[if_true]at hx;simp only[hx,Qa,seval]
 ·have hx':XN p L 0 = -1:=by rw[hx,QWR (by omega)];rfl
  simp only[QA hlt,hx',Qa,seval]

include hl in
theorem QPe (hc:∀o∈L,Qh Tryz.prog c (Qr o :: AV.shL (AV.shL cs)) (Qd :: Qd :: m) fun y m1=>y=.bool (p o)∧m1=Qd :: Qd :: m) :
  Qh Tryz.prog 208 [.list (L.map Qr),.fn (.func c) [] cs] m fun y m1=>y=.bool (L.any p)∧m1=m:=by
 refine Qim.go (by simp) ?_;simp only[Qa,seval];refine Qj (QPd L hl p c (AV.shL cs) _ hc) (by simp only[QWM,QXh,Qa,seval]<;>rfl) ?_;simp only[JM,Qa,seval]

include hl in
theorem HA (hc:∀o∈L,Qh Tryz.prog c (Qr o :: AV.shL (AV.shL (AV.shL cs))) (Qd :: Qd :: Qd :: m) fun y m1=>y=.bool (p o)∧m1=Qd :: Qd :: Qd :: m) :
  Qh Tryz.prog 139 [.list (L.map Qr),.fn (.func c) [] cs] m fun y m1=>y=.bool (L.any p)∧m1=m:=by
 refine QdU.go (by simp) ?_;simp only[Qa,seval];refine Qj (QPe L hl p c (AV.shL cs) _ hc) (by simp only[QWM,QXh,Qa,seval]<;>rfl) ?_;simp only[Qa,seval]

end

section
variable (L:List PI)(hl:L.length≤maxLen)(p:PI→Bool)(c:Nat)(cs:List AV)(m:Qn)

def JxI (k:Nat)(st:St):Prop :=
 ∃f i,st=⟨f,Qd :: m,[]⟩∧k=L.length-i∧XN p L 0=XN p (L.drop i) i∧f 0=.list (L.map Xe)∧f 1=.fn (.func c) [] (AV.shL cs)∧f 7=.int .i64 (L.length:Nat)∧f 8=.int .i64 (i:Nat)

include hl in
theorem QPf (hc:∀o∈L,Qh Tryz.prog c (Xe o :: AV.shL cs) (Qd :: m) fun y m1=>y=.bool (p o)∧m1=Qd :: m) :
  Qh Tryz.prog 243 [.list (L.map Xe),.fn (.func c) [] cs] m fun y m1=>y=.int .i64 (XN p L 0)∧m1=m:=by
 refine QOi.go (by simp) ?_;simp only[QXb,Qa,seval];refine Qc (JxI L p c cs m) _ ⟨_,0,rfl,rfl,rfl,(by rfl),(by rfl),(by rfl),(by rfl)⟩ ?_;rintro _ st ⟨f,i,rfl,rfl,hx,h0,h1,h7,h8⟩;simp only[h7,h8,Qa,seval];by_cases hlt:i<L.length
 ·obtain⟨x,hi⟩:∃x,L[i]? = some x:=⟨L[i],QWh hlt⟩;have hcl:=hc x (QWt hi);have hg:(L.map Xe)[i]? = some (Xe x):=by simp[hi]
  have e1:=Qo i _ hlt hl;simp only[Xe,PI.cells]at hcl;simp only[Ql hlt,Qg,QXI,Qb,hg,Xe,PI.cells,h0,h1,h8,eE,seval];refine XM (fa:=[]) (fb:=AV.shL cs) (by rfl) hcl (by simp only[QWM,QXh,QWD,QWC,Qa,seval]) ?_;rw[Je p hi]at hx;cases hp:p x
  ·rw[hp]at hx;simp only[QWz,if_false]at hx;simp only[h8,e1,Qa,seval];exact⟨L.length-(i+1),by omega,_,i+1,rfl,rfl,hx,(by exact h0),(by exact h1),(by exact h7),(by rfl)⟩
  ·rw[hp]at hx;simp only[if_true]at hx;simp only[hx,Qa,seval]
 ·have hx':XN p L 0 = -1:=by rw[hx,QWR (by omega)];rfl
  simp only[QA hlt,hx',Qa,seval]

include hl in
theorem QPg (hc:∀o∈L,Qh Tryz.prog c (Xe o :: AV.shL (AV.shL cs)) (Qd :: Qd :: m) fun y m1=>y=.bool (p o)∧m1=Qd :: Qd :: m) :
  Qh Tryz.prog 215 [.list (L.map Xe),.fn (.func c) [] cs] m fun y m1=>y=.bool (L.any p)∧m1=m:=by
 refine QNP.go (by simp) ?_;simp only[Qa,seval];refine Qj (QPf L hl p c (AV.shL cs) _ hc) (by simp only[QWM,QXh,Qa,seval]<;>rfl) ?_;simp only[JM,Qa,seval]

include hl in
theorem Cg (hc:∀o∈L,Qh Tryz.prog c (Xe o :: AV.shL (AV.shL (AV.shL cs))) (Qd :: Qd :: Qd :: m) fun y m1=>y=.bool (p o)∧m1=Qd :: Qd :: Qd :: m) :
  Qh Tryz.prog 147 [.list (L.map Xe),.fn (.func c) [] cs] m fun y m1=>y=.bool (L.any p)∧m1=m:=by
 refine QMG.go (by simp) ?_;simp only[Qa,seval];refine Qj (QPg L hl p c (AV.shL cs) _ hc) (by simp only[QWM,QXh,Qa,seval]<;>rfl) ?_;simp only[Qa,seval]

end

section
variable (L:List PS)(hl:L.length≤maxLen)(p:PS→Bool)(c:Nat)(cs:List AV)(m:Qn)

def JxS (k:Nat)(st:St):Prop :=
 ∃f i,st=⟨f,Qd :: m,[]⟩∧k=L.length-i∧XN p L 0=XN p (L.drop i) i∧f 0=.list (L.map X9)∧f 1=.fn (.func c) [] (AV.shL cs)∧f 7=.int .i64 (L.length:Nat)∧f 8=.int .i64 (i:Nat)

include hl in
theorem QPh (hc:∀o∈L,Qh Tryz.prog c (X9 o :: AV.shL cs) (Qd :: m) fun y m1=>y=.bool (p o)∧m1=Qd :: m) :
  Qh Tryz.prog 272 [.list (L.map X9),.fn (.func c) [] cs] m fun y m1=>y=.int .i64 (XN p L 0)∧m1=m:=by
 refine QOK.go (by simp) ?_;simp only[QXb,Qa,seval];refine Qc (JxS L p c cs m) _ ⟨_,0,rfl,rfl,rfl,(by rfl),(by rfl),(by rfl),(by rfl)⟩ ?_;rintro _ st ⟨f,i,rfl,rfl,hx,h0,h1,h7,h8⟩;simp only[h7,h8,Qa,seval];by_cases hlt:i<L.length
 ·obtain⟨x,hi⟩:∃x,L[i]? = some x:=⟨L[i],QWh hlt⟩;have hcl:=hc x (QWt hi);have hg:(L.map X9)[i]? = some (X9 x):=by simp[hi]
  have e1:=Qo i _ hlt hl;simp only[X9,PS.cells]at hcl;simp only[Ql hlt,Qg,QXI,Qb,hg,X9,PS.cells,h0,h1,h8,eE,seval];refine XM (fa:=[]) (fb:=AV.shL cs) (by rfl) hcl (by simp only[QWM,QXh,QWD,QWC,Qa,seval]) ?_;rw[Je p hi]at hx;cases hp:p x
  ·rw[hp]at hx;simp only[QWz,if_false]at hx;simp only[h8,e1,Qa,seval];exact⟨L.length-(i+1),by omega,_,i+1,rfl,rfl,hx,(by exact h0),(by exact h1),(by exact h7),(by rfl)⟩
  ·rw[hp]at hx;simp only[if_true]at hx;simp only[hx,Qa,seval]
 ·have hx':XN p L 0 = -1:=by rw[hx,QWR (by omega)];rfl
  simp only[QA hlt,hx',Qa,seval]

include hl in
theorem QPi (hc:∀o∈L,Qh Tryz.prog c (X9 o :: AV.shL (AV.shL cs)) (Qd :: Qd :: m) fun y m1=>y=.bool (p o)∧m1=Qd :: Qd :: m) :
  Qh Tryz.prog 244 [.list (L.map X9),.fn (.func c) [] cs] m fun y m1=>y=.bool (L.any p)∧m1=m:=by
 refine QOl.go (by simp) ?_;simp only[Qa,seval];refine Qj (QPh L hl p c (AV.shL cs) _ hc) (by simp only[QWM,QXh,Qa,seval]<;>rfl) ?_;simp only[JM,Qa,seval]

end

section
variable (L:List (List UInt8))(hl:L.length≤maxLen)(p:(List UInt8)→Bool)(c:Nat)(cs:List AV)(m:Qn)

def JxR (k:Nat)(st:St):Prop :=
 ∃f i,st=⟨f,Qd :: m,[]⟩∧k=L.length-i∧XN p L 0=XN p (L.drop i) i∧f 0=.list (L.map Zp)∧f 1=.fn (.func c) [] (AV.shL cs)∧f 7=.int .i64 (L.length:Nat)∧f 8=.int .i64 (i:Nat)

include hl in
theorem QPj (hc:∀o∈L,Qh Tryz.prog c (Zp o :: AV.shL cs) (Qd :: m) fun y m1=>y=.bool (p o)∧m1=Qd :: m) :
  Qh Tryz.prog 240 [.list (L.map Zp),.fn (.func c) [] cs] m fun y m1=>y=.int .i64 (XN p L 0)∧m1=m:=by
 refine QkL.go (by simp) ?_;simp only[QXb,Qa,seval];refine Qc (JxR L p c cs m) _ ⟨_,0,rfl,rfl,rfl,(by rfl),(by rfl),(by rfl),(by rfl)⟩ ?_;rintro _ st ⟨f,i,rfl,rfl,hx,h0,h1,h7,h8⟩;simp only[h7,h8,Qa,seval];by_cases hlt:i<L.length
 ·obtain⟨x,hi⟩:∃x,L[i]? = some x:=⟨L[i],QWh hlt⟩;have hcl:=hc x (QWt hi);have hg:(L.map Zp)[i]? = some (Zp x):=by simp[hi]
  have e1:=Qo i _ hlt hl;simp only[Zp]at hcl;simp only[Ql hlt,Qg,QXI,Qb,hg,Zp,h0,h1,h8,eE,seval];refine XM (fa:=[]) (fb:=AV.shL cs) (by rfl) hcl (by simp only[QWM,QXh,QWD,QWC,Qa,seval]) ?_;rw[Je p hi]at hx;cases hp:p x
  ·rw[hp]at hx;simp only[QWz,if_false]at hx;simp only[h8,e1,Qa,seval];exact⟨L.length-(i+1),by omega,_,i+1,rfl,rfl,hx,(by exact h0),(by exact h1),(by exact h7),(by rfl)⟩
  ·rw[hp]at hx;simp only[if_true]at hx;simp only[hx,Qa,seval]
 ·have hx':XN p L 0 = -1:=by rw[hx,QWR (by omega)];rfl
  simp only[QA hlt,hx',Qa,seval]

include hl in
theorem QPk (hc:∀o∈L,Qh Tryz.prog c (Zp o :: AV.shL (AV.shL cs)) (Qd :: Qd :: m) fun y m1=>y=.bool (p o)∧m1=Qd :: Qd :: m) :
  Qh Tryz.prog 210 [.list (L.map Zp),.fn (.func c) [] cs] m fun y m1=>y=.bool (L.any p)∧m1=m:=by
 refine QiD.go (by simp) ?_;simp only[Qa,seval];refine Qj (QPj L hl p c (AV.shL cs) _ hc) (by simp only[QWM,QXh,Qa,seval]<;>rfl) ?_;simp only[JM,Qa,seval]

end

section
variable (L:List PG)(hl:L.length≤maxLen)(lt:PG→PG→Bool)(c:Nat)(cs:List AV)(m:Qn)

def AxG (k:Nat)(st:St):Prop :=
 ∃f i,st=⟨f,Qd :: m,[]⟩∧k=L.length-(i+1)∧QB (Xa L lt) (i+1)=true∧f 0=.list (L.map Qp)∧f 1=.fn (.func c) [] (AV.shL cs)∧f 5=.int .i64 ((i+1:Nat):Int)

include hl in
theorem QPl (hc:∀x∈L,∀y∈L,Qh Tryz.prog c (Qp x :: Qp y :: AV.shL cs) (Qd :: m) fun r m1=>r=.bool (lt x y)∧m1=Qd :: m) :
  Qh Tryz.prog 149 [.list (L.map Qp),.fn (.func c) [] cs] m fun y m1=>y=.bool (XX L lt)∧m1=m:=by
 refine Qeu.go (by simp) ?_;simp only[Qa,seval];refine Qc (AxG L lt c cs m) _ ⟨_,0,rfl,rfl,rfl,(by rfl),(by rfl),(by rfl)⟩ ?_;rintro _ st ⟨f,i,rfl,rfl,hx,h0,h1,h5⟩;simp only[QXb,h0,h5,Qa,seval];by_cases hlt:i+1<L.length
 ·obtain⟨x,hi⟩:∃x,L[i]? = some x:=⟨L[i]'(by omega),QWh (by omega)⟩;obtain⟨y,hj⟩:∃y,L[i+1]? = some y:=⟨L[i+1],QWh hlt⟩;have hcl:=hc x (QWt hi) y (QWt hj);have hg:(L.map Qp)[i]? = some (Qp x):=by simp[hi]
  have hh:(L.map Qp)[i+1]? = some (Qp y):=by simp[hj]
  have e1:=Qo (i+1) _ hlt hl;have e2:=Wn i _ hlt hl;simp only[Qp,PG.cells]at hcl;simp only[Ql hlt,e2,Qg,QXI,Qb,hg,hh,Qp,PG.cells,h0,h1,h5,eE,seval];refine XM (fa:=[]) (fb:=AV.shL cs) (by rfl) hcl (by simp only[QWM,QXh,QWD,QWC,Qa,seval]) ?_;have hs:QB (Xa L lt) (i+2)=lt x y:=by
   show(QB (Xa L lt) (i+1)&&Xa L lt (i+1))=_;rw[hx,Jf hi hj,QXT]
  cases hp:lt x y
  ·rw[hp]at hs;have hf:XX L lt=false:=by
    rw[QX7];intro h';rw[QI.2 fun k hk=>QI.1 h' k (by omega)]at hs;cases hs
   simp only[hf,Qa,seval]
  ·rw[hp]at hs;simp only[h5,e1,Qa,seval];exact⟨L.length-(i+2),by omega,_,i+1,rfl,rfl,hs,(by exact h0),(by exact h1),(by rfl)⟩
 ·have hf:XX L lt=true:=QI.2 fun k hk=>QI.1 hx k (by omega)
  simp only[QA hlt,hf,Qa,seval]

end

section
variable (L:List PO)(hl:L.length≤maxLen)(lt:PO→PO→Bool)(c:Nat)(cs:List AV)(m:Qn)

def AxO (k:Nat)(st:St):Prop :=
 ∃f i,st=⟨f,Qd :: m,[]⟩∧k=L.length-(i+1)∧QB (Xa L lt) (i+1)=true∧f 0=.list (L.map Qv)∧f 1=.fn (.func c) [] (AV.shL cs)∧f 5=.int .i64 ((i+1:Nat):Int)

include hl in
theorem QPm (hc:∀x∈L,∀y∈L,Qh Tryz.prog c (Qv x :: Qv y :: AV.shL cs) (Qd :: m) fun r m1=>r=.bool (lt x y)∧m1=Qd :: m) :
  Qh Tryz.prog 154 [.list (L.map Qv),.fn (.func c) [] cs] m fun y m1=>y=.bool (XX L lt)∧m1=m:=by
 refine QeV.go (by simp) ?_;simp only[Qa,seval];refine Qc (AxO L lt c cs m) _ ⟨_,0,rfl,rfl,rfl,(by rfl),(by rfl),(by rfl)⟩ ?_;rintro _ st ⟨f,i,rfl,rfl,hx,h0,h1,h5⟩;simp only[QXb,h0,h5,Qa,seval];by_cases hlt:i+1<L.length
 ·obtain⟨x,hi⟩:∃x,L[i]? = some x:=⟨L[i]'(by omega),QWh (by omega)⟩;obtain⟨y,hj⟩:∃y,L[i+1]? = some y:=⟨L[i+1],QWh hlt⟩;have hcl:=hc x (QWt hi) y (QWt hj);have hg:(L.map Qv)[i]? = some (Qv x):=by simp[hi]
  have hh:(L.map Qv)[i+1]? = some (Qv y):=by simp[hj]
  have e1:=Qo (i+1) _ hlt hl;have e2:=Wn i _ hlt hl;simp only[Qv,PO.cells]at hcl;simp only[Ql hlt,e2,Qg,QXI,Qb,hg,hh,Qv,PO.cells,h0,h1,h5,eE,seval];refine XM (fa:=[]) (fb:=AV.shL cs) (by rfl) hcl (by simp only[QWM,QXh,QWD,QWC,Qa,seval]) ?_;have hs:QB (Xa L lt) (i+2)=lt x y:=by
   show(QB (Xa L lt) (i+1)&&Xa L lt (i+1))=_;rw[hx,Jf hi hj,QXT]
  cases hp:lt x y
  ·rw[hp]at hs;have hf:XX L lt=false:=by
    rw[QX7];intro h';rw[QI.2 fun k hk=>QI.1 h' k (by omega)]at hs;cases hs
   simp only[hf,Qa,seval]
  ·rw[hp]at hs;simp only[h5,e1,Qa,seval];exact⟨L.length-(i+2),by omega,_,i+1,rfl,rfl,hs,(by exact h0),(by exact h1),(by rfl)⟩
 ·have hf:XX L lt=true:=QI.2 fun k hk=>QI.1 hx k (by omega)
  simp only[QA hlt,hf,Qa,seval]

end

section
variable (L:List PE)(hl:L.length≤maxLen)(lt:PE→PE→Bool)(c:Nat)(cs:List AV)(m:Qn)

def AxE (k:Nat)(st:St):Prop :=
 ∃f i,st=⟨f,Qd :: m,[]⟩∧k=L.length-(i+1)∧QB (Xa L lt) (i+1)=true∧f 0=.list (L.map Qr)∧f 1=.fn (.func c) [] (AV.shL cs)∧f 5=.int .i64 ((i+1:Nat):Int)

include hl in
theorem QPn (hc:∀x∈L,∀y∈L,Qh Tryz.prog c (Qr x :: Qr y :: AV.shL cs) (Qd :: m) fun r m1=>r=.bool (lt x y)∧m1=Qd :: m) :
  Qh Tryz.prog 151 [.list (L.map Qr),.fn (.func c) [] cs] m fun y m1=>y=.bool (XX L lt)∧m1=m:=by
 refine QeF.go (by simp) ?_;simp only[Qa,seval];refine Qc (AxE L lt c cs m) _ ⟨_,0,rfl,rfl,rfl,(by rfl),(by rfl),(by rfl)⟩ ?_;rintro _ st ⟨f,i,rfl,rfl,hx,h0,h1,h5⟩;simp only[QXb,h0,h5,Qa,seval];by_cases hlt:i+1<L.length
 ·obtain⟨x,hi⟩:∃x,L[i]? = some x:=⟨L[i]'(by omega),QWh (by omega)⟩;obtain⟨y,hj⟩:∃y,L[i+1]? = some y:=⟨L[i+1],QWh hlt⟩;have hcl:=hc x (QWt hi) y (QWt hj);have hg:(L.map Qr)[i]? = some (Qr x):=by simp[hi]
  have hh:(L.map Qr)[i+1]? = some (Qr y):=by simp[hj]
  have e1:=Qo (i+1) _ hlt hl;have e2:=Wn i _ hlt hl;simp only[Qr,PE.cells]at hcl;simp only[Ql hlt,e2,Qg,QXI,Qb,hg,hh,Qr,PE.cells,h0,h1,h5,eE,seval];refine XM (fa:=[]) (fb:=AV.shL cs) (by rfl) hcl (by simp only[QWM,QXh,QWD,QWC,Qa,seval]) ?_;have hs:QB (Xa L lt) (i+2)=lt x y:=by
   show(QB (Xa L lt) (i+1)&&Xa L lt (i+1))=_;rw[hx,Jf hi hj,QXT]
  cases hp:lt x y
  ·rw[hp]at hs;have hf:XX L lt=false:=by
    rw[QX7];intro h';rw[QI.2 fun k hk=>QI.1 h' k (by omega)]at hs;cases hs
   simp only[hf,Qa,seval]
  ·rw[hp]at hs;simp only[h5,e1,Qa,seval];exact⟨L.length-(i+2),by omega,_,i+1,rfl,rfl,hs,(by exact h0),(by exact h1),(by rfl)⟩
 ·have hf:XX L lt=true:=QI.2 fun k hk=>QI.1 hx k (by omega)
  simp only[QA hlt,hf,Qa,seval]

end

section
variable (L:List PI)(hl:L.length≤maxLen)(lt:PI→PI→Bool)(c:Nat)(cs:List AV)(m:Qn)

def AxI (k:Nat)(st:St):Prop :=
 ∃f i,st=⟨f,Qd :: m,[]⟩∧k=L.length-(i+1)∧QB (Xa L lt) (i+1)=true∧f 0=.list (L.map Xe)∧f 1=.fn (.func c) [] (AV.shL cs)∧f 5=.int .i64 ((i+1:Nat):Int)

include hl in
theorem QPo (hc:∀x∈L,∀y∈L,Qh Tryz.prog c (Xe x :: Xe y :: AV.shL cs) (Qd :: m) fun r m1=>r=.bool (lt x y)∧m1=Qd :: m) :
  Qh Tryz.prog 157 [.list (L.map Xe),.fn (.func c) [] cs] m fun y m1=>y=.bool (XX L lt)∧m1=m:=by
 refine QMV.go (by simp) ?_;simp only[Qa,seval];refine Qc (AxI L lt c cs m) _ ⟨_,0,rfl,rfl,rfl,(by rfl),(by rfl),(by rfl)⟩ ?_;rintro _ st ⟨f,i,rfl,rfl,hx,h0,h1,h5⟩;simp only[QXb,h0,h5,Qa,seval];by_cases hlt:i+1<L.length
 ·obtain⟨x,hi⟩:∃x,L[i]? = some x:=⟨L[i]'(by omega),QWh (by omega)⟩;obtain⟨y,hj⟩:∃y,L[i+1]? = some y:=⟨L[i+1],QWh hlt⟩;have hcl:=hc x (QWt hi) y (QWt hj);have hg:(L.map Xe)[i]? = some (Xe x):=by simp[hi]
  have hh:(L.map Xe)[i+1]? = some (Xe y):=by simp[hj]
  have e1:=Qo (i+1) _ hlt hl;have e2:=Wn i _ hlt hl;simp only[Xe,PI.cells]at hcl;simp only[Ql hlt,e2,Qg,QXI,Qb,hg,hh,Xe,PI.cells,h0,h1,h5,eE,seval];refine XM (fa:=[]) (fb:=AV.shL cs) (by rfl) hcl (by simp only[QWM,QXh,QWD,QWC,Qa,seval]) ?_;have hs:QB (Xa L lt) (i+2)=lt x y:=by
   show(QB (Xa L lt) (i+1)&&Xa L lt (i+1))=_;rw[hx,Jf hi hj,QXT]
  cases hp:lt x y
  ·rw[hp]at hs;have hf:XX L lt=false:=by
    rw[QX7];intro h';rw[QI.2 fun k hk=>QI.1 h' k (by omega)]at hs;cases hs
   simp only[hf,Qa,seval]
  ·rw[hp]at hs;simp only[h5,e1,Qa,seval];exact⟨L.length-(i+2),by omega,_,i+1,rfl,rfl,hs,(by exact h0),(by exact h1),(by rfl)⟩
 ·have hf:XX L lt=true:=QI.2 fun k hk=>QI.1 hx k (by omega)
  simp only[QA hlt,hf,Qa,seval]

end

def cl (c:Nat):Int:=if 97≤c∧c≤122 then 1 else if 65≤c∧c≤90 then 2 else if 48≤c∧c≤57 then 3 else if c=95 then 4 else 0

theorem QPp (c:Nat):Qi Tryz.prog 242 [.int .i32 (c:Nat)] (.int .i64 (cl c)):=by
 refine Qlc.fn (by simp) ?_;simp only[Qa,seval]
 repeat' (first|(refine QP (fun h=>?_) (fun h=>?_)<;>simp only[h,Qa,seval])|(refine Xl (fun h=>?_) (fun h=>?_)<;>simp only[h,Qk,Qa,seval])|(refine Xm (fun h=>?_) (fun h=>?_)<;>simp only[h,Qk,eE,seval]))
 all_goals((try simp only[QWl,QYb,QWm,QXY,ne_eq]at *)<;>unfold cl<;>(repeat' split)<;>first|rfl|(exfalso;omega))

theorem Ch {s:List UInt8}{i:Nat}{c:UInt8}(h:s[i]? = some c):(c.toNat<128→Xh s i=(c.toNat,1))∧(128≤c.toNat→128≤(Xh s i).1):=by
 have g0:(⟨⟨s⟩⟩:ByteArray).get! (i+0)=c:=by
  show(⟨s⟩:Array UInt8)[i+0]! = c;simp[h]
 constructor
 ·intro hc;simp only[Xh,Utf8.decode,g0];rw[QWJ hc]
 ·intro hc;simp only[Xh,Utf8.decode,g0];rw[QWu (by omega)]
  (repeat' split)<;>simp only[ge_iff_le,QWE,QWl,Utf8.runeError]at *<;>omega

def pq (s:List UInt8)(j:Nat):Bool:=match s[j]? with
 |some c=>if j=0 then JD c else Z4 c
 |none=>true
theorem WO {s:List UInt8}{j:Nat}{c:UInt8}(h:s[j]? = some c):pq s j=if j=0 then JD c else Z4 c:=by
 unfold pq;rw[h]

theorem BB {c:UInt8}(h:JD c=true):Z4 c=true:=by unfold Z4;rw[h];rfl

theorem KN (s:List UInt8):Q2 s=(decide (1≤s.length)&&decide (s.length≤40)&&QB (pq s) s.length):=by
 cases s with
 |nil=>rfl
 |cons c t=>
  have h1:decide (1≤(c :: t).length)=true:=by simp
  rw[h1,QXT];show(decide ((c :: t).length≤40)&&JD c&&t.all Z4)=_;rw[QW0];congr 1
  rw[QXa,QWE,QI,QWs]
  constructor
  ·rintro⟨h2,h3⟩ i hi;cases i with
   |zero=>rw[WO (c:=c) rfl,QWJ rfl];exact h2
   |succ i=>
    have hlt:i<t.length:=by simpa using hi
    rw[WO (c:=t[i]) (by simp[QWh hlt]),QWu (by omega)];exact h3 _ (QW8 _)
  ·intro h;refine⟨?_,fun x hx=>?_⟩
   ·have:=h 0 (by simp)
    rwa [WO (c:=c) rfl,QWJ rfl]at this
   ·obtain⟨i,hi⟩:=QWr.1 hx;have hlt:=(QWg.1 hi).1;have:=h (i+1) (by simpa using hlt)
    rwa [WO (c:=x) (by simpa using hi),QWu (by omega)]at this

theorem QHI {s:List UInt8}{i:Nat}{c:UInt8}(h:s[i]? = some c)(r:Nat)(hr:(c.toNat<128→r=c.toNat)∧(128≤c.toNat→128≤r)) :
  (cl r==0||((i:Int)==0&&(cl r != 1&&cl r != 2)))=!pq s i:=by
 rw[WO h];obtain⟨h1,h2⟩:=hr;have hc:=c.toNat_lt;unfold cl JD Z4 JD;generalize c.toNat=x at *;by_cases hx:x<128
 ·have e:=h1 hx;subst e;by_cases hi:i=0
  ·subst hi;rw[QWJ rfl]
   (repeat' split)<;>simp<;>omega
  ·rw[QWu hi];have hz:((i:Int)==0)=false:=by simp;omega
   rw[hz]
   (repeat' split)<;>simp<;>omega
 ·have:=h2 (by omega);have e:(if 97≤r∧r≤122 then(1:Int)else if 65≤r∧r≤90 then 2 else if 48≤r∧r≤57 then 3 else if r=95 then 4 else 0)=0:=by
   rw[QWu (by omega),QWu (by omega),QWu (by omega),QWu (by omega)]
  rw[e];split<;>simp<;>omega

def PaI (s:List UInt8)(k:Nat)(st:St):Prop :=
 ∃f fr i,st=⟨f,[fr],[]⟩∧k=s.length-i∧i≤s.length∧QB (pq s) i=true∧f 0=.str s∧f 7=.ptr 0 7 0∧fr 7=.iter (.str s) i

theorem QvU (s:List UInt8):Qi Tryz.prog 214 [.str s] (.bool (Q2 s)):=by
 refine Qjb.fn (by simp) ?_;simp only[Qa,seval];refine DS rfl rfl ?_;simp only[Qa,seval];refine Qc (PaI s) s.length ⟨_,_,0,rfl,rfl,QWo _,rfl,(by rfl),(by rfl),(by rfl)⟩ ?_;rintro _ st ⟨f,fr,i,rfl,rfl,hi,hx,h0,h7,m7⟩;simp only[Qa,seval];refine DT (by exact h7) m7 (fun hlt=>?_) (fun hge=>?_)
 ·obtain⟨c,hc⟩:∃c,s[i]? = some c:=⟨s[i],QWh hlt⟩;obtain⟨u1,u2⟩:=Ch hc;have hcl:=QPp (Xh s i).1;have hq:=QHI hc (Xh s i).1 ⟨fun h=>by rw[u1 h],u2⟩;have hw:pq s i=true→(Xh s i).2=1:=by
   intro h;rw[u1];rw[WO hc]at h;have hp:Z4 c=true:=by
    split at h
    ·exact BB h
    ·exact h
   unfold Z4 JD at hp;simp at hp;omega
  generalize Xh s i=cw at hcl hq hw;obtain⟨r,w⟩:=cw;simp only[Qa,seval];refine aC hcl ?_;have hstep:QB (pq s) (i+1)=pq s i:=by rw[QB,hx,QXT]
  have hend:pq s i=false→Q2 s=false:=by
   intro h;rw[KN,Cf hlt h,QYc]
  simp only at hq hw;generalize cl r=k at hq;cases hp:pq s i
  ·rw[hp]at hq;have he:=hend hp;simp only[he,Qa,seval];cases a1:(k==0)
   ·cases a2:((i:Int)==0)
    ·simp[a1,a2]at hq
    ·cases a3:(k != 1)
     ·simp[a1,a2,a3]at hq
     ·cases a4:(k != 2)
      ·simp[a1,a2,a3,a4]at hq
      ·simp only[a2,a3,a4,Qa,seval]
   ·simp only[Qa,seval]
  ·rw[hp]at hq;have hw:=hw hp;subst hw;simp only[Qa,seval];cases a1:(k==0)
   ·cases a2:((i:Int)==0)
    ·simp only[a2,Qa,seval];exact⟨s.length-(i+1),by omega,_,_,i+1,rfl,rfl,by omega,by rw[hstep,hp],(by exact h0),(by exact h7),(by rfl)⟩
    ·cases a3:(k != 1)
     ·simp only[a2,a3,Qa,seval];exact⟨s.length-(i+1),by omega,_,_,i+1,rfl,rfl,by omega,by rw[hstep,hp],(by exact h0),(by exact h7),(by rfl)⟩
     ·cases a4:(k != 2)
      ·simp only[a2,a3,a4,Qa,seval];exact⟨s.length-(i+1),by omega,_,_,i+1,rfl,rfl,by omega,by rw[hstep,hp],(by exact h0),(by exact h7),(by rfl)⟩
      ·simp[a1,a2,a3,a4]at hq
   ·simp[a1]at hq
 ·have hii:i=s.length:=by omega
  subst hii;have e1:decide (((s.length:Nat):Int)≥1)=decide (1≤s.length):=by rw[decide_eq_decide];omega
  have e2:decide (((s.length:Nat):Int)≤40)=decide (s.length≤40):=by rw[decide_eq_decide];omega
  have e3:Q2 s=(decide (1≤s.length)&&decide (s.length≤40)):=by rw[KN,hx,QXu]
  simp only[h0,e1,e3,Qa,seval];cases a1:decide (1≤s.length)<;>simp only[QXT,QXM,h0,e2,Qa,seval]

theorem QPq (s:List UInt8):Qi Tryz.prog 212 [.str s] (.bool (Zk s)):=by
 refine RJ.fn (by simp) ?_;simp only[QL,Qa,seval];have e:Zk s=Yw.any fun w=>s==w:=rfl
 simp only[Yw,List.any_cons,List.any_nil,QYd]at e
 repeat' (first|(refine QP (fun h=>?_) (fun h=>?_)<;>simp only[h,QL,Qa,seval])|(refine Xl (fun h=>?_) (fun h=>?_)<;>simp only[h,Qk,QL,eE,seval])|(refine Xm (fun h=>?_) (fun h=>?_)<;>simp only[h,Qk,QL,eE,seval]))
 all_goals(simp only[*,QXW,Bool.or_true,QYd]at e;simp only[e])

theorem QPr (s:List UInt8):Qi Tryz.prog 270 [.str s,.str [46]] (.int .i64 (s.count 46:Nat)):=by
 refine QlS.fn (by simp) ?_;have b0:(((1:Nat):Int)==0)=false:=rfl;have b1:(((1:Nat):Int)==1)=true:=rfl;have b2:([(46:UInt8)])[Int.toNat 0]? = some 46:=rfl;simp only[QWv,QXc,QWW,Qa,seval];refine NU rfl rfl ?_;simp only[H4,Lib.countByte,Qa,seval]
 try rfl

theorem QPs (s:List UInt8):Qi Tryz.prog 295 [.str s,.int .u8 46] (.int .i64 (Lib.indexByte s 46)):=by
 refine Qmo.fn (by simp) ?_;simp only[Qa,seval];refine NU rfl rfl ?_;simp only[H4,QWz,Qa,seval]
 try rfl

theorem QPt (s:List UInt8):Qi Tryz.prog 287 [.str s,.str [46]] (.int .i64 (Lib.indexByte s 46)):=by
 refine Ql6.fn (by simp) ?_;have b0:(((1:Nat):Int)==0)=false:=rfl;have b1:(((1:Nat):Int)==1)=true:=rfl;have b2:([(46:UInt8)])[Int.toNat 0]? = some 46:=rfl;have hk:=QPs s;simp only[Cd,M2,M3,M4,M5,M6,M7,M8,M9,Pa,Cd,RK,QWv,QXc,QWW,QL,Qa,seval];cases h:(([46]:List UInt8)==s)
 ·simp only[Qa,seval];refine aC hk ?_;simp only[Qa,seval]
 ·have hs:s=[46]:=by simpa using (QWm.1 h).symm
  subst hs;simp only[Qa,seval]
  try rfl

theorem QPu (s:List UInt8):Qi Tryz.prog 271 [.str s,.str [46]] (.int .i64 (Lib.indexByte s 46)):=by
 refine QlX.fn (by simp) ?_;simp only[Qa,seval];refine aC (QPt s) ?_;simp only[Qa,seval]

theorem Ps {t:List UInt8}{o:Nat}(h:Lib.indexByte t 46=(o:Int)):o<t.length∧t=t.take o++46 :: t.drop (o+1)∧∀c∈t.take o,c≠46:=by
 obtain⟨h1,h2⟩:=Lib.indexByte_some h;have hlt:=(QWg.1 h1).1;refine⟨hlt,?_,?_⟩
 ·have h3:t[o]=46:=(QWg.1 h1).2;rw[←h3,←QWY hlt,QXx]
 ·intro c hc e;subst e;obtain⟨k,hk⟩:=QWr.1 hc;rw[QWT]at hk;split at hk
  ·exact h2 k ‹_› hk
  ·cases hk

theorem R0 {t:List UInt8}(h:Lib.indexByte t 46 = -1):Qm t=[t]:=by
 refine WN fun c hc e=>?_
 subst e;obtain⟨k,hk⟩:=QWr.1 hc;exact Lib.indexByte_none h k hk

theorem Pt {t:List UInt8}{o:Nat}(h:Lib.indexByte t 46=(o:Int)):Qm t=t.take o :: Qm (t.drop (o+1)):=by
 obtain⟨_,h2,h3⟩:=Ps h
 conv=>lhs;rw[h2]
 exact Gz h3

theorem QvV (t:List UInt8):Lib.indexByte t 46 = -1∨∃o:Nat,Lib.indexByte t 46=(o:Int):=by
 have:=Lib.indexByte_ge t 46;by_cases h:Lib.indexByte t 46 = -1
 ·exact .inl h
 ·obtain⟨o,ho⟩:=QXV (a:=Lib.indexByte t 46) (by omega);exact .inr ⟨o,ho⟩

def SpI (s:List UInt8)(n:Nat)(k:Nat)(st:St):Prop :=
 ∃f fr t done,st=⟨f,[fr],[]⟩∧k=(Qm t).length∧Qm s=done++Qm t∧n=done.length+(Qm t).length∧t.length≤s.length∧
  f 0=.str t∧f 1=.str [46]∧f 2=.int .i64 0∧f 3=.int .i64 ((n-1:Nat):Int)∧f 9=.vec 0 31 1 0 n false∧f 10=.int .i64 (done.length:Nat)∧fr 31=.vec 1 1 (done.map Zp++List.replicate (Qm t).length (.str []))

theorem R1 (done:List (List UInt8))(x:List UInt8)(n:Nat)(h:0<n):(done.map Zp++List.replicate n (AV.str [])).set done.length (.str x)=(done++[x]).map Zp++List.replicate (n-1) (AV.str []):=by
 obtain⟨k,rfl⟩:∃k,n=k+1:=⟨n-1,by omega⟩;rw[List.set_append_right _ _ (by simp)];simp[Zp,List.replicate_succ]

theorem QPv (s:List UInt8)(hs:s.length≤17592186044000):Qi Tryz.prog 241 [.str s,.str [46],.int .i64 0,.int .i64 (-1)] (.list ((Qm s).map Zp)):=by
 have hl:=Uh s;have hc:s.count 46≤s.length:=List.count_le_length;have hm:(Qm s).length≤s.length+1:=by omega
 have b0:((-1:Int)==0)=false:=rfl;have b1:decide ((-1:Int)<0)=true:=rfl;have e1:IntKind.i64.wrap ((s.count 46:Nat)+1:Int)=((Qm s).length:Nat):=by rw[QC];omega
 have e2:IntKind.i64.wrap ((s.length:Nat)+1:Int)=((s.length+1:Nat):Int):=by rw[QC];omega
 have e3':(((s.length+1:Nat):Int)<((Qm s).length:Nat))=False:=eq_false (by omega);have e4:IntKind.i64.wrap (((Qm s).length:Nat)-1:Int)=(((Qm s).length-1:Nat):Int):=by rw[QC];omega
 have hz:JI 1 [AV.str []]=.str []:=rfl;refine QkZ.fn (by simp) ?_;simp only[b0,QL,Qa,seval];have b2:(([46]:List UInt8)==[])=false:=rfl;simp only[b2,Qa,seval];refine aC (QPr s) ?_;simp only[e1,e2,e3',Qa,seval];refine UI (n:=(Qm s).length) (k:=(Qm s).length) rfl rfl (QWe _) (by omega) (by omega) rfl ?_;simp only[e4,hz,Qa,seval];refine Qc (SpI s (Qm s).length) _ ⟨_,_,s,[],rfl,rfl,rfl,by simp,QWe _,(by rfl),(by rfl),(by rfl),(by rfl),(by rfl),(by rfl),(by rfl)⟩ ?_;rintro _ st ⟨f,fr,t,done,rfl,rfl,hp,hn,ht,h0,h1,h2,h3,h9,h10,m31⟩;simp only[h3,h10,Qa,seval];have hpos:0<(Qm t).length:=QXC.2 (Ky t);have ia:Qb [fr] 1 none (.vec 0 31 1 0 (Qm s).length false) ((done.length:Nat):Int)=some (.vptr 0 31 1 done.length 0):=by
  have e:Am.Qf [fr] 0 31=.vec 1 1 (done.map Zp++List.replicate (Qm t).length (.str [])):=m31;simp only[Qb,e,Qg,if_true,QXI];simp;omega
 have ist:∀x:List UInt8,QX [fr] (.vptr 0 31 1 done.length 0) [.str x]=some [QH fr 31 (.vec 1 1 ((done++[x]).map Zp++List.replicate ((Qm t).length-1) (.str [])))]:=by
  intro x;have e:Am.Qf [fr] 0 31=.vec 1 1 (done.map Zp++List.replicate (Qm t).length (.str [])):=m31;have hy:(done.map Zp++List.replicate (Qm t).length (.str []))[done.length]? = some (.str []):=by
   rw[QXH (by simp)];simp[hpos]
  have hx:ZF (.str []) 0 [.str x]=.str x:=rfl;simp only[QX,e,hy,if_true,←R1 done x _ hpos];simp[AV.cells,AV.rfL,AV.rf,Am.put,hx]
 have ew:IntKind.i64.wrap ((done.length:Nat)+1:Int)=((done.length+1:Nat):Int):=by rw[QC];omega
 rcases QvV t with hd|⟨o,ho⟩
 ·have hp1:=R0 hd;have hl1:(Qm t).length=1:=by rw[hp1];rfl
  have d1:decide (((done.length:Nat):Int)<(((Qm s).length-1:Nat):Int))=false:=QX5 (by omega);have hi:=ist t;have hrow:(done++[t]).map Zp++List.replicate ((Qm t).length-1) (AV.str [])=(Qm s).map Zp:=by
   rw[hl1,hp,hp1];simp
  have hlen:done.length+1=(Qm s).length:=by omega
  rw[hrow]at hi;rw[hlen]at ew;have hle:((Qm s).length≤(Qm s).length)=True:=eq_true (QWe _);have ht:(((Qm s).map Zp).drop 0).take (Qm s).length=(Qm s).map Zp:=by rw[QWX];exact QWO (by simp)
  simp only[d1,ia,hi,h0,h9,h10,ew,eE,seval];simp only[Qg,if_true,QXI,QWo,hle,QW7,and_true,QXA,QW5,QYd,XL,QXr,Zv,QX6];have el:Am.Qf [QH fr 31 (Ob.vec 1 1 ((Qm s).map Zp))] 0 31=.vec 1 1 ((Qm s).map Zp):=QS _ _ _;simp only[AV.still,el,QXT,bne_self_eq_false,QWz,if_false,QWW,QXb,hle,QXk,if_true,ht,Option.bind_some,AV.un,QX6,QXr]
 ·have hp1:=Pt ho;obtain⟨ho1,ho2,ho3⟩:=Ps ho;have hl1:(Qm t).length=(Qm (t.drop (o+1))).length+1:=by rw[hp1];simp
  have hpos2:0<(Qm (t.drop (o+1))).length:=QXC.2 (Ky _);have d1:decide (((done.length:Nat):Int)<(((Qm s).length-1:Nat):Int))=true:=QYa (by omega);have d2:decide ((o:Int)<0)=false:=QX5 (by omega);have w1:IntKind.i64.wrap ((o:Int)+0)=(o:Int):=by rw[QC];omega
  have w2:IntKind.i64.wrap ((o:Int)+1)=((o+1:Nat):Int):=by rw[QC];omega
  have hi:=ist (t.take o);simp only[d1,h0,h1,Qa,seval];refine aC (QPu t) ?_;have hle1:(0≤o∧o≤t.length)=True:=eq_true ⟨QWo _,by omega⟩;have hle2:(o+1≤t.length∧t.length≤t.length)=True:=eq_true ⟨by omega,QWe _⟩;have ht2:(t.drop (o+1)).take (t.length-(o+1))=t.drop (o+1):=QWO (by simp);simp only[ho,d2,w1,w2,Qg,QXI,hle1,hle2,ht2,QXA,h0,h1,h2,h9,h10,eE,seval];simp only[ia,hi,ew,Qa,seval];have hlen:(done++[t.take o]).length=done.length+1:=by simp
  have hk:(Qm t).length-1=(Qm (t.drop (o+1))).length:=by omega
  exact⟨(Qm (t.drop (o+1))).length,by omega,_,_,t.drop (o+1),done++[t.take o],rfl,rfl,by rw[hp,hp1];simp,by rw[hlen];omega,by simp;omega,(by rfl),(by exact h1),(by exact h2),(by exact h3),(by exact h9),by rw[hlen]<;>first|rfl|simp only[eE,seval],by rw[←hk]<;>exact QS _ _ _⟩

def BC (c:UInt8):Bool:=decide (97≤c.toNat)&&decide (c.toNat≤122)
def BD (c:UInt8):Bool:=decide (65≤c.toNat)&&decide (c.toNat≤90)

theorem QvW (c:UInt8):Qi Tryz.prog 200 [.int .u8 (c.toNat:Nat)] (.bool (BC c)):=by
 refine QNy.fn (by simp) ?_;have e1:decide ((c.toNat:Int)≥97)=decide (97≤c.toNat):=by rw[decide_eq_decide];omega
 have e2:decide ((c.toNat:Int)≤122)=decide (c.toNat≤122):=by rw[decide_eq_decide];omega
 simp only[e1,BC,Qa,seval];cases h:decide (97≤c.toNat)<;>simp only[e2,QXT,QXM,Qa,seval]

theorem QvX (c:UInt8):Qi Tryz.prog 201 [.int .u8 (c.toNat:Nat)] (.bool (BD c)):=by
 refine QNB.fn (by simp) ?_;have e1:decide ((c.toNat:Int)≥65)=decide (65≤c.toNat):=by rw[decide_eq_decide];omega
 have e2:decide ((c.toNat:Int)≤90)=decide (c.toNat≤90):=by rw[decide_eq_decide];omega
 simp only[e1,BD,Qa,seval];cases h:decide (65≤c.toNat)<;>simp only[e2,QXT,QXM,Qa,seval]

theorem R2 (c:UInt8):Z4 c=(BC c||BD c || !((c.toNat:Int) != 95) || !(decide ((c.toNat:Int)<48)||decide ((c.toNat:Int) > 57))):=by
 unfold Z4 JD BC BD;generalize c.toNat=x;rw[QXa];simp only[QWk,QWE,QWl,QWm,QXe,bne_eq_false_iff_eq,QW9,QYb];omega

def PrI (s:List UInt8)(k:Nat)(st:St):Prop :=
 ∃f i,st=⟨f,[Qd],[]⟩∧k=s.length-i∧1≤i∧QB (pq s) i=true∧f 0=.str s∧f 3=.int .i64 (i:Nat)

theorem R3 (s:List UInt8):Qi Tryz.prog 123 [.str s] (.bool (Q2 s)):=by
 refine QL9.fn (by simp) ?_;simp only[Qa,seval];by_cases hl:s.length=0
 ·have d0:((s.length:Int)==0)=true:=by rw[hl];rfl
  have e:Q2 s=false:=by rw[KN,hl];rfl
  simp only[d0,e,Qa,seval]
 have d0:((s.length:Int)==0)=false:=by rw[QXY];omega
 by_cases hm:s.length≤40
 case neg=>
  have d1:decide ((s.length:Int) > 40)=true:=QYa (by omega);have e:Q2 s=false:=by rw[KN,QX5 hm,QYc,QXM]
  simp only[d0,d1,e,Qa,seval]
 have d1:decide ((s.length:Int) > 40)=false:=QX5 (by omega);have hp:Q2 s=QB (pq s) s.length:=by rw[KN,QYa hm,QYa (by omega:1≤s.length)];rfl
 obtain⟨c,hc⟩:∃c,s[0]? = some c:=⟨s[0]'(by omega),QWh (by omega)⟩;have hq0:QB (pq s) 1=(BC c||BD c):=by
  show(true&&pq s 0)=_;rw[WO hc,QWJ rfl];rfl
 have h1:=QvW c;have h2:=QvX c;have hn:QB (pq s) 1=false→Q2 s=false:=fun h=>by
  rw[hp,QX7];intro h';rw[QI.2 fun k hk=>QI.1 h' k (by omega)]at h;cases h
 have z1:Int.toNat 0=0:=rfl;have go:QB (pq s) 1=true→∀(f:Fr),f 0=.str s→f 3=.int .i64 1→∀Q:Exit→St→Prop,(∀f,QB (pq s) s.length=true→Q (.exit 0) ⟨f,[Qd],[]⟩)→(∀f,f 2=.bool false→QB (pq s) s.length=false→Q .ret ⟨f,[Qd],[]⟩)→QG Tryz.prog (.loop Pb) ⟨f,[Qd],[]⟩ Q:=by
  intro hq1 f h0 h3 Q hx hr;refine Qc (PrI s) _ ⟨_,1,rfl,rfl,QWe _,hq1,h0,h3⟩ ?_;clear h0 h3 hc hq0 h1 h2 hn;rintro _ st ⟨f,i,rfl,rfl,h1i,hx1,h0,h3⟩;simp only[h0,h3,Qa,seval];by_cases hlt:i<s.length
  ·obtain⟨c,hc⟩:∃c,s[i]? = some c:=⟨s[i],QWh hlt⟩;have e1:=Qo i _ hlt (by simp only[maxLen];omega);have hs1:=QvW c;have hs2:=QvX c;have hstep:QB (pq s) (i+1)=Z4 c:=by
    rw[QB,hx1,QXT,WO hc,QWu (by omega)]
   have hend:Z4 c=false→QB (pq s) s.length=false:=fun h=>by
    rw[QX7];intro h';rw[QI.2 fun k hk=>QI.1 h' k (by omega)]at hstep;rw[h]at hstep;cases hstep
   have fin:∀f':Fr,Z4 c=true→f' 0=.str s→f' 3=.int .i64 ((i+1:Nat):Int)→∃k,k<s.length-i∧PrI s k ⟨f',[Qd],[]⟩:=by
    intro f' hp h0 h3;exact⟨s.length-(i+1),by omega,f',i+1,rfl,rfl,by omega,by rw[hstep,hp],h0,h3⟩
   have hpc:=R2 c;simp only[Ql hlt,Qg,QXI,hc,h0,h3,Qa,seval];refine aC hs1 ?_;cases a1:BC c
   ·simp only[Qg,QXI,hc,h0,h3,QXo,Qa,seval];refine aC hs2 ?_;cases a2:BD c
    ·cases a3:((c.toNat:Int) != 95)
     ·rw[a1,a2,a3]at hpc;simp only[a3,Qg,QXI,hc,h0,h3,e1,QXo,Qa,seval];exact fin _ (by rw[hpc];rfl) (by exact h0) (by rfl)
     ·cases a4:decide ((c.toNat:Int)<48)
      ·cases a5:decide ((c.toNat:Int) > 57)
       ·rw[a1,a2,a3,a4,a5]at hpc;simp only[a3,a4,a5,Qg,QXI,hc,h0,h3,e1,QXo,Qa,seval];exact fin _ (by rw[hpc];rfl) (by exact h0) (by rfl)
       ·rw[a1,a2,a3,a4,a5]at hpc;simp only[a3,a4,a5,Qg,QXI,hc,h0,h3,QXo,Qa,seval];exact hr _ (by rfl) (hend (by rw[hpc];rfl))
      ·rw[a1,a2,a3,a4]at hpc;simp only[a3,a4,Qg,QXI,hc,h0,h3,QXo,Qa,seval];exact hr _ (by rfl) (hend (by rw[hpc];rfl))
    ·rw[a1,a2]at hpc;simp only[h3,e1,QXU,Qa,seval];exact fin _ (by rw[hpc];rfl) (by exact h0) (by rfl)
   ·rw[a1]at hpc;simp only[h3,e1,QXU,Qa,seval];exact fin _ (by rw[hpc];rfl) (by exact h0) (by rfl)
  ·simp only[QA hlt,Qa,seval];exact hx _ (QI.2 fun k hk=>QI.1 hx1 k (by omega))
 simp only[d0,d1,z1,hc,Qa,seval];refine aC h1 ?_;cases a1:BC c
 ·simp only[z1,hc,QXo,Qa,seval];refine aC h2 ?_;cases a2:BD c
  ·rw[a1,a2]at hq0;simp only[hn hq0,QXo,Qa,seval]
  ·rw[a1,a2]at hq0;simp only[QXU,Qa,seval];refine go hq0 _ (by rfl) (by rfl) _ (fun f h=>?_) (fun f h2 h=>?_)
   ·simp only[hp,h,Qa,seval]
   ·simp only[hp,h,h2,Qa,seval]
 ·rw[a1,QXW]at hq0;simp only[QXU,Qa,seval];refine go hq0 _ (by rfl) (by rfl) _ (fun f h=>?_) (fun f h2 h=>?_)
  ·simp only[hp,h,Qa,seval]
  ·simp only[hp,h,h2,Qa,seval]

theorem QvY (s:List UInt8):Qi Tryz.prog 122 [.str s] (.bool (Zk s)):=by
 refine QL6.fn (by simp) ?_;simp only[QL,Qa,seval];have e:Zk s=Yw.any fun w=>s==w:=rfl
 simp only[Yw,List.any_cons,List.any_nil,QYd]at e
 repeat' (first|(refine QP (fun h=>?_) (fun h=>?_)<;>simp only[h,QL,Qa,seval])|(refine Xl (fun h=>?_) (fun h=>?_)<;>simp only[h,Qk,QL,eE,seval])|(refine Xm (fun h=>?_) (fun h=>?_)<;>simp only[h,Qk,QL,eE,seval]))
 all_goals(simp only[*,QXW,Bool.or_true,QYd]at e;simp only[e])

theorem z69 (s:List UInt8):Qi Tryz.prog 69 [.str s] (.bool (XH s)):=by
 refine k69.fn (by simp) ?_;simp only[XH,Qa,seval];refine aC (R3 s) ?_;cases Q2 s
 ·simp only[QXM,Qa,seval]
 ·simp only[QXT,Qa,seval];refine aC (QvY s) ?_;simp only[Qa,seval]

def FuI (s:List UInt8)(k:Nat)(st:St):Prop :=
 ∃f i p,st=⟨f,[Qd],[]⟩∧k=s.length-i∧i≤s.length∧p.length≤i∧(∀c∈p,c≠(46:UInt8))∧(Qm s).all Q2=(Qm (p++s.drop i)).all Q2∧f 0=.str s∧f 3=.str p∧f 4=.int .i64 (i:Nat)

theorem QPw (s:List UInt8):Qi Tryz.prog 120 [.str s] (.bool (decide (s.length≤120)&&(Qm s).all Q2)):=by
 refine QL0.fn (by simp) ?_;simp only[Qa,seval];by_cases hm:s.length≤120
 case neg=>
  have d1:decide ((s.length:Int) > 120)=true:=QYa (by omega);simp only[d1,QX5 hm,QXM,Qa,seval]
 have d1:decide ((s.length:Int) > 120)=false:=QX5 (by omega);simp only[d1,QYa hm,QXT,Qa,seval];refine Qc (FuI s) _ ⟨_,0,[],rfl,rfl,QWo _,QWe _,by simp,rfl,(by rfl),(by rfl),(by rfl)⟩ ?_;rintro _ st ⟨f,i,p,rfl,rfl,hi,hpl,hpd,hx,h0,h3,h4⟩;simp only[h0,h4,Qa,seval];by_cases hlt:i<s.length
 ·obtain⟨c,hc⟩:∃c,s[i]? = some c:=⟨s[i],QWh hlt⟩;have e1:=Qo i _ hlt (by simp only[maxLen];omega);have hd:s.drop i=c :: s.drop (i+1):=by
   rw[QWY hlt];congr 1
   exact(QWg.1 hc).2
  have hts:(s.drop i).take (i+1-i)=[c]:=by
   rw[hd,show i+1-i=1 by omega];rfl
  simp only[Ql hlt,Qg,QXI,hc,h0,h4,Qa,seval];by_cases hdot:c=46
  ·subst hdot;have b0:((((46:UInt8).toNat:Nat):Int) != 46)=false:=rfl;have hs:(Qm s).all Q2=(Q2 p&&(Qm (s.drop (i+1))).all Q2):=by
    rw[hx,hd,Gz hpd];rfl
   simp only[h3,Qa,seval];refine aC (R3 p) ?_;cases hp:Q2 p
   ·rw[hp,QXM]at hs;simp only[hs,QXo,Qa,seval]
   ·rw[hp,QXT]at hs;simp only[h4,e1,QXU,Qa,seval];exact⟨s.length-(i+1),by omega,_,i+1,[],rfl,rfl,by omega,QWo _,by simp,by rw[hs];rfl,(by exact h0),(by rfl),(by rfl)⟩
  ·have b0:(((c.toNat:Nat):Int) != 46)=true:=by
    rw[QWG];intro h
    apply hdot
    rw[←UInt8.toNat_inj];have:c.toNat=46:=by omega
    rw[this];rfl
   have hle:(i≤i+1∧i+1≤s.length)=True:=eq_true ⟨by omega,by omega⟩;have hsum:(p.length≤9223372036854775806)=True:=eq_true (by omega);simp only[b0,h0,h3,h4,e1,Zt,ZE,Q1,Qg,QXI,hle,hts,QL,hsum,Qa,seval];exact⟨s.length-(i+1),by omega,_,i+1,p++[c],rfl,rfl,by omega,by simp;omega,fun x hx=>by
    rcases QXz.1 hx with h|h
    ·exact hpd x h
    ·simp at h;subst h;exact hdot,by rw[hx,hd];simp,(by exact h0),(by rfl),(by rfl)⟩
 ·have hx':(Qm s).all Q2=Q2 p:=by
   rw[hx,QWR (by omega),QXj,WN hpd];simp
  simp only[QA hlt,h3,hx',Qa,seval];refine aC (R3 p) ?_;simp only[Qa,seval]

def W3 (s:List UInt8):Nat→Option Nat
 |0=>none
 |j+1=>if s[j]? = some 46 then some j else W3 s j

theorem Uj (s:List UInt8):∀n,match W3 s n with
  |none=>∀k,k<n→s[k]?≠some 46
  |some j=>j<n∧s[j]? = some 46∧∀k,j<k→k<n→s[k]?≠some 46
 |0=>by simp[W3]
 |n+1=>by
  unfold W3;split
  ·rename_i h;split at h
   ·cases h
   ·rename_i h';have:=Uj s n;rw[h]at this;intro k hk;rcases Nat.lt_succ_iff_lt_or_eq.1 hk with h1|rfl
    ·exact this k h1
    ·exact h'
  ·rename_i j h;split at h
   ·rename_i h';cases h;exact⟨by omega,h',fun k h1 h2=>by omega⟩
   ·rename_i h';have:=Uj s n;rw[h]at this;exact⟨by omega,this.2.1,fun k h1 h2=>by
     rcases Nat.lt_succ_iff_lt_or_eq.1 h2 with h3|rfl
     ·exact this.2.2 k h1 h3
     ·exact h'⟩

def ZO (s:List UInt8):List UInt8×List UInt8:=match W3 s s.length with
 |none=>([],s)
 |some j=>(s.take j,s.drop (j+1))

theorem BE (s:List UInt8):((ZO s).1=[]∧(ZO s).2=s∧∀c∈s,c≠46)∨(s=(ZO s).1++46 :: (ZO s).2∧∀c∈(ZO s).2,c≠46):=by
 have h:=Uj s s.length;unfold ZO;cases hl:W3 s s.length with
 |none=>
  rw[hl]at h;refine .inl ⟨rfl,rfl,fun c hc e=>?_⟩;subst e;obtain⟨k,hk⟩:=QWr.1 hc;exact h k (QWg.1 hk).1 hk
 |some j=>
  rw[hl]at h;obtain⟨h1,h2,h3⟩:=h;refine .inr ⟨?_,fun c hc e=>?_⟩
  ·have:s[j]=46:=(QWg.1 h2).2;show s=s.take j++46 :: s.drop (j+1);rw[←this,←QWY h1,QXx]
  ·subst e;obtain⟨k,hk⟩:=QWr.1 hc;rw[QWU]at hk;exact h3 (j+1+k) (by omega) (QWg.1 hk).1 hk

def SdI (s:List UInt8)(k:Nat)(st:St):Prop :=
 ∃f,st=⟨f,[Qd],[]⟩∧k≤s.length∧W3 s s.length=W3 s k∧f 0=.str s∧f 4=.int .i64 ((k:Int)-1)

theorem QPx (s:List UInt8)(hs:s.length≤120):Qi Tryz.prog 121 [.str s] (.tup [.str (ZO s).1,.str (ZO s).2]):=by
 refine QL3.fn (by simp) ?_;have w0:IntKind.i64.wrap ((s.length:Int)-1)=(s.length:Int)-1:=by rw[QC];omega
 simp only[w0,Qa,seval];refine Qc (SdI s) _ ⟨_,rfl,QWe _,rfl,(by rfl),(by rfl)⟩ ?_;rintro k st ⟨f,rfl,hk,hx,h0,h4⟩;simp only[h4,Qa,seval];cases k with
 |zero=>
  have d0:decide (((0:Nat):Int)-1≥0)=false:=rfl;have e:ZO s=([],s):=by unfold ZO;rw[hx];rfl
  simp only[e,h0,Qa,seval]
 |succ j=>
  have j1:((j+1:Nat):Int)-1=(j:Int):=by omega
  have d0:decide (((j:Nat):Int)≥0)=true:=QYa (by omega);have w1:IntKind.i64.wrap ((j:Int)-1)=(j:Int)-1:=by rw[QC];omega
  have w2:IntKind.i64.wrap ((j:Int)+1)=((j+1:Nat):Int):=by rw[QC];omega
  obtain⟨c,hc⟩:∃c,s[j]? = some c:=⟨s[j]'(by omega),QWh (by omega)⟩;simp only[j1,Qg,QXI,hc,h0,h4,Qa,seval];by_cases hdot:c=46
  ·subst hdot;have b0:((((46:UInt8).toNat:Nat):Int)==46)=true:=rfl;have e:ZO s=(s.take j,s.drop (j+1)):=by
    unfold ZO;rw[hx];show(match (if s[j]? = some 46 then some j else W3 s j)with|none=>([],s)|some j=>(s.take j,s.drop (j+1)))=_;rw[QWJ hc]
   have hle:(0≤j∧j≤s.length)=True:=eq_true ⟨by omega,by omega⟩;have hle2:(j+1≤s.length∧s.length≤s.length)=True:=eq_true ⟨by omega,QWe _⟩;have ht:((s.drop 0).take j)=s.take j:=by simp
   have ht2:((s.drop (j+1)).take (s.length-(j+1)))=s.drop (j+1):=QWO (by simp);simp only[w2,j1,e,Zt,ZE,Q1,QXA,Qg,QXI,hle,hle2,ht2,h0,h4,Qa,seval]
  ·have b0:(((c.toNat:Nat):Int)==46)=false:=by
    rw[QXY];intro h
    apply hdot
    rw[←UInt8.toNat_inj];have:c.toNat=46:=by omega
    rw[this];rfl
   have hne:¬s[j]? = some 46:=fun h=>by rw[hc]at h;cases h;exact hdot rfl
   simp only[b0,j1,w1,h4,Qa,seval];exact⟨j,by omega,_,rfl,by omega,by rw[hx];show(if s[j]? = some 46 then some j else W3 s j)=_;rw[QWu hne],(by exact h0),(by rfl)⟩

def Pu (u:List UInt8):Bool:=if u=[]then false else(Qm u).any Zk

def DfI (s:List UInt8)(k:Nat)(st:St):Prop :=
 ∃f u,st=⟨f,[Qd],[]⟩∧k=u.length∧u.length≤120∧(u≠[]→(Qm u).all Q2=true)∧(Qm s).any Zk=Pu u∧f 0=.str u

theorem z68 (s:List UInt8):Qi Tryz.prog 68 [.str s] (.bool (Ka s)):=by
 refine k68.fn (by simp) ?_;simp only[Ka,Qa,seval];refine aC (QPw s) ?_;cases hf:(decide (s.length≤120)&&(Qm s).all Q2)
 ·simp only[QXM,QXo,Qa,seval]
 simp only[QXT,QXU,Qa,seval];obtain⟨hl,ha⟩:=QWi.1 hf;have hl:=of_decide_eq_true hl;have hne:s≠[]:=by
  rintro rfl;cases ha
 refine Qc (DfI s) _ ⟨_,s,rfl,rfl,hl,fun _=>ha,by unfold Pu;rw[QWu hne],(by rfl)⟩ ?_;rintro _ st ⟨f,u,rfl,rfl,hul,hua,hx,h0⟩;simp only[h0,QL,Qa,seval];by_cases hu:u=[]
 ·subst hu;have b0:(!(([]:List UInt8)==[]))=false:=rfl;have e:(Qm s).any Zk=false:=hx;simp only[b0,e,QXo,Qa,seval]
 ·have b0:(!(u==[]))=true:=by simp[hu]
  simp only[b0,h0,Qa,seval];refine aC (QPx u hul) ?_;simp only[Qa,seval];refine aC (QvY (ZO u).2) ?_;have hw:Pu u=(Pu (ZO u).1||Zk (ZO u).2):=by
   unfold Pu;rw[QWu hu];rcases BE u with⟨h1,h2,h3⟩|⟨h1,h2⟩
   ·rw[h1,h2,QWJ rfl,WN h3];simp
   ·have hp:Qm u=Qm (ZO u).1++[(ZO u).2]:=by
     conv=>lhs;rw[h1]
     exact GA h2
    have ha':=hua hu;rw[hp,QXy,QWE]at ha';have hn:(ZO u).1≠[]:=by
     intro h;rw[h]at ha';cases ha'.1
    rw[QWu hn,hp];simp
  cases hq:Zk (ZO u).2
  ·rw[hq,QYd]at hw;simp only[Qa,seval];have hlen:(ZO u).1.length<u.length∧((ZO u).1≠[]→(Qm (ZO u).1).all Q2=true):=by
    rcases BE u with⟨h1,h2,h3⟩|⟨h1,h2⟩
    ·rw[h1];exact⟨QXC.2 hu,fun h=>absurd rfl h⟩
    ·have hp:Qm u=Qm (ZO u).1++[(ZO u).2]:=by
      conv=>lhs;rw[h1]
      exact GA h2
     have ha':=hua hu;rw[hp,QXy,QWE]at ha';refine⟨?_,fun _=>ha'.1⟩;have:=congrArg List.length h1;simp at this;omega
   exact⟨(ZO u).1.length,hlen.1,_,(ZO u).1,rfl,rfl,by omega,hlen.2,by rw[hx,hw],(by rfl)⟩
  ·rw[hq,Bool.or_true]at hw;have e:(Qm s).any Zk=true:=hx.trans hw;simp only[e,QXU,Qa,seval]

theorem Xj {α:Type}{l:List α}{q:α→Bool}:(l.any fun x=>!q x)=!l.all q:=by
 induction l with
 |nil=>rfl
 |cons x l ih=>simp[ih]

theorem QvZ (s:List UInt8)(hs:s.length≤17592186044000):Qi Tryz.prog 211 [.str s,.str [46]] (.list ((Qm s).map Zp)):=by
 refine QiI.fn (by simp) ?_;simp only[Qa,seval];refine aC (QPv s hs) ?_;simp only[Qa,seval]

def IfI (s:List UInt8)(k:Nat)(st:St):Prop :=
 ∃f i,st=⟨f,[Qd],[]⟩∧k=(Qm s).length-i∧((Qm s).take i).all Q2=true∧f 0=.str s∧f 6=.list ((Qm s).map Zp)∧f 7=.int .i64 ((Qm s).length:Nat)∧f 8=.int .i64 (i:Nat)

theorem QPy (s:List UInt8)(hs:s.length≤17592186044000):Qi Tryz.prog 209 [.str s] (.bool (decide (s.length≤120)&&(Qm s).all Q2)):=by
 have hl:=Uh s;have hc:s.count 46≤s.length:=List.count_le_length;refine Qiy.fn (by simp) ?_;simp only[Qa,seval];refine aC (QvZ s hs) ?_;simp only[QXb,Qa,seval];refine Qc (IfI s) _ ⟨_,0,rfl,rfl,rfl,(by rfl),(by rfl),(by rfl),(by rfl)⟩ ?_;rintro _ st ⟨f,i,rfl,rfl,hx,h0,h6,h7,h8⟩;simp only[h7,h8,Qa,seval];by_cases hlt:i<(Qm s).length
 ·obtain⟨x,hi⟩:∃x,(Qm s)[i]? = some x:=⟨(Qm s)[i],QWh hlt⟩;have hg:((Qm s).map Zp)[i]? = some (.str x):=by simp[hi,Zp]
  have e1:=Qo i _ hlt (by simp only[maxLen];omega);have ht:=Q5 (q:=Q2) hi;rw[hx,QXT]at ht;simp only[Ql hlt,Qg,QXI,Qb,hg,h6,h8,eE,seval];refine aC (QvU x) ?_;cases hp:Q2 x
  ·have hf:(Qm s).all Q2=false:=by
    rw[QX7];intro h';rw[QWs.1 h' x (QWt hi)]at hp;cases hp
   simp only[hf,QXo,QYc,Qa,seval]
  ·rw[hp]at ht;simp only[h8,e1,QXU,Qa,seval];exact⟨(Qm s).length-(i+1),by omega,_,i+1,rfl,rfl,ht,(by exact h0),(by exact h6),(by exact h7),(by rfl)⟩
 ·rw[QWO (by omega)]at hx;have e:decide ((s.length:Int)≤120)=decide (s.length≤120):=by rw[decide_eq_decide];omega
  simp only[QA hlt,h0,hx,e,QXu,Qa,seval]

theorem QHJ (s:List UInt8)(m:Qn):Qh Tryz.prog 212 [Zp s] m fun y m1=>y=.bool (Zk s)∧m1=m:=by
 refine RJ.go (by simp) ?_;simp only[Zp,QL,Qa,seval];have e:Zk s=Yw.any fun w=>s==w:=rfl
 simp only[Yw,List.any_cons,List.any_nil,QYd]at e
 repeat' (first|(refine QP (fun h=>?_) (fun h=>?_)<;>simp only[h,QL,Qa,seval])|(refine Xl (fun h=>?_) (fun h=>?_)<;>simp only[h,Qk,QL,eE,seval])|(refine Xm (fun h=>?_) (fun h=>?_)<;>simp only[h,Qk,QL,eE,seval]))
 all_goals(simp only[*,QXW,Bool.or_true,QYd]at e;simp only[e])

theorem Qv0 (s:List UInt8):Qi Tryz.prog 145 [.str s] (.bool (XH s)):=by
 refine Qej.fn (by simp) ?_;simp only[XH,Qa,seval];refine aC (QvU s) ?_;cases Q2 s
 ·simp only[QXM,Qa,seval]
 ·simp only[QXT,Qa,seval];refine aC (QPq s) ?_;simp only[Qa,seval]

theorem Qv1 (s:List UInt8)(hs:s.length≤17592186044000):Qi Tryz.prog 142 [.str s] (.bool (Ka s)):=by
 have hl:=Uh s;have hc:s.count 46≤s.length:=List.count_le_length;refine Qd4.fn (by simp) ?_;simp only[Ka,Qa,seval];refine aC (QPy s hs) ?_;cases hf:(decide (s.length≤120)&&(Qm s).all Q2)
 ·simp only[QXM,Qa,seval]
 ·simp only[QXT,Qa,seval];refine aC (QvZ s hs) ?_;simp only[Qa,seval];refine Qj (QPk (Qm s) (by simp only[maxLen];omega) Zk 212 [] _ fun o _=>QHJ o _) (by simp only[QWM,QXh,Qa,seval]<;>rfl) ?_;simp only[Qa,seval]

section
variable (m:Qn)

theorem QPz (g:PG):Qh Tryz.prog 138 [Qp g] m fun y m1=>y=.bool (!Z0 g)∧m1=m:=by
 refine QdP.go (by simp) ?_;have e:decide ((g.ops.length:Int) > 64)=!Z0 g:=by unfold Z0;exact(by rw[QXa];simp only[QWl,QXe,QYb];omega)
 simp only[Qp,PG.cells,QXb,e,eE,seval]

theorem QPA (x:PE):Qh Tryz.prog 140 [Qr x] m fun y m1=>y=.bool (!Jx x)∧m1=m:=by
 refine QMA.go (by simp) ?_;have e1:decide ((x.items.length:Int)<1)=!decide (1≤x.items.length):=(by rw[QXa];simp only[QWl,QXe,QYb];omega);have e2:decide ((x.items.length:Int) > 64)=!decide (x.items.length≤64):=(by rw[QXa];simp only[QWl,QXe,QYb];omega);have e3:decide ((x.free.length:Int) > 16)=!decide (x.free.length≤16):=(by rw[QXa];simp only[QWl,QXe,QYb];omega);simp only[Qr,PE.cells,QXb,e1,Jx,eE,seval];cases a1:decide (1≤x.items.length)<;>cases a2:decide (x.items.length≤64)<;>cases a3:decide (x.free.length≤16)<;>simp only[a2,a3,QXU,QXo,QXu,QYc,QXb,e2,e3,eE,seval]

theorem QPB (o:PO):Qh Tryz.prog 144 [Qv o] m fun y m1=>y=.bool (!XH o.name)∧m1=m:=by
 refine Qee.go (by simp) ?_;simp only[Qv,PO.cells,eE,seval];refine aC (Qv0 o.name) ?_;simp only[Qa,seval]

theorem QPC (o:PI):Qh Tryz.prog 148 [Xe o] m fun y m1=>y=.bool (!XH o.name)∧m1=m:=by
 refine QMJ.go (by simp) ?_;simp only[Xe,PI.cells,eE,seval];refine aC (Qv0 o.name) ?_;simp only[Qa,seval]

theorem QPD (g:PG)(hs:g.name.length≤17592186044000)(hl:g.ops.length≤maxLen):Qh Tryz.prog 141 [Qp g] m fun y m1=>y=.bool (!Kz g)∧m1=m:=by
 refine QdZ.go (by simp) ?_;simp only[Qp,PG.cells,Kz,eE,seval];refine aC (Qv1 g.name hs) ?_;cases Ka g.name
 ·simp only[QXM,QXo,Qa,seval]
 ·simp only[QXT,QXU,eE,seval];refine Qj (BA g.ops hl (fun o=>!XH o.name) 144 [] _ fun o _=>QPB _ o) (by simp only[QWM,QXh,Qa,seval]<;>rfl) ?_;simp only[Xj,Qa,seval]

theorem QPE (x:PE)(hs:x.name.length≤17592186044000)(hl:x.items.length≤maxLen):Qh Tryz.prog 146 [Qr x] m fun y m1=>y=.bool (!KU x)∧m1=m:=by
 refine QMD.go (by simp) ?_;simp only[Qr,PE.cells,KU,eE,seval];refine aC (Qv1 x.name hs) ?_;cases Ka x.name
 ·simp only[QXM,QXo,Qa,seval]
 ·simp only[QXT,QXU,eE,seval];refine Qj (Cg x.items hl (fun o=>!XH o.name) 148 [] _ fun o _=>QPC _ o) (by simp only[QWM,QXh,Qa,seval]<;>rfl) ?_;simp only[Xj,Qa,seval]

theorem QPF (x y:PG):Qh Tryz.prog 150 [Qp x,Qp y] m fun r m1=>r=.bool ((XI PG.name) x y)∧m1=m:=by
 refine QMM.go (by simp) ?_;simp only[Qp,PG.cells,QL,XI,eE,seval]

theorem QPG (x y:PE):Qh Tryz.prog 152 [Qr x,Qr y] m fun r m1=>r=.bool ((XI PE.name) x y)∧m1=m:=by
 refine QMP.go (by simp) ?_;simp only[Qr,PE.cells,QL,XI,eE,seval]

theorem QPH (x y:PO):Qh Tryz.prog 155 [Qv x,Qv y] m fun r m1=>r=.bool ((Ze PO.num) x y)∧m1=m:=by
 refine Qe0.go (by simp) ?_;simp only[Qv,PO.cells,Ze,eE,seval]

theorem QPI (x y:PI):Qh Tryz.prog 158 [Xe x,Xe y] m fun r m1=>r=.bool ((Ze PI.num) x y)∧m1=m:=by
 refine QMY.go (by simp) ?_;simp only[Xe,PI.cells,Ze,eE,seval]

theorem QPJ (g:PG)(hl:g.ops.length≤maxLen):Qh Tryz.prog 153 [Qp g] m fun y m1=>y=.bool (!Jg g)∧m1=m:=by
 refine QeK.go (by simp) ?_;simp only[Qp,PG.cells,Jg,eE,seval];refine Qj (QPm g.ops hl (Ze PO.num) 155 [] _ fun x _ y _=>QPH _ x y) (by simp only[QWM,QXh,Qa,seval]<;>rfl) ?_;simp only[Qa,seval]

theorem QPK (x:PE)(hl:x.items.length≤maxLen):Qh Tryz.prog 156 [Qr x] m fun y m1=>y=.bool (!JL x)∧m1=m:=by
 refine QMS.go (by simp) ?_;simp only[Qr,PE.cells,JL,eE,seval];refine Qj (QPo x.items hl (Ze PI.num) 158 [] _ fun x _ y _=>QPI _ x y) (by simp only[QWM,QXh,Qa,seval]<;>rfl) ?_;simp only[Qa,seval]

end

section
variable {M:Nat}(P:PL)(hP:P.ok M)(hM:M≤17592186044000)
include hP hM

omit hM in
theorem z82:Qi Tryz.prog 82 [P.av] (.bool (!Hh P)):=by
 have e0:P.av=.agg [.list (P.progs.map Qp),.list (P.enums.map Qr)]:=rfl;have e1:decide ((if (P.progs.length:Int)<(P.enums.length:Int)then(P.enums.length:Int)else(P.progs.length:Int)) > 64)=!(decide (P.progs.length≤64)&&decide (P.enums.length≤64)):=by
  rw[Bool.not_and];split<;>exact(by rw[QXa];simp only[QWl,QXe,QYb,QWk];omega)
 refine k82.fn (by simp) ?_;simp only[e0,QXb,e1,Hh,eE,seval];cases(decide (P.progs.length≤64)&&decide (P.enums.length≤64))
 ·simp only[QXo,QXM,Qa,seval]
 simp only[QXU,QXT,eE,seval];refine Qj (Dv P.progs hP.len1 (fun g=>!Z0 g) 138 [] _ fun o _=>QPz _ o) (by simp only[QWM,QXh,Qa,seval]<;>rfl) ?_;simp only[Xj,Qa,seval];cases P.progs.all Z0
 ·simp only[QXo,QXM,Qa,seval]
 simp only[QXU,QXT,eE,seval];refine Qj (HA P.enums hP.len2 (fun g=>!Jx g) 140 [] _ fun o _=>QPA _ o) (by simp only[QWM,QXh,Qa,seval]<;>rfl) ?_;simp only[Xj,Qa,seval]

omit hM in
theorem QPL (hN1:∀g∈P.progs,g.name.length≤17592186044000)(hN2:∀g∈P.enums,g.name.length≤17592186044000):Qi Tryz.prog 83 [P.av] (.bool (!Bx P)):=by
 have e0:P.av=.agg [.list (P.progs.map Qp),.list (P.enums.map Qr)]:=rfl;refine k83.fn (by simp) ?_;simp only[e0,Bx,eE,seval];refine Qj (Dv P.progs hP.len1 (fun g=>!Kz g) 141 [] _ fun o ho=>QPD _ o (hN1 o ho) (hP.progs o ho).len) (by simp only[QWM,QXh,Qa,seval]<;>rfl) ?_;simp only[Xj,Qa,seval];cases P.progs.all Kz
 ·simp only[QXo,QXM,Qa,seval]
 simp only[QXU,QXT,eE,seval];refine Qj (HA P.enums hP.len2 (fun g=>!KU g) 146 [] _ fun o ho=>QPE _ o (hN2 o ho) (hP.enums o ho).len1) (by simp only[QWM,QXh,Qa,seval]<;>rfl) ?_;simp only[Xj,Qa,seval]

omit hM in
theorem z84:Qi Tryz.prog 84 [P.av] (.bool (!Hi P)):=by
 have e0:P.av=.agg [.list (P.progs.map Qp),.list (P.enums.map Qr)]:=rfl;refine k84.fn (by simp) ?_;simp only[e0,Hi,eE,seval];refine Qj (QPl P.progs hP.len1 (XI PG.name) 150 [] _ fun x _ y _=>QPF _ x y) (by simp only[QWM,QXh,Qa,seval]<;>rfl) ?_;simp only[Qa,seval];cases XX P.progs (XI PG.name)
 ·simp only[QXo,QXM,Qa,seval]
 simp only[QXU,QXT,eE,seval];refine Qj (QPn P.enums hP.len2 (XI PE.name) 152 [] _ fun x _ y _=>QPG _ x y) (by simp only[QWM,QXh,Qa,seval]<;>rfl) ?_;simp only[Qa,seval];cases XX P.enums (XI PE.name)
 ·simp only[QXo,QXM,Qa,seval]
 simp only[QXU,QXT,eE,seval];refine Qj (Dv P.progs hP.len1 (fun g=>!Jg g) 153 [] _ fun o ho=>QPJ _ o (hP.progs o ho).len) (by simp only[QWM,QXh,Qa,seval]<;>rfl) ?_;simp only[Xj,Qa,seval];cases P.progs.all Jg
 ·simp only[QXo,QXM,Qa,seval]
 simp only[QXU,QXT,eE,seval];refine Qj (HA P.enums hP.len2 (fun g=>!JL g) 156 [] _ fun o ho=>QPK _ o (hP.enums o ho).len1) (by simp only[QWM,QXh,Qa,seval]<;>rfl) ?_;simp only[Xj,Qa,seval]

end

theorem TE (n c:Nat):AV.shN n (.fn (.func c) [] [])=.fn (.func c) [] []:=by
 induction n with
 |zero=>rfl
 |succ n ih=>rw[AV.shN,ih];rfl

theorem QPM (nm:PO→List UInt8)(c:Nat)(hn:∀x,Qi Tryz.prog c [Qv x] (.str (nm x)))(y x:PO)(fr:Nat→Ob)(m:Qn)(h3:fr 3=.cells [.fn (.func c) [] []])(h6:fr 6=.cells x.cells) :
  Qh Tryz.prog 216 [Qv y,.ptr 3 3 0,.ptr 3 6 0] (Qd :: Qd :: Qd :: fr :: m) fun r m1=>r=.bool (nm y==nm x)∧m1=Qd :: Qd :: Qd :: fr :: m:=by
 have hy:=hn y;have hx:=hn x;have g3:∀n,AV.shN n (.fn (.func c) [] [])=.fn (.func c) [] []:=fun n=>TE n c
 simp only[Qv,PO.cells]at hy hx h6;refine Qjg.go (by simp) ?_;simp only[Qv,PO.cells,h3,g3,eE,seval];refine J9 (fa:=[]) (fb:=[]) (by rfl) hy rfl rfl rfl (.inl rfl) ?_;simp only[h3,h6,g3,eE,seval];refine J9 (fa:=[]) (fb:=[]) (by rfl) hx rfl rfl rfl (.inl rfl) ?_;simp only[QL,Qa,seval]

section
variable (L:List PO)(hl:L.length≤maxLen)(nm:PO→List UInt8)(c:Nat)(m:Qn)

def ReO (k:Nat)(st:St):Prop :=
 ∃f fr i,st=⟨f,fr :: m,[]⟩∧k=L.length-i∧QB (uniq L nm) i=true∧f 0=.list (L.map Qv)∧f 3=.ptr 0 3 0∧f 7=.list (L.map Qv)∧f 8=.int .i64 (L.length:Nat)∧f 9=.int .i64 (i:Nat)∧fr 3=.cells [.fn (.func c) [] []]∧∀s∈[6],(fr s).isRow=false

include hl in
theorem QPN (hn:∀x,Qi Tryz.prog c [Qv x] (.str (nm x))) :
  Qh Tryz.prog 161 [.list (L.map Qv),.fn (.func c) [] []] m fun y m1=>y=.bool (!Kx L nm)∧m1=m:=by
 refine Qfh.go (by simp) ?_;simp only[QXb,eE,seval];refine Qc (ReO L nm c m) _ ⟨_,_,0,rfl,rfl,rfl,(by rfl),(by rfl),(by rfl),(by rfl),(by rfl),(by rfl),by simp<;>rfl⟩ ?_;rintro _ st ⟨f0,fr0,i,rfl,rfl,hx,h00,h30,h70,h80,h90,m30,r6⟩;refine QN (a:=_) [6] r6 ?_;intro f fr hf hm hn6;have h0:f 0=.list (L.map Qv):=by rw[hf,h00]<;>rfl
 have h3:f 3=.ptr 0 3 0:=by rw[hf,h30]<;>rfl
 have h7:f 7=.list (L.map Qv):=by rw[hf,h70]<;>rfl
 have h8:f 8=.int .i64 (L.length:Nat):=by rw[hf,h80]<;>rfl
 have h9:f 9=.int .i64 (i:Nat):=by rw[hf,h90]<;>rfl
 have m3:fr 3=.cells [.fn (.func c) [] []]:=by rw[hm 3 (by decide),m30]<;>rfl
 have n6:=hn6 6 (by decide);clear hf hm hn6 h00 h30 h70 h80 h90 m30 r6;simp only[h8,h9,Qa,seval];by_cases hlt:i<L.length
 ·obtain⟨x,hi⟩:∃x,L[i]? = some x:=⟨L[i],QWh hlt⟩;have hg:(L.map Qv)[i]? = some (Qv x):=by simp[hi]
  have e1:=Qo i _ hlt hl;have hle:(i≤L.length)=True:=eq_true (by omega);have ht:((L.map Qv).drop 0).take (i-0)=(L.take i).map Qv:=by simp
  have hstep:QB (uniq L nm) (i+1)=!(L.take i).any fun y=>nm y==nm x:=by
   rw[QB,hx,QXT,UK hi,Du]
  have hcl:=fun(fr:Nat→Ob) (h3:fr 3=.cells [.fn (.func c) [] []]) (h6:fr 6=.cells x.cells)=>BA (L.take i) (by simp;omega) (fun y=>nm y==nm x) 216 [.ptr 0 3 0,.ptr 0 6 0] (fr :: m) fun y _=>QPM nm c hn y x fr m h3 h6
  simp only[Ql hlt,Qg,QXI,Qb,hg,Qv,PO.cells,n6,h0,h7,h9,Zt,ZE,Q1,QXQ,QXb,QWo,QWe,hle,true_or,QXA,←List.map_take,eE,seval];refine Qj (hcl _ (by exact m3) (by rfl)) (by simp only[QWM,QXh,h3,Qa,seval]<;>rfl) ?_;cases hp:(L.take i).any fun y=>nm y==nm x
  ·rw[hp]at hstep;simp only[h9,e1,Qa,seval];exact⟨L.length-(i+1),by omega,_,_,i+1,rfl,rfl,hstep,(by exact h0),(by exact h3),(by exact h7),(by exact h8),(by rfl),(by exact m3),by simp<;>rfl⟩
  ·rw[hp]at hstep;have hf:Kx L nm=false:=by
    rw[QX7];intro h';rw[QI.2 fun k hk=>QI.1 h' k (by omega)]at hstep;cases hstep
   simp only[hf,QXo,Qa,seval]
 ·have hf:Kx L nm=true:=QI.2 fun k hk=>QI.1 hx k (by omega)
  simp only[QA hlt,hf,QXU,Qa,seval]

end

theorem QPO (nm:PI→List UInt8)(c:Nat)(hn:∀x,Qi Tryz.prog c [Xe x] (.str (nm x)))(y x:PI)(fr:Nat→Ob)(m:Qn)(h3:fr 3=.cells [.fn (.func c) [] []])(h6:fr 6=.cells x.cells) :
  Qh Tryz.prog 217 [Xe y,.ptr 3 3 0,.ptr 3 6 0] (Qd :: Qd :: Qd :: fr :: m) fun r m1=>r=.bool (nm y==nm x)∧m1=Qd :: Qd :: Qd :: fr :: m:=by
 have hy:=hn y;have hx:=hn x;have g3:∀n,AV.shN n (.fn (.func c) [] [])=.fn (.func c) [] []:=fun n=>TE n c
 simp only[Xe,PI.cells]at hy hx h6;refine QNS.go (by simp) ?_;simp only[Xe,PI.cells,h3,g3,eE,seval];refine J9 (fa:=[]) (fb:=[]) (by rfl) hy rfl rfl rfl (.inl rfl) ?_;simp only[h3,h6,g3,eE,seval];refine J9 (fa:=[]) (fb:=[]) (by rfl) hx rfl rfl rfl (.inl rfl) ?_;simp only[QL,Qa,seval]

section
variable (L:List PI)(hl:L.length≤maxLen)(nm:PI→List UInt8)(c:Nat)(m:Qn)

def ReI (k:Nat)(st:St):Prop :=
 ∃f fr i,st=⟨f,fr :: m,[]⟩∧k=L.length-i∧QB (uniq L nm) i=true∧f 0=.list (L.map Xe)∧f 3=.ptr 0 3 0∧f 7=.list (L.map Xe)∧f 8=.int .i64 (L.length:Nat)∧f 9=.int .i64 (i:Nat)∧fr 3=.cells [.fn (.func c) [] []]∧∀s∈[6],(fr s).isRow=false

include hl in
theorem QPP (hn:∀x,Qi Tryz.prog c [Xe x] (.str (nm x))) :
  Qh Tryz.prog 164 [.list (L.map Xe),.fn (.func c) [] []] m fun y m1=>y=.bool (!Kx L nm)∧m1=m:=by
 refine QM7.go (by simp) ?_;simp only[QXb,eE,seval];refine Qc (ReI L nm c m) _ ⟨_,_,0,rfl,rfl,rfl,(by rfl),(by rfl),(by rfl),(by rfl),(by rfl),(by rfl),by simp<;>rfl⟩ ?_;rintro _ st ⟨f0,fr0,i,rfl,rfl,hx,h00,h30,h70,h80,h90,m30,r6⟩;refine QN (a:=_) [6] r6 ?_;intro f fr hf hm hn6;have h0:f 0=.list (L.map Xe):=by rw[hf,h00]<;>rfl
 have h3:f 3=.ptr 0 3 0:=by rw[hf,h30]<;>rfl
 have h7:f 7=.list (L.map Xe):=by rw[hf,h70]<;>rfl
 have h8:f 8=.int .i64 (L.length:Nat):=by rw[hf,h80]<;>rfl
 have h9:f 9=.int .i64 (i:Nat):=by rw[hf,h90]<;>rfl
 have m3:fr 3=.cells [.fn (.func c) [] []]:=by rw[hm 3 (by decide),m30]<;>rfl
 have n6:=hn6 6 (by decide);clear hf hm hn6 h00 h30 h70 h80 h90 m30 r6;simp only[h8,h9,Qa,seval];by_cases hlt:i<L.length
 ·obtain⟨x,hi⟩:∃x,L[i]? = some x:=⟨L[i],QWh hlt⟩;have hg:(L.map Xe)[i]? = some (Xe x):=by simp[hi]
  have e1:=Qo i _ hlt hl;have hle:(i≤L.length)=True:=eq_true (by omega);have ht:((L.map Xe).drop 0).take (i-0)=(L.take i).map Xe:=by simp
  have hstep:QB (uniq L nm) (i+1)=!(L.take i).any fun y=>nm y==nm x:=by
   rw[QB,hx,QXT,UK hi,Du]
  have hcl:=fun(fr:Nat→Ob) (h3:fr 3=.cells [.fn (.func c) [] []]) (h6:fr 6=.cells x.cells)=>Cg (L.take i) (by simp;omega) (fun y=>nm y==nm x) 217 [.ptr 0 3 0,.ptr 0 6 0] (fr :: m) fun y _=>QPO nm c hn y x fr m h3 h6
  simp only[Ql hlt,Qg,QXI,Qb,hg,Xe,PI.cells,n6,h0,h7,h9,Zt,ZE,Q1,QXQ,QXb,QWo,QWe,hle,true_or,QXA,←List.map_take,eE,seval];refine Qj (hcl _ (by exact m3) (by rfl)) (by simp only[QWM,QXh,h3,Qa,seval]<;>rfl) ?_;cases hp:(L.take i).any fun y=>nm y==nm x
  ·rw[hp]at hstep;simp only[h9,e1,Qa,seval];exact⟨L.length-(i+1),by omega,_,_,i+1,rfl,rfl,hstep,(by exact h0),(by exact h3),(by exact h7),(by exact h8),(by rfl),(by exact m3),by simp<;>rfl⟩
  ·rw[hp]at hstep;have hf:Kx L nm=false:=by
    rw[QX7];intro h';rw[QI.2 fun k hk=>QI.1 h' k (by omega)]at hstep;cases hstep
   simp only[hf,QXo,Qa,seval]
 ·have hf:Kx L nm=true:=QI.2 fun k hk=>QI.1 hx k (by omega)
  simp only[QA hlt,hf,QXU,Qa,seval]

end

theorem QPQ (o:PO):Qi Tryz.prog 162 [Qv o] (.str o.name):=by
 refine Qfm.fn (by simp) ?_;simp only[Qv,PO.cells,eE,seval]

theorem QPR (o:PI):Qi Tryz.prog 165 [Xe o] (.str o.name):=by
 refine QNa.fn (by simp) ?_;simp only[Xe,PI.cells,eE,seval]

theorem QPS (x:PE)(g:PG)(fr:Nat→Ob)(m:Qn)(h2:fr 2=.cells g.cells):Qh Tryz.prog 160 [Qr x,.ptr 3 2 0] (Qd :: Qd :: Qd :: fr :: m) fun y m1=>y=.bool (x.name==g.name)∧m1=Qd :: Qd :: Qd :: fr :: m:=by
 simp only[PG.cells]at h2;refine QM1.go (by simp) ?_;simp only[Qr,PE.cells,h2,QL,eE,seval]

theorem QPT (x:PE)(hl:x.items.length≤maxLen)(m:Qn):Qh Tryz.prog 163 [Qr x] m fun y m1=>y=.bool (!Wm x)∧m1=m:=by
 refine QM4.go (by simp) ?_;simp only[Qr,PE.cells,Wm,eE,seval];refine Qj (QPP x.items hl PI.name 165 _ QPR) (by simp only[QWM,QXh,Qa,seval]<;>rfl) ?_;simp only[Qa,seval]

section
variable {M:Nat}(P:PL)(hP:P.ok M)
include hP

theorem QPU (g:PG)(hl:g.ops.length≤maxLen)(fr:Nat→Ob)(h1:fr 1=.cells [.list (P.progs.map Qp),.list (P.enums.map Qr)]) :
  Qh Tryz.prog 159 [Qp g,.ptr 3 1 0] [Qd,Qd,Qd,fr] fun y m1=>y=.bool (!KA P g)∧m1=[Qd,Qd,Qd,fr]:=by
 have e:KA P g=(!(P.enums.any fun e=>e.name==g.name)&&Kx g.ops PO.name):=by rw[KA,Du]
 refine Qe5.go (by simp) ?_;simp only[Qp,PG.cells,h1,e,eE,seval];refine Qj (HA P.enums hP.len2 (fun e=>e.name==g.name) 160 [.ptr 0 2 0] _ fun o _=>QPS o g _ _ (by rfl)) (by simp only[QWM,QXh,Qa,seval]<;>rfl) ?_;cases P.enums.any fun e=>e.name==g.name
 ·simp only[QXo,QXT,eE,seval];refine Qj (QPN g.ops hl PO.name 162 _ QPQ) (by simp only[QWM,QXh,Qa,seval]<;>rfl) ?_;simp only[Qa,seval]
 ·simp only[QXU,QXM,QXo,Qa,seval]

theorem z85:Qi Tryz.prog 85 [P.av] (.bool (!Bz P)):=by
 have e0:P.av=.agg [.list (P.progs.map Qp),.list (P.enums.map Qr)]:=rfl;refine k85.fn (by simp) ?_;simp only[e0,Bz,eE,seval];refine Qj (Dv P.progs hP.len1 (fun g=>!KA P g) 159 [.ptr 0 1 0] _ fun o ho=>QPU P hP o (hP.progs o ho).len _ (by rfl)) (by simp only[QWM,QXh,Qa,seval]<;>rfl) ?_;simp only[Xj,Qa,seval];cases P.progs.all (KA P)
 ·simp only[QXo,QXM,Qa,seval]
 simp only[QXU,QXT,eE,seval];refine Qj (HA P.enums hP.len2 (fun g=>!Wm g) 163 [] _ fun o ho=>QPT o (hP.enums o ho).len1 _) (by simp only[QWM,QXh,Qa,seval]<;>rfl) ?_;simp only[Xj,Qa,seval]

end

theorem QPV (x:PS)(n:Int)(fr:Nat→Ob)(m:Qn)(h3:fr 3=.cells [.int .i64 n]):Qh Tryz.prog 245 [X9 x,.ptr 2 3 0] (Qd :: Qd :: fr :: m) fun y m1=>y=.bool (decide (x.lo≤n)&&decide (n≤x.hi))∧m1=Qd :: Qd :: fr :: m:=by
 refine QOo.go (by simp) ?_;simp only[X9,PS.cells,h3,eE,seval];cases h:decide (x.lo≤n)<;>simp only[h3,QXT,QXM,eE,seval]

theorem QPW (L:List PS)(hl:L.length≤maxLen)(n:Int):Qi Tryz.prog 219 [.list (L.map X9),.int .i64 n] (.bool (kept L n)):=by
 refine QNY.fn (by simp) ?_;simp only[eE,seval];refine Qj (QPi L hl (fun x=>decide (x.lo≤n)&&decide (n≤x.hi)) 245 [.ptr 0 3 0] _ fun o _=>QPV o n _ _ (by rfl)) (by simp only[QWM,QXh,Qa,seval]<;>rfl) ?_;simp only[kept,Qa,seval]

theorem QPX (o:PO)(m:Qn):Qh Tryz.prog 167 [Qv o] m fun y m1=>y=.bool (!Zl o)∧m1=m:=by
 refine Qfw.go (by simp) ?_;have e1:decide (o.num<1)=!decide (o.num≥1):=(by rw[QXa];simp only[QWl,QXe,QYb];omega);have e2:decide (o.num > 65535)=!decide (o.num≤65535):=(by rw[QXa];simp only[QWl,QXe,QYb];omega);simp only[Qv,PO.cells,Zl,e1,eE,seval];cases decide (o.num≥1)<;>simp only[QXU,QXo,QXT,QXM,e2,eE,seval]

theorem QPY (g:PG)(hl:g.ops.length≤maxLen)(m:Qn):Qh Tryz.prog 166 [Qp g] m fun y m1=>y=.bool (!g.ops.all Zl)∧m1=m:=by
 refine Qfr.go (by simp) ?_;simp only[Qp,PG.cells,eE,seval];refine Qj (BA g.ops hl (fun o=>!Zl o) 167 [] _ fun o _=>QPX o _) (by simp only[QWM,QXh,Qa,seval]<;>rfl) ?_;simp only[Xj,Qa,seval]

theorem QPZ (o:PI)(x:PE)(hl:x.free.length≤maxLen)(fr:Nat→Ob)(m:Qn)(h1:fr 1=.cells x.cells):Qh Tryz.prog 218 [Xe o,.ptr 3 1 0] (Qd :: Qd :: Qd :: fr :: m) fun y m1=>y=.bool (!W2 x o)∧m1=Qd :: Qd :: Qd :: fr :: m:=by
 have hr:Qi Tryz.prog 219 [.list (x.free.map fun n=>AV.agg n.cells),.int .i64 o.num] (.bool (kept x.free o.num)):=QPW x.free hl o.num;simp only[PE.cells]at h1;refine QNV.go (by simp) ?_;have e2:decide (o.num > 2147483647)=!decide (o.num≤2147483647):=(by rw[QXa];simp only[QWl,QXe,QYb];omega);simp only[Xe,PI.cells,W2,e2,eE,seval];cases decide (o.num≤2147483647)
 ·simp only[QXo,QXM,Qa,seval]
 ·simp only[QXU,QXT,h1,eE,seval];refine aC hr ?_;simp only[Bool.not_not,Qa,seval]

def KX (l:List PS)(i:Nat):Bool:=Hg l GB i&&Xa l YZ i
theorem Vd (l:List PS):QB (KX l) l.length=(l.all GB&&XX l YZ):=by
 unfold KX XX;rw[Hy,Hz]

def OuI (x:PE)(m:Qn)(k:Nat)(st:St):Prop :=
 ∃f fr i,st=⟨f,fr :: m,[]⟩∧k=x.free.length-i∧QB (KX x.free) i=true∧f 1=.ptr 0 1 0∧f 6=.list (x.free.map X9)∧f 7=.int .i64 (x.free.length:Nat)∧f 8=.int .i64 (i:Nat)∧fr 1=.cells x.cells∧∀s∈[4],(fr s).isRow=false

theorem QP0 (x:PE)(h0:x.items≠[])(hl1:x.items.length≤maxLen)(hl:x.free.length≤maxLen)(m:Qn):Qh Tryz.prog 168 [Qr x] m fun y m1=>y=.bool (!Jh x)∧m1=m:=by
 have hsp:=Vd x.free;have z1:Int.toNat 0=0:=rfl;have z0:(0≤(0:Int))=True:=by simp
 refine QNd.go (by simp) ?_;simp only[Qr,PE.cells,QXb,eE,seval];refine Qc (OuI x m) _ ⟨_,_,0,rfl,rfl,rfl,(by rfl),(by rfl),(by rfl),(by rfl),(by rfl),by simp<;>rfl⟩ ?_;rintro _ st ⟨f0,fr0,i,rfl,rfl,hx,h10,h60,h70,h80,m10,r4⟩;refine QN (a:=_) [4] r4 ?_;intro f fr hf hm hn4;have h1:f 1=.ptr 0 1 0:=by rw[hf,h10]<;>rfl
 have h6:f 6=.list (x.free.map X9):=by rw[hf,h60]<;>rfl
 have h7:f 7=.int .i64 (x.free.length:Nat):=by rw[hf,h70]<;>rfl
 have h8:f 8=.int .i64 (i:Nat):=by rw[hf,h80]<;>rfl
 have m1:fr 1=.cells x.cells:=by rw[hm 1 (by decide),m10]<;>rfl
 have n4:=hn4 4 (by decide);clear hf hm hn4 h10 h60 h70 h80 m10 r4;simp only[PE.cells]at m1;simp only[h7,h8,Qa,seval];by_cases hlt:i<x.free.length
 ·obtain⟨y,hi⟩:∃y,x.free[i]? = some y:=⟨x.free[i],QWh hlt⟩;have hg:(x.free.map X9)[i]? = some (X9 y):=by simp[hi]
  have e1:=Qo i _ hlt hl;have hstep:QB (KX x.free) (i+1)=(GB y&&Xa x.free YZ i):=by
   rw[QB,hx,QXT,KX,Yd hi]
  have hend:QB (KX x.free) (i+1)=false→Jh x=false:=by
   intro h;unfold Jh;rw[←hsp];have:QB (KX x.free) x.free.length=false:=by
    rw[QX7];intro h';rw[QI.2 fun k hk=>QI.1 h' k (by omega)]at h;cases h
   rw[this];rfl
  have fin:∀(f':Fr) (fr':Nat→Ob),QB (KX x.free) (i+1)=true→f' 1=.ptr 0 1 0→f' 6=.list (x.free.map X9)→f' 7=.int .i64 (x.free.length:Nat)→f' 8=.int .i64 ((i+1:Nat):Int)→fr' 1=.cells x.cells→(∀s∈[4],(fr' s).isRow=false)→∃k,k<x.free.length-i∧OuI x m k ⟨f',fr' :: m,[]⟩:=by
   intro f' fr' a b c d e g h;exact⟨x.free.length-(i+1),by omega,f',fr',i+1,rfl,rfl,a,b,c,d,e,g,h⟩
  have s1:GB y=(!decide (y.lo<0) && !decide (y.hi > 2147483647) && !decide (y.hi<y.lo)):=by
   unfold GB;exact(by rw[QXa];simp only[QWl,QXe,QYb,QWE];omega)
  rw[s1]at hstep;simp only[Ql hlt,Qg,QXI,Qb,hg,X9,PS.cells,n4,h6,h8,eE,seval];cases a1:decide (y.lo<0)
  case true=>
   rw[a1,QXU,QXM,QXM,QXM]at hstep;simp only[hend hstep,QXo,Qa,seval]
  cases a2:decide (y.hi > 2147483647)
  case true=>
   rw[a1,a2,QXU,QYc,QXM,QXM]at hstep;simp only[a2,hend hstep,QXo,eE,seval]
  cases a3:decide (y.hi<y.lo)
  case true=>
   rw[a1,a2,a3,QXU,QYc,QXM]at hstep;simp only[a2,a3,hend hstep,QXo,eE,seval]
  rw[a1,a2,a3]at hstep;simp only[QXo,QXT]at hstep;cases i with
  |zero=>
   have d0:decide (((0:Nat):Int) > 0)=false:=rfl;rw[Yv]at hstep;simp only[a2,a3,h8,eE,seval];exact fin _ _ hstep (by exact h1) (by exact h6) (by exact h7) (by rfl) (by exact m1) (by simp<;>rfl)
  |succ j=>
   have d0:decide (((j+1:Nat):Int) > 0)=true:=QYa (by omega);obtain⟨z,hj⟩:∃z,x.free[j]? = some z:=⟨x.free[j]'(by omega),QWh (by omega)⟩;have hgj:(x.free.map fun n=>AV.agg n.cells)[j]? = some (.agg z.cells):=by simp[hj]
   simp only[PS.cells]at hgj;rw[Jf hj hi]at hstep;have w:=Wn j _ hlt hl;have s2:YZ z y=!decide (y.lo≤z.hi):=by unfold YZ;exact(by rw[QXa];simp only[QWl,QXe,QYb];omega)
   rw[s2]at hstep;simp only[a2,a3,d0,w,Qg,QXI,Qb,hgj,PS.cells,h1,m1,eE,seval];cases a4:decide (y.lo≤z.hi)
   ·rw[a4]at hstep;simp only[h8,e1,Qa,seval];exact fin _ _ hstep (by exact h1) (by exact h6) (by exact h7) (by rfl) (by exact m1) (by simp<;>rfl)
   ·rw[a4]at hstep;simp only[hend hstep,QXo,Qa,seval]
 ·have hfr:QB (KX x.free) x.free.length=true:=QI.2 fun k hk=>QI.1 hx k (by omega)
  obtain⟨it,Qe,hits⟩:∃it Qe,x.items=it :: Qe:=by
   cases h:x.items with
   |nil=>exact absurd h h0
   |cons a b=>exact⟨a,b,rfl⟩
  have hr:Jh x=(it.num==0&&x.items.all (W2 x)):=by
   unfold Jh;rw[←hsp,hfr,QXT,Ui,hits]
  have hg0:(x.items.map fun n=>AV.agg n.cells)[0]? = some (.agg it.cells):=by simp[hits]
  have hne:(it.num != 0)=!(it.num==0):=rfl;simp only[PI.cells]at hg0;simp only[QA hlt,Qb,z0,z1,hg0,PI.cells,hr,hne,QWv,QXc,h1,m1,eE,seval];cases it.num==0
  ·simp only[QXo,QXM,Qa,seval]
  ·simp only[QXU,QXT,m1,h1,eE,seval];refine Qj (Cg x.items hl1 (fun o=>!W2 x o) 218 [.ptr 0 1 0] _ fun o _=>QPZ o x hl _ _ (by exact m1)) (by simp only[QWM,QXh,h1,Qa,seval]<;>rfl) ?_;simp only[Xj,Qa,seval]

theorem z86 {M:Nat}(P:PL)(hP:P.ok M)(hi:∀e∈P.enums,e.items≠[]):Qi Tryz.prog 86 [P.av] (.bool (!GC P)):=by
 have e0:P.av=.agg [.list (P.progs.map Qp),.list (P.enums.map Qr)]:=rfl;refine k86.fn (by simp) ?_;simp only[e0,GC,eE,seval];refine Qj (Dv P.progs hP.len1 (fun g=>!g.ops.all Zl) 166 [] _ fun o ho=>QPY o (hP.progs o ho).len _) (by simp only[QWM,QXh,Qa,seval]<;>rfl) ?_;simp only[Xj,Qa,seval];cases P.progs.all fun g=>g.ops.all Zl
 ·simp only[QXo,QXM,Qa,seval]
 simp only[QXU,QXT,eE,seval];refine Qj (HA P.enums hP.len2 (fun g=>!Jh g) 168 [] _ fun o ho=>QP0 o (hi o ho) (hP.enums o ho).len1 (hP.enums o ho).len2 _) (by simp only[QWM,QXh,Qa,seval]<;>rfl) ?_;simp only[Xj,Qa,seval]

end Go.Proofs.YtdhlbgejhcejcaaGreatDoor.Va

namespace Go.Proofs.YtdhlbgejhcejcaaGreatDoor.Va
open Go Am Rc Bt

def bt (s:List UInt8)(i lo hi:Nat):Bool :=
 match s[i]? with
 |some b=>decide (lo≤b.toNat)&&decide (b.toNat≤hi)
 |none=>false
def tl (s:List UInt8):Nat→Nat→Bool
 |_,0=>true
 |i,n+1=>bt s i 128 191&&tl s (i+1) n
def D7 (s:List UInt8)(i b:Nat):Nat :=
 if b<128 then 1
 else if 194≤b∧b≤223∧tl s (i+1) 1=true then 2
 else if b=224∧bt s (i+1) 160 191=true∧tl s (i+2) 1=true then 3
 else if b=237∧bt s (i+1) 128 159=true∧tl s (i+2) 1=true then 3
 else if 225≤b∧b≤239∧b≠237∧tl s (i+1) 2=true then 3
 else if b=240∧bt s (i+1) 144 191=true∧tl s (i+2) 2=true then 4
 else if 241≤b∧b≤243∧tl s (i+1) 3=true then 4
 else if b=244∧bt s (i+1) 128 143=true∧tl s (i+2) 2=true then 4
 else 0
def sz (s:List UInt8)(i:Nat):Nat :=
 match s[i]? with
 |none=>0
 |some c=>D7 s i c.toNat
def WP (s:List UInt8):Nat→Nat→Int
 |0,_=>-1
 |k+1,i=>if i<s.length then(if sz s i=0 then(i:Int)else WP s k (i+sz s i))else -1
def Hj (s:List UInt8):Bool:=decide (WP s s.length 0<0)

theorem QP1 (c:UInt8)(n:Nat):decide ((c.toNat:Int)≥(n:Int))=decide (n≤c.toNat):=by simp
theorem QP2 (c:UInt8)(n:Nat):decide ((c.toNat:Int)≤(n:Int))=decide (c.toNat≤n):=by simp

theorem BF (s:List UInt8)(i lo hi:Nat):Qi Tryz.prog 268 [.str s,.int .i64 (i:Nat),.int .u8 (lo:Nat),.int .u8 (hi:Nat)] (.bool (bt s i lo hi)):=by
 refine QOH.fn (by simp) ?_;by_cases hlt:i<s.length
 ·obtain⟨c,hc⟩:∃c,s[i]? = some c:=⟨s[i],QWh hlt⟩;have hb:bt s i lo hi=(decide (lo≤c.toNat)&&decide (c.toNat≤hi)):=by simp only[bt,hc]
  simp only[Ql hlt,Qg,QXI,hc,QP1,Qa,seval];by_cases h1:lo≤c.toNat
  ·have d1:decide (lo≤c.toNat)=true:=by simpa using h1
   simp only[d1,Qg,QXI,hc,hb,QP2,QXT,Qa,seval]
  ·have d1:decide (lo≤c.toNat)=false:=by simpa using h1
   simp only[d1,hb,QXM,Qa,seval]
 ·have hb:bt s i lo hi=false:=by simp only[bt,QXF (Nat.le_of_not_lt hlt)]
  simp only[QA hlt,hb,Qa,seval]

def QHK (s:List UInt8)(i n:Nat)(k:Nat)(st:St):Prop :=
 ∃f j,st=⟨f,[Qd],[]⟩∧k=n-j∧j≤n∧tl s i n=tl s (i+j) (n-j)∧f 0=.str s∧f 1=.int .i64 (i:Nat)∧f 2=.int .i64 (n:Nat)∧f 7=.int .i64 (j:Nat)

theorem Jy (a b:Nat)(h:a+b≤maxLen):IntKind.i64.wrap ((a:Int)+(b:Int))=((a+b:Nat):Int):=by
 simp only[maxLen]at h;rw[QC];omega

theorem HB (s:List UInt8)(i n:Nat)(hi:i+n≤maxLen):Qi Tryz.prog 267 [.str s,.int .i64 (i:Nat),.int .i64 (n:Nat)] (.bool (tl s i n)):=by
 refine QOE.fn (by simp) ?_;simp only[Qa,seval];refine Qc (QHK s i n) _ ⟨_,0,rfl,rfl,QWo _,rfl,rfl,rfl,rfl,rfl⟩ ?_;rintro _ st ⟨f,j,rfl,rfl,hj,ht,h0,h1,h2,h7⟩;simp only[h2,h7,Qa,seval];by_cases hlt:j<n
 ·have e0:=Jy i j (by omega);have e1:=Qo j _ hlt (by omega);simp only[Ql hlt,h0,h1,h7,e0,Qa,seval];refine aC (BF s (i+j) 128 191) ?_;have hs:tl s i n=(bt s (i+j) 128 191&&tl s (i+(j+1)) (n-(j+1))):=by
   rw[ht];obtain⟨m,hm⟩:∃m,n-j=m+1:=⟨n-j-1,by omega⟩;rw[hm,show n-(j+1)=m by omega];rfl
  cases hb:bt s (i+j) 128 191
  ·rw[hb]at hs;simp only[hs,QXM,Qa,seval]
  ·rw[hb,QXT]at hs;simp only[h7,e1,Qa,seval];exact⟨n-(j+1),by omega,_,j+1,rfl,rfl,by omega,hs,(by exact h0),(by exact h1),(by exact h2),(by rfl)⟩
 ·have hs:tl s i n=true:=by
   rw[ht,show n-j=0 by omega];rfl
  simp only[QA hlt,hs,Qa,seval]

def BG (s:List UInt8)(i:Nat)(c:UInt8)(D:Nat)(cond:Prop)(g:List Am.Item):Prop :=
 ∀Q:St→Prop,(∀f' B,(B=true↔cond)→f' 0=.str s→f' 1=.int .i64 (i:Nat)→f' 5=.int .u8 (c.toNat:Nat)→f' D=.bool B→Q ⟨f',[Qd],[]⟩)→
  ∀f,f 0=.str s→f 1=.int .i64 (i:Nat)→f 5=.int .u8 (c.toNat:Nat)→QE Tryz.prog g ⟨f,[Qd],[]⟩ Q

section
variable {s:List UInt8}{i:Nat}{c:UInt8}(hi:i<s.length)(hs:s.length+8≤maxLen)
include hi hs

theorem QP3:BG s i c 12 (194≤c.toNat∧c.toNat≤223∧tl s (i+1) 1=true) Bm:=by
 intro Q hQ f h0 h1 h5;have e1:IntKind.i64.wrap ((i:Int)+1)=((i+1:Nat):Int):=Jy i 1 (by omega);have e2:IntKind.i64.wrap ((i:Int)+2)=((i+2:Nat):Int):=Jy i 2 (by omega);simp only[Bm,h5,Qa,seval]
 repeat' (first|(refine QP (fun h=>?_) (fun h=>?_)<;>simp only[h,h0,h1,h5,e1,e2,eE,seval])|(refine Xl (fun h=>?_) (fun h=>?_)<;>simp only[h,Qk,h0,h1,h5,e1,Qa,seval])|(refine Xm (fun h=>?_) (fun h=>?_)<;>simp only[h,Qk,h0,h1,h5,e1,e2,eE,seval])|((with_reducible apply Xr (k:=267));(case hy=>rfl);(case h1=>rfl);(case hk=>exact HB s (i+1) 1 (by omega));(case h2=>rfl);(case h3=>first|exact .inl rfl|exact .inr rfl);simp only[Qa,seval]))
 all_goals(refine hQ _ _ ?_ (by exact h0) (by exact h1) (by exact h5) rfl)
 all_goals simp only[QWl,QYb]at *
 all_goals
  constructor
  ·intro hh
   first
    |cases hh
    |(refine⟨by omega,?_⟩;first|exact hh|(refine⟨by omega,?_⟩;first|exact hh|(refine⟨by omega,?_⟩;exact hh))|exact⟨by assumption,hh⟩)
  ·intro hh
   first
    |exact hh.2.2.2
    |exact hh.2.2
    |(exfalso;omega)
    |(exfalso;simp_all;done)

theorem QP4:BG s i c 25 (c.toNat=224∧bt s (i+1) 160 191=true∧tl s (i+2) 1=true) Bn:=by
 intro Q hQ f h0 h1 h5;have e1:IntKind.i64.wrap ((i:Int)+1)=((i+1:Nat):Int):=Jy i 1 (by omega);have e2:IntKind.i64.wrap ((i:Int)+2)=((i+2:Nat):Int):=Jy i 2 (by omega);simp only[Bn,h5,Qa,seval]
 repeat' (first|(refine QP (fun h=>?_) (fun h=>?_)<;>simp only[h,h0,h1,h5,e1,e2,eE,seval])|(refine Xl (fun h=>?_) (fun h=>?_)<;>simp only[h,Qk,h0,h1,e1,e2,Qa,seval])|(refine Xm (fun h=>?_) (fun h=>?_)<;>simp only[h,Qk,h0,h1,h5,e1,e2,eE,seval])|((with_reducible apply Xr (k:=268));(case hy=>rfl);(case h1=>rfl);(case hk=>exact BF s (i+1) 160 191);(case h2=>rfl);(case h3=>first|exact .inl rfl|exact .inr rfl);simp only[Qa,seval])|((with_reducible apply Xr (k:=267));(case hy=>rfl);(case h1=>rfl);(case hk=>exact HB s (i+2) 1 (by omega));(case h2=>rfl);(case h3=>first|exact .inl rfl|exact .inr rfl);simp only[Qa,seval]))
 all_goals(refine hQ _ _ ?_ (by exact h0) (by exact h1) (by exact h5) rfl)
 all_goals simp only[QWm,QXY,ne_eq]at *
 all_goals
  constructor
  ·intro hh
   first
    |cases hh
    |(refine⟨by omega,?_⟩;first|exact hh|(refine⟨by omega,?_⟩;first|exact hh|(refine⟨by omega,?_⟩;exact hh))|exact⟨by assumption,hh⟩)
  ·intro hh
   first
    |exact hh.2.2.2
    |exact hh.2.2
    |(exfalso;omega)
    |(exfalso;simp_all;done)

theorem QP5:BG s i c 40 (c.toNat=237∧bt s (i+1) 128 159=true∧tl s (i+2) 1=true) Bo:=by
 intro Q hQ f h0 h1 h5;have e1:IntKind.i64.wrap ((i:Int)+1)=((i+1:Nat):Int):=Jy i 1 (by omega);have e2:IntKind.i64.wrap ((i:Int)+2)=((i+2:Nat):Int):=Jy i 2 (by omega);simp only[Bo,h5,Qa,seval]
 repeat' (first|(refine QP (fun h=>?_) (fun h=>?_)<;>simp only[h,h0,h1,h5,e1,e2,eE,seval])|(refine Xl (fun h=>?_) (fun h=>?_)<;>simp only[h,Qk,h0,h1,e1,e2,Qa,seval])|(refine Xm (fun h=>?_) (fun h=>?_)<;>simp only[h,Qk,h0,h1,h5,e1,e2,eE,seval])|((with_reducible apply Xr (k:=268));(case hy=>rfl);(case h1=>rfl);(case hk=>exact BF s (i+1) 128 159);(case h2=>rfl);(case h3=>first|exact .inl rfl|exact .inr rfl);simp only[Qa,seval])|((with_reducible apply Xr (k:=267));(case hy=>rfl);(case h1=>rfl);(case hk=>exact HB s (i+2) 1 (by omega));(case h2=>rfl);(case h3=>first|exact .inl rfl|exact .inr rfl);simp only[Qa,seval]))
 all_goals(refine hQ _ _ ?_ (by exact h0) (by exact h1) (by exact h5) rfl)
 all_goals simp only[QWm,QXY,ne_eq]at *
 all_goals
  constructor
  ·intro hh
   first
    |cases hh
    |(refine⟨by omega,?_⟩;first|exact hh|(refine⟨by omega,?_⟩;first|exact hh|(refine⟨by omega,?_⟩;exact hh))|exact⟨by assumption,hh⟩)
  ·intro hh
   first
    |exact hh.2.2.2
    |exact hh.2.2
    |(exfalso;omega)
    |(exfalso;simp_all;done)

theorem QHL:BG s i c 55 (225≤c.toNat∧c.toNat≤239∧c.toNat≠237∧tl s (i+1) 2=true) Dq:=by
 intro Q hQ f h0 h1 h5;have e1:IntKind.i64.wrap ((i:Int)+1)=((i+1:Nat):Int):=Jy i 1 (by omega);have e2:IntKind.i64.wrap ((i:Int)+2)=((i+2:Nat):Int):=Jy i 2 (by omega);simp only[Dq,h5,Qa,seval]
 repeat' (first|(refine QP (fun h=>?_) (fun h=>?_)<;>simp only[h,h0,h1,h5,e1,e2,eE,seval])|(refine Xl (fun h=>?_) (fun h=>?_)<;>simp only[h,Qk,h0,h1,h5,e1,Qa,seval])|(refine Xm (fun h=>?_) (fun h=>?_)<;>simp only[h,Qk,h0,h1,h5,e1,e2,eE,seval])|((with_reducible apply Xr (k:=267));(case hy=>rfl);(case h1=>rfl);(case hk=>exact HB s (i+1) 2 (by omega));(case h2=>rfl);(case h3=>first|exact .inl rfl|exact .inr rfl);simp only[Qa,seval]))
 all_goals(refine hQ _ _ ?_ (by exact h0) (by exact h1) (by exact h5) rfl)
 all_goals simp only[QWl,QYb,QWG,bne_eq_false_iff_eq,ne_eq]at *
 all_goals
  constructor
  ·intro hh
   first
    |cases hh
    |(refine⟨by omega,?_⟩;first|exact hh|(refine⟨by omega,?_⟩;first|exact hh|(refine⟨by omega,?_⟩;exact hh))|exact⟨by assumption,hh⟩)
  ·intro hh
   first
    |exact hh.2.2.2
    |exact hh.2.2
    |(exfalso;omega)
    |(exfalso;simp_all;done)

theorem QHM:BG s i c 72 (c.toNat=240∧bt s (i+1) 144 191=true∧tl s (i+2) 2=true) Dr:=by
 intro Q hQ f h0 h1 h5;have e1:IntKind.i64.wrap ((i:Int)+1)=((i+1:Nat):Int):=Jy i 1 (by omega);have e2:IntKind.i64.wrap ((i:Int)+2)=((i+2:Nat):Int):=Jy i 2 (by omega);simp only[Dr,h5,Qa,seval]
 repeat' (first|(refine QP (fun h=>?_) (fun h=>?_)<;>simp only[h,h0,h1,h5,e1,e2,eE,seval])|(refine Xl (fun h=>?_) (fun h=>?_)<;>simp only[h,Qk,h0,h1,e1,e2,Qa,seval])|(refine Xm (fun h=>?_) (fun h=>?_)<;>simp only[h,Qk,h0,h1,h5,e1,e2,eE,seval])|((with_reducible apply Xr (k:=268));(case hy=>rfl);(case h1=>rfl);(case hk=>exact BF s (i+1) 144 191);(case h2=>rfl);(case h3=>first|exact .inl rfl|exact .inr rfl);simp only[Qa,seval])|((with_reducible apply Xr (k:=267));(case hy=>rfl);(case h1=>rfl);(case hk=>exact HB s (i+2) 2 (by omega));(case h2=>rfl);(case h3=>first|exact .inl rfl|exact .inr rfl);simp only[Qa,seval]))
 all_goals(refine hQ _ _ ?_ (by exact h0) (by exact h1) (by exact h5) rfl)
 all_goals simp only[QWm,QXY,ne_eq]at *
 all_goals
  constructor
  ·intro hh
   first
    |cases hh
    |(refine⟨by omega,?_⟩;first|exact hh|(refine⟨by omega,?_⟩;first|exact hh|(refine⟨by omega,?_⟩;exact hh))|exact⟨by assumption,hh⟩)
  ·intro hh
   first
    |exact hh.2.2.2
    |exact hh.2.2
    |(exfalso;omega)
    |(exfalso;simp_all;done)

theorem QHN:BG s i c 87 (241≤c.toNat∧c.toNat≤243∧tl s (i+1) 3=true) Ds:=by
 intro Q hQ f h0 h1 h5;have e1:IntKind.i64.wrap ((i:Int)+1)=((i+1:Nat):Int):=Jy i 1 (by omega);have e2:IntKind.i64.wrap ((i:Int)+2)=((i+2:Nat):Int):=Jy i 2 (by omega);simp only[Ds,h5,Qa,seval]
 repeat' (first|(refine QP (fun h=>?_) (fun h=>?_)<;>simp only[h,h0,h1,h5,e1,e2,eE,seval])|(refine Xl (fun h=>?_) (fun h=>?_)<;>simp only[h,Qk,h0,h1,h5,e1,Qa,seval])|(refine Xm (fun h=>?_) (fun h=>?_)<;>simp only[h,Qk,h0,h1,h5,e1,e2,eE,seval])|((with_reducible apply Xr (k:=267));(case hy=>rfl);(case h1=>rfl);(case hk=>exact HB s (i+1) 3 (by omega));(case h2=>rfl);(case h3=>first|exact .inl rfl|exact .inr rfl);simp only[Qa,seval]))
 all_goals(refine hQ _ _ ?_ (by exact h0) (by exact h1) (by exact h5) rfl)
 all_goals simp only[QWl,QYb]at *
 all_goals
  constructor
  ·intro hh
   first
    |cases hh
    |(refine⟨by omega,?_⟩;first|exact hh|(refine⟨by omega,?_⟩;first|exact hh|(refine⟨by omega,?_⟩;exact hh))|exact⟨by assumption,hh⟩)
  ·intro hh
   first
    |exact hh.2.2.2
    |exact hh.2.2
    |(exfalso;omega)
    |(exfalso;simp_all;done)

theorem QHO:BG s i c 100 (c.toNat=244∧bt s (i+1) 128 143=true∧tl s (i+2) 2=true) Dt:=by
 intro Q hQ f h0 h1 h5;have e1:IntKind.i64.wrap ((i:Int)+1)=((i+1:Nat):Int):=Jy i 1 (by omega);have e2:IntKind.i64.wrap ((i:Int)+2)=((i+2:Nat):Int):=Jy i 2 (by omega);simp only[Dt,h5,Qa,seval]
 repeat' (first|(refine QP (fun h=>?_) (fun h=>?_)<;>simp only[h,h0,h1,h5,e1,e2,eE,seval])|(refine Xl (fun h=>?_) (fun h=>?_)<;>simp only[h,Qk,h0,h1,e1,e2,Qa,seval])|(refine Xm (fun h=>?_) (fun h=>?_)<;>simp only[h,Qk,h0,h1,h5,e1,e2,eE,seval])|((with_reducible apply Xr (k:=268));(case hy=>rfl);(case h1=>rfl);(case hk=>exact BF s (i+1) 128 143);(case h2=>rfl);(case h3=>first|exact .inl rfl|exact .inr rfl);simp only[Qa,seval])|((with_reducible apply Xr (k:=267));(case hy=>rfl);(case h1=>rfl);(case hk=>exact HB s (i+2) 2 (by omega));(case h2=>rfl);(case h3=>first|exact .inl rfl|exact .inr rfl);simp only[Qa,seval]))
 all_goals(refine hQ _ _ ?_ (by exact h0) (by exact h1) (by exact h5) rfl)
 all_goals simp only[QWm,QXY,ne_eq]at *
 all_goals
  constructor
  ·intro hh
   first
    |cases hh
    |(refine⟨by omega,?_⟩;first|exact hh|(refine⟨by omega,?_⟩;first|exact hh|(refine⟨by omega,?_⟩;exact hh))|exact⟨by assumption,hh⟩)
  ·intro hh
   first
    |exact hh.2.2.2
    |exact hh.2.2
    |(exfalso;omega)
    |(exfalso;simp_all;done)

end

theorem QP6 (s:List UInt8)(i:Nat)(hi:i<s.length)(hs:s.length+8≤maxLen):Qi Tryz.prog 237 [.str s,.int .i64 (i:Nat)] (.int .i64 (sz s i:Nat)):=by
 refine QOc.fn (by simp) ?_;obtain⟨c,hc⟩:∃c,s[i]? = some c:=⟨s[i],QWh hi⟩;have hz:sz s i=D7 s i c.toNat:=by simp only[sz,hc]
 unfold D7 at hz;simp only[Pi,Pj,Pk,Pl,Pm,Pn,Po,N5,N6,N7,N8,N9,Qui,Quj,Qg,QXI,hc,Qa,seval];refine QP (fun h=>?_) (fun h=>?_)
 ·have h:c.toNat<128:=by simp at h;omega
  rw[hz,QWJ h];simp only[Qa,seval]
  try rfl
 have h:¬c.toNat<128:=by simp at h;omega
 rw[hz,QWu h];simp only[Qa,seval];refine QP3 hi hs _ (fun f B hB h0 h1 h5 hd=>?_) _ (by rfl) (by rfl) (by rfl);by_cases hB1:B=true
 ·rw[QWJ (hB.1 hB1)];subst hB1;simp only[hd,Qa,seval]
  try rfl
 rw[QWu (fun hh=>hB1 (hB.2 hh))];have hB2:B=false:=by simpa using hB1
 subst hB2;simp only[hd,Qa,seval];refine QP4 hi hs _ (fun f B hB h0 h1 h5 hd=>?_) _ (by exact h0) (by exact h1) (by exact h5);by_cases hB1:B=true
 ·rw[QWJ (hB.1 hB1)];subst hB1;simp only[hd,Qa,seval]
  try rfl
 rw[QWu (fun hh=>hB1 (hB.2 hh))];have hB2:B=false:=by simpa using hB1
 subst hB2;simp only[hd,Qa,seval];refine QP5 hi hs _ (fun f B hB h0 h1 h5 hd=>?_) _ (by exact h0) (by exact h1) (by exact h5);by_cases hB1:B=true
 ·rw[QWJ (hB.1 hB1)];subst hB1;simp only[hd,Qa,seval]
  try rfl
 rw[QWu (fun hh=>hB1 (hB.2 hh))];have hB2:B=false:=by simpa using hB1
 subst hB2;simp only[hd,Qa,seval];refine QHL hi hs _ (fun f B hB h0 h1 h5 hd=>?_) _ (by exact h0) (by exact h1) (by exact h5);by_cases hB1:B=true
 ·rw[QWJ (hB.1 hB1)];subst hB1;simp only[hd,Qa,seval]
  try rfl
 rw[QWu (fun hh=>hB1 (hB.2 hh))];have hB2:B=false:=by simpa using hB1
 subst hB2;simp only[hd,Qa,seval];refine QHM hi hs _ (fun f B hB h0 h1 h5 hd=>?_) _ (by exact h0) (by exact h1) (by exact h5);by_cases hB1:B=true
 ·rw[QWJ (hB.1 hB1)];subst hB1;simp only[hd,Qa,seval]
  try rfl
 rw[QWu (fun hh=>hB1 (hB.2 hh))];have hB2:B=false:=by simpa using hB1
 subst hB2;simp only[hd,Qa,seval];refine QHN hi hs _ (fun f B hB h0 h1 h5 hd=>?_) _ (by exact h0) (by exact h1) (by exact h5);by_cases hB1:B=true
 ·rw[QWJ (hB.1 hB1)];subst hB1;simp only[hd,Qa,seval]
  try rfl
 rw[QWu (fun hh=>hB1 (hB.2 hh))];have hB2:B=false:=by simpa using hB1
 subst hB2;simp only[hd,Qa,seval];refine QHO hi hs _ (fun f B hB h0 h1 h5 hd=>?_) _ (by exact h0) (by exact h1) (by exact h5);by_cases hB1:B=true
 ·rw[QWJ (hB.1 hB1)];subst hB1;simp only[hd,Qa,seval]
  try rfl
 rw[QWu (fun hh=>hB1 (hB.2 hh))];have hB2:B=false:=by simpa using hB1
 subst hB2;simp only[hd,Qa,seval]
 try rfl

theorem TF (s:List UInt8)(i:Nat)(hi:i<s.length)(_h:sz s i≠0):i+sz s i≤s.length:=by
 have tl1:∀n j,tl s j n=true→n≠0→j+n≤s.length:=by
  intro n
  induction n with
  |zero=>intro j _ h;exact absurd rfl h
  |succ n ih=>
   intro j hj _;simp only[tl,QWE]at hj;have hb:j<s.length:=by
    have h1:=hj.1;unfold bt at h1;split at h1
    ·rename_i b hb;exact(QWg.1 hb).1
    ·cases h1
   by_cases h0:n=0
   ·subst h0;omega
   ·have:=ih (j+1) hj.2 h0;omega
 obtain⟨c,hc⟩:∃c,s[i]? = some c:=⟨s[i],QWh hi⟩;simp only[sz,hc]at _h ⊢;unfold D7 at _h ⊢
 (repeat' split)<;>first
  |omega
  |(rename_i hh;have:=tl1 _ _ hh.2.2 (by decide);omega)
  |(rename_i hh;have:=tl1 _ _ hh.2.2.2 (by decide);omega)
  |simp_all

def QP7 (s:List UInt8)(k:Nat)(st:St):Prop :=
 ∃f i,st=⟨f,[Qd],[]⟩∧i≤s.length∧s.length-i≤k∧WP s s.length 0=WP s k i∧f 0=.str s∧f 3=.int .i64 (i:Nat)

theorem QP8 (s:List UInt8)(hs:s.length+8≤maxLen):Qi Tryz.prog 203 [.str s] (.int .i64 (WP s s.length 0)):=by
 refine QNG.fn (by simp) ?_;simp only[Qa,seval];refine Qc (QP7 s) s.length ⟨_,0,rfl,QWo _,QWe _,rfl,rfl,rfl⟩ ?_;rintro k st ⟨f,i,rfl,hi,hk,hb,h0,h3⟩;simp only[h0,h3,Qa,seval];by_cases hlt:i<s.length
 ·simp only[Ql hlt,h0,h3,Qa,seval];refine aC (QP6 s i hlt hs) ?_;obtain⟨k,rfl⟩:∃n,k=n+1:=⟨k-1,by omega⟩;have hbk:WP s (k+1) i=if sz s i=0 then(i:Int)else WP s k (i+sz s i):=by
   show(if i<s.length then _ else _)=_;rw[QWJ hlt]
  by_cases hz:sz s i=0
  ·have b0:((sz s i:Int)==0)=true:=by simp[hz]
   simp only[b0,h3,hb,hbk,QWJ hz,Qa,seval]
  ·have b0:((sz s i:Int)==0)=false:=by simp;omega
   have hle:=TF s i hlt hz;have e0:=Jy i (sz s i) (by omega);simp only[b0,h3,e0,Qa,seval];exact⟨k,by omega,_,i+sz s i,rfl,hle,by omega,by rw[hb,hbk,QWu hz],(by exact h0),(by rfl)⟩
 ·have hbk:WP s k i = -1:=by
   cases k with
   |zero=>rfl
   |succ k=>
    show(if i<s.length then _ else _)=_;rw[QWu hlt]
  simp only[QA hlt,hb,hbk,Qa,seval]

theorem Ci (s:List UInt8)(hs:s.length+8≤maxLen):Qi Tryz.prog 127 [.str s] (.bool (Hj s)):=by
 refine QMl.fn (by simp) ?_;simp only[Qa,seval];refine aC (QP8 s hs) ?_;simp only[Qa,seval]
 try rfl

def KV (s:List UInt8)(i:Nat):Bool:=(s.drop i).take 3==[239,191,189]

theorem QP9 (s t:List UInt8):Qi Tryz.prog 288 [.str s,.str t] (.bool (s.take t.length==t)):=by
 refine QOZ.fn (by simp) ?_;by_cases h:t.length≤s.length
 ·have d0:decide ((s.length:Int)≥(t.length:Int))=true:=by simp;omega
  have s1:(0≤t.length∧t.length≤s.length)=True:=by simp;omega
  simp only[d0,Qg,s1,QXI,QL,QXA,QWX,Qa,seval]
 ·have d0:decide ((s.length:Int)≥(t.length:Int))=false:=by simp;omega
  have e0:(s.take t.length==t)=false:=by
   rw[QXY];intro hh;have:=congrArg List.length hh;simp at this;omega
  simp only[d0,e0,Qa,seval]

theorem QQa (s t:List UInt8):Qi Tryz.prog 273 [.str s,.str t] (.bool (s.take t.length==t)):=by
 refine QON.fn (by simp) ?_;simp only[Qa,seval];refine aC (QP9 s t) ?_;simp only[Qa,seval]

theorem QQb (s:List UInt8)(i:Nat)(hi:i≤s.length)(c:Nat):Qi Tryz.prog 246 [.str s,.int .i64 (i:Nat),.int .i32 (c:Nat)] (.bool (decide (c=65533) && !KV s i)):=by
 refine QOr.fn (by simp) ?_;by_cases hc:c=65533
 ·have b0:((c:Int)==65533)=true:=by simp[hc]
  have s1:(i≤s.length∧s.length≤s.length)=True:=by simp;omega
  simp only[b0,Qg,s1,QXI,Qa,seval];refine aC (QQa (List.take (s.length-i) (List.drop i s)) [239,191,189]) ?_;have ht:List.take (s.length-i) (List.drop i s)=List.drop i s:=QWO (by simp);simp only[ht,KV,hc,Qa,seval]
 ·have b0:((c:Int)==65533)=false:=by simp;omega
  simp only[b0,hc,Qa,seval];simp

end Go.Proofs.YtdhlbgejhcejcaaGreatDoor.Va

namespace Go.Proofs.YtdhlbgejhcejcaaGreatDoor.Vp

def JN:Nat→Nat→List UInt8
 |0,u=>[UInt8.ofNat u]
 |k+1,u=>if u<128 then [UInt8.ofNat u]else UInt8.ofNat (u % 128+128) :: JN k (u / 128)

def put (u:Nat):List UInt8:=JN 9 u

def Z5:Nat→Nat→List UInt8→Nat×Nat×Nat
 |_,_,[]=>(0,0,4)
 |i,acc,c :: t=>
  if i=9∧1<c.toNat then(0,0,6)
  else if c.toNat<128 then(acc+c.toNat*128 ^ i,i+1,0)
  else Z5 (i+1) (acc+(c.toNat-128)*128 ^ i) t

def take (s:List UInt8):Nat×Nat×Nat:=Z5 0 0 s

theorem toNat_ofNat (n:Nat)(h:n<256):(UInt8.ofNat n).toNat=n:=by
 simp[UInt8.toNat_ofNat'];omega

theorem R4 (k u:Nat):1≤(JN k u).length∧(JN k u).length≤k+1:=by
 induction k generalizing u with
 |zero=>simp[JN]
 |succ k ih=>
  unfold JN;split
  ·simp
  ·have:=ih (u / 128);simp;omega

theorem put_len (u:Nat):1≤(put u).length∧(put u).length≤10:=R4 9 u

theorem GD (k u:Nat)(h:u<128):JN k u=[UInt8.ofNat u]:=by
 cases k<;>simp[JN,h]

theorem BH (k u:Nat)(h:¬u<128):JN (k+1) u=UInt8.ofNat (u % 128+128) :: JN k (u / 128):=by
 simp[JN,h]

def Uk (i:Nat):Nat:=2 ^ (64-7*i)

theorem D8 (i u:Nat)(hi:i<9)(h:u<Uk i):u / 128<Uk (i+1):=by
 unfold Uk at *;have e:64-7*i=(64-7*(i+1))+7:=by omega
 rw[e,Nat.pow_add]at h;omega

theorem Qaa (k i acc u:Nat)(t:List UInt8)(hk:k+i=9)(hu:u<Uk i) :
  Z5 i acc (JN k u++t)=(acc+u*128 ^ i,i+(JN k u).length,0):=by
 induction k generalizing i acc u with
 |zero=>
  obtain rfl:i=9:=by omega
  have hu2:u<2:=by simpa [Uk]using hu
  have hc:=toNat_ofNat u (by omega);simp only[JN,QWC,QWD,Z5,hc];rw[QWu (by omega),QWJ (by omega)];rfl
 |succ k ih=>
  by_cases h:u<128
  ·have hc:=toNat_ofNat u (by omega);rw[GD _ _ h];simp only[QWC,QWD,Z5,hc];rw[QWu (by omega),QWJ h];rfl
  ·have hc:=toNat_ofNat (u % 128+128) (by omega);rw[BH _ _ h];simp only[QWC,Z5,hc];rw[QWu (by omega),QWu (by omega),ih (i+1) _ (u / 128) (by omega) (D8 i u (by omega) hu)];have e:acc+(u % 128+128-128)*128 ^ i+u / 128*128 ^ (i+1)=acc+u*128 ^ i:=by
    rw[Nat.pow_succ,Nat.add_sub_cancel,QWd,Nat.mul_comm (128 ^ i) 128,←Nat.mul_assoc,←QWP];congr 2;omega
   rw[e];simp only[QWv,QXL,QW7,and_true];omega

theorem Wo (u:Nat)(t:List UInt8)(h:u<2 ^ 64):take (put u++t)=(u,(put u).length,0):=by
 have:=Qaa 9 0 0 u t rfl (by simpa [Uk]using h)
 simpa [take,put]using this

theorem Cj (i acc:Nat)(s:List UInt8)(hi:i≤9)(ha:acc<128 ^ i)(h:(Z5 i acc s).2.2=0) :
  i<(Z5 i acc s).2.1∧(Z5 i acc s).2.1≤i+s.length∧(Z5 i acc s).2.1≤10∧(Z5 i acc s).1<2 ^ 64:=by
 induction s generalizing i acc with
 |nil=>simp[Z5]at h
 |cons c t ih=>
  unfold Z5 at h ⊢;split
  ·rename_i h1;rw[QWJ h1]at h;simp at h
  ·rename_i h1;rw[QWu h1]at h;have hp:128 ^ i=2 ^ (7*i):=by rw[show(128:Nat)=2 ^ 7 from rfl,←Nat.pow_mul]
   split
   ·rename_i h2;refine⟨Nat.lt_succ_self i,by simp,by show i+1≤10;omega,?_⟩;show acc+c.toNat*128 ^ i<2 ^ 64;rcases Nat.lt_or_ge i 9 with h9|h9
    ·have:c.toNat*128 ^ i≤127*128 ^ i:=QXm _ (by omega);have h3:acc+c.toNat*128 ^ i<128 ^ (i+1):=by rw[Nat.pow_succ];omega
     have h4:128 ^ (i+1)≤128 ^ 9:=QYe (by omega) (by omega);omega
    ·obtain rfl:i=9:=by omega
     have:c.toNat≤1:=by omega
     omega
   ·rename_i h2;rw[QWu h2]at h;have h9:i<9:=by
     rcases Nat.lt_or_ge i 9 with h9|h9
     ·exact h9
     ·exact absurd ⟨by omega,by omega⟩ h1
    have hc:=c.toNat_lt;have h3:acc+(c.toNat-128)*128 ^ i<128 ^ (i+1):=by
     have:(c.toNat-128)*128 ^ i≤127*128 ^ i:=QXm _ (by omega);rw[Nat.pow_succ];omega
    obtain⟨a,b,d,e⟩:=ih (i+1) _ (by omega) h3 h;exact⟨by omega,by simp;omega,d,e⟩

theorem W4 (s:List UInt8)(h:(take s).2.2=0):0<(take s).2.1∧(take s).2.1≤s.length∧(take s).2.1≤10∧(take s).1<2 ^ 64:=by
 have:=Cj 0 0 s (by omega) (by omega) h
 simpa [take]using this

theorem GE (i acc:Nat)(s t:List UInt8)(h:(Z5 i acc s).2.2≠4):Z5 i acc (s++t)=Z5 i acc s:=by
 induction s generalizing i acc with
 |nil=>simp[Z5]at h
 |cons c r ih=>
  simp only[QWC];unfold Z5 at h ⊢;split
  ·rfl
  ·rename_i h1;rw[QWu h1]at h;split
   ·rfl
   ·rename_i h2;rw[QWu h2]at h;exact ih _ _ h

theorem Qab (i acc:Nat)(s:List UInt8)(hi:i≤9)(hl:10≤i+s.length):(Z5 i acc s).2.2≠4:=by
 induction s generalizing i acc with
 |nil=>simp at hl;omega
 |cons c r ih=>
  unfold Z5;split
  ·simp
  ·rename_i h1;split
   ·simp
   ·rename_i h2;exact ih _ _ (by omega) (by simp at hl;omega)

theorem take_take (s:List UInt8):take (s.take 10)=take s:=by
 rcases Nat.lt_or_ge s.length 10 with h|h
 ·rw[QWO (by omega)]
 ·have:=GE 0 0 (s.take 10) (s.drop 10) (Qab 0 0 _ (by omega) (by simp;omega));rw[QXx]at this;exact this.symm

end Go.Proofs.YtdhlbgejhcejcaaGreatDoor.Vp

namespace Go.Proofs.YtdhlbgejhcejcaaGreatDoor.Va
open Go Am Rc Bt Vp

theorem JE (s:List UInt8)(j:Nat)(c:UInt8)(h:s[j]? = some c):(⟨⟨s⟩⟩:ByteArray).get! j=c:=by
 show(⟨s⟩:Array UInt8)[j]! = c;simp[h]

theorem Dw (a:UInt8)(n:Nat)(hn:n<256):(a==UInt8.ofNat n)=decide (a.toNat=n):=by
 rw[QXa,QWm,QWl]
 constructor
 ·rintro rfl;rw[toNat_ofNat _ hn]
 ·intro h;rw[←UInt8.toNat_inj,toNat_ofNat _ hn,h]

set_option maxHeartbeats 4000000 in
theorem QQc (s:List UInt8)(i:Nat)(a b c d:UInt8)(t:List UInt8)(hr:s.drop i=a :: b :: c :: d :: t):(decide ((Xh s i).1=65533) && !KV s i)=decide (sz s i=0)∧(sz s i≠0→(Xh s i).2=sz s i):=by
 have hsz:∀j,(s[i+j]? = (a :: b :: c :: d :: t)[j]?):=fun j=>by rw[←hr,QWU]
 have hn:ByteArray.size ⟨⟨s⟩⟩=s.length:=rfl;have hl:s.length=i+(a :: b :: c :: d :: t).length:=by
  have h:=congrArg List.length hr;simp at h ⊢;omega
 have h0:=hsz 0;have h1:=hsz 1;have h2:=hsz 2;have h3:=hsz 3;simp only[QWL]at h0;have g0:=JE s i a h0;have g1:=JE s (i+1) b h1;have g2:=JE s (i+2) c h2;have g3:=JE s (i+3) d h3;have l1:(i+1<s.length)=True:=by simp at hl ⊢;omega
 have l2:(i+2<s.length)=True:=by simp at hl ⊢;omega
 have l3:(i+3<s.length)=True:=by simp at hl ⊢;omega
 have wa:=a.toNat_lt;have wb:=b.toNat_lt;have wc:=c.toNat_lt;have wd:=d.toNat_lt;have hrep:KV s i=(decide (a.toNat=239)&&(decide (b.toNat=191)&&decide (c.toNat=189))):=by
  rw[←Dw a 239 (by decide),←Dw b 191 (by decide),←Dw c 189 (by decide)];simp[KV,hr]
 simp only[QXn,QXi]at h0 h1 h2 h3;generalize hD:Xh s i=D;generalize hS:sz s i=S;rw[hrep];simp only[Xh,Utf8.decode,Utf8.valid,Utf8.runeError,hn,l1,l2,l3,QWL,g0,g1,g2,g3,sz,h0,D7,tl,bt,QWd,seval,h1,h2,h3,decide_true,QXT,QXu,QWE,QWk,QWl,QWm,ge_iff_le]at hD hS;clear hsz hr hl h0 h1 h2 h3 g0 g1 g2 g3 l1 l2 l3 hrep hn;generalize a.toNat=x at *;generalize b.toNat=y at *;generalize c.toNat=z at *;generalize d.toNat=u at *
 (repeat' split at hD)<;>subst hD<;>(repeat' split at hS)<;>subst hS<;>refine⟨?_,?_⟩<;>(try rw[QXa])<;>(try simp only[QWE,QWl,QXe,QYf,QYb])<;>first|omega|(intro _;rfl)|(simp;done)|(simp;omega)

theorem R5 (s:List UInt8)(i:Nat)(hi:i<s.length):(decide ((Xh s i).1=65533) && !KV s i)=decide (sz s i=0)∧(sz s i≠0→(Xh s i).2=sz s i):=by
 have hsz:∀j,(s[i+j]? = (s.drop i)[j]?):=fun j=>by rw[QWU]
 have hn:ByteArray.size ⟨⟨s⟩⟩=s.length:=rfl;have hl:s.length=i+(s.drop i).length:=by simp;omega
 generalize hr:s.drop i=r at hsz hl;have h0:=hsz 0;have h1:=hsz 1;have h2:=hsz 2;have h3:=hsz 3;simp only[QWL]at h0
 match r,hl with
 | [],hl=>simp at hl;omega
 | [a],hl=>
  have g0:=JE s i a h0;have l1:(i+1<s.length)=False:=by simp at hl ⊢;omega
  have l2:(i+2<s.length)=False:=by simp at hl ⊢;omega
  have l3:(i+3<s.length)=False:=by simp at hl ⊢;omega
  have wa:=a.toNat_lt;have hrep:KV s i=false:=by simp[KV,hr]
  simp only[QXn,List.getElem?_nil,QXi]at h0 h1 h2 h3;simp only[Xh,Utf8.decode,Utf8.runeError,hn,l1,l2,l3,QWL,g0,sz,h0,D7,tl,bt,QWd,seval,h1,h2,h3,hrep,decide_false,QXM,QYc,QXu,QWz,and_false]
  (repeat' split)<;>refine⟨?_,?_⟩<;>(try rw[QXa])<;>(try simp only[QWl,QXo,QXu])<;>first|omega|(intro _;rfl)|(intro _;omega)|(simp;done)|(simp;omega)
 | [a,b],hl=>
  have g0:=JE s i a h0;have g1:=JE s (i+1) b h1;have l1:(i+1<s.length)=True:=by simp at hl ⊢;omega
  have l2:(i+2<s.length)=False:=by simp at hl ⊢;omega
  have l3:(i+3<s.length)=False:=by simp at hl ⊢;omega
  have wa:=a.toNat_lt;have wb:=b.toNat_lt;have hrep:KV s i=false:=by simp[KV,hr]
  simp only[QXn,List.getElem?_nil,QXi]at h0 h1 h2 h3;simp only[Xh,Utf8.decode,Utf8.runeError,hn,l1,l2,l3,QWL,g0,g1,sz,h0,D7,tl,bt,QWd,seval,h1,h2,h3,hrep,decide_false,decide_true,QXM,QYc,QXT,QXu,QWz,and_false,QWE,QWl,QWm,ge_iff_le]
  (repeat' split)<;>refine⟨?_,?_⟩<;>(try rw[QXa])<;>(try simp only[QWl,QXo,QXu])<;>first|omega|(intro _;rfl)|(intro _;omega)|(simp;done)|(simp;omega)
 | [a,b,c],hl=>
  have g0:=JE s i a h0;have g1:=JE s (i+1) b h1;have g2:=JE s (i+2) c h2;have l1:(i+1<s.length)=True:=by simp at hl ⊢;omega
  have l2:(i+2<s.length)=True:=by simp at hl ⊢;omega
  have l3:(i+3<s.length)=False:=by simp at hl ⊢;omega
  have wa:=a.toNat_lt;have wb:=b.toNat_lt;have wc:=c.toNat_lt;have hrep:KV s i=(decide (a.toNat=239)&&(decide (b.toNat=191)&&decide (c.toNat=189))):=by
   rw[←Dw a 239 (by decide),←Dw b 191 (by decide),←Dw c 189 (by decide)];simp[KV,hr]
  simp only[QXn,List.getElem?_nil,QXi]at h0 h1 h2 h3;simp only[Xh,Utf8.decode,Utf8.valid,Utf8.runeError,hn,l1,l2,l3,QWL,g0,g1,g2,sz,h0,D7,tl,bt,QWd,seval,h1,h2,h3,hrep,decide_false,decide_true,QXM,QYc,QXT,QXu,QWz,and_false,QWE,QWk,QWl,QWm,ge_iff_le]
  (repeat' split)<;>refine⟨?_,?_⟩<;>(try rw[QXa])<;>(try simp only[QWE,QWl,QXe,QYb,QYf])<;>first|omega|(intro _;rfl)|(intro _;omega)|(simp;done)|(simp;omega)
 |a :: b :: c :: d :: t,hl=>exact QQc s i a b c d t hr

def QQd (s:List UInt8)(k:Nat)(st:St):Prop :=
 ∃f fr i,st=⟨f,[fr],[]⟩∧i≤s.length∧s.length-i≤k∧WP s s.length 0=WP s k i∧f 0=.str s∧f 6=.ptr 0 6 0∧fr 6=.iter (.str s) i

theorem QQe (s:List UInt8):Qi Tryz.prog 220 [.str s] (.int .i64 (WP s s.length 0)):=by
 refine Qjr.fn (by simp) ?_;simp only[Qa,seval];refine DS rfl rfl ?_;simp only[Qa,seval];refine Qc (QQd s) s.length ⟨_,_,0,rfl,QWo _,QWe _,rfl,(by rfl),(by rfl),(by rfl)⟩ ?_;rintro k st ⟨f,fr,i,rfl,hi,hk,hb,h0,h6,m6⟩;simp only[Qa,seval];refine DT (by exact h6) m6 (fun hlt=>?_) (fun hge=>?_)
 ·obtain⟨hd,hw⟩:=R5 s i hlt;obtain⟨k,rfl⟩:∃n,k=n+1:=⟨k-1,by omega⟩;have hbk:WP s (k+1) i=if sz s i=0 then(i:Int)else WP s k (i+sz s i):=by
   show(if i<s.length then _ else _)=_;rw[QWJ hlt]
  have hwr:=QQb s i hi (Xh s i).1;rw[hd]at hwr;generalize Xh s i=cw at hw hwr;obtain⟨c,w⟩:=cw;simp only[h0,Qa,seval];refine aC hwr ?_;by_cases hz:sz s i=0
  ·simp only[hz,decide_true,hb,hbk,Qa,seval]
  ·have hw:=hw hz;simp only at hw;have hle:=TF s i hlt hz;simp only[hz,decide_false,Qa,seval];exact⟨k,by omega,_,_,i+sz s i,rfl,hle,by omega,by rw[hb,hbk,QWu hz],(by exact h0),(by exact h6),by rw[←hw]<;>first|rfl|simp only[eE,seval]⟩
 ·have hbk:WP s k i = -1:=by
   cases k with
   |zero=>rfl
   |succ k=>
    show(if i<s.length then _ else _)=_;rw[QWu (by omega)]
  simp only[hb,hbk,Qa,seval]

theorem Qv2 (s:List UInt8):Qi Tryz.prog 172 [.str s] (.bool (Hj s)):=by
 refine QfZ.fn (by simp) ?_;simp only[Qa,seval];refine aC (QQe s) ?_;simp only[Qa,seval]
 try rfl

end Go.Proofs.YtdhlbgejhcejcaaGreatDoor.Va

namespace Go.Proofs.YtdhlbgejhcejcaaGreatDoor.Va
open Go Am Rc Bt

def Yx (k:Int)(b:Nat):Bool :=
 if k=1 then decide ((b:Int)≤1)else if k=2 then decide (IntKind.i64.wrap (b:Int)≥-2147483648)&&decide (IntKind.i64.wrap (b:Int)≤2147483647)
 else if k=4 then decide ((b:Int)<4294967296)else if k=9 then decide ((b:Int)<2147483648)else true

theorem QQf (k:Int)(b:Nat):Qi Tryz.prog 289 [.int .i64 k,.int .u64 (b:Nat)] (.bool (Yx k b)):=by
 have e1:decide ((b:Int)≤4294967295)=decide ((b:Int)<4294967296):=by rw[decide_eq_decide];omega
 have e2:decide ((b:Int)≤2147483647)=decide ((b:Int)<2147483648):=by rw[decide_eq_decide];omega
 refine Qmj.fn (by simp) ?_;simp only[Qa,seval];unfold Yx;by_cases h1:k=1
 ·subst h1;have b1:((1:Int)==1)=true:=rfl;simp only[b1,Qa,seval]
 ·have b1:(k==1)=false:=by simp[h1]
  by_cases h2:k=2
  ·subst h2;have b2:((2:Int)==2)=true:=rfl;simp only[b1,b2,h1,Qa,seval];cases hd:decide (IntKind.i64.wrap (b:Int)≥-2147483648)<;>simp only[QXT,QXM,Qa,seval]
  ·have b2:(k==2)=false:=by simp[h2]
   by_cases h9:k=9
   ·subst h9;have b9:((9:Int)==9)=true:=rfl;simp only[b1,b2,b9,h1,h2,e2,Qa,seval]
   ·have b9:(k==9)=false:=by simp[h9]
    by_cases h4:k=4
    ·subst h4;have b4:((4:Int)==4)=true:=rfl;simp only[b1,b2,b9,b4,h1,h2,e1,Qa,seval]
    ·have b4:(k==4)=false:=by simp[h4]
     simp only[b1,b2,b9,b4,h1,h2,h4,h9,Qa,seval]

end Go.Proofs.YtdhlbgejhcejcaaGreatDoor.Va

namespace Go.Proofs.YtdhlbgejhcejcaaGreatDoor.Ev
open Go Am Rc

def tab:F8:=fun k=>match k with
 |8=>some (r8,o8,100)
 |23=>some (r23,o23,34)
 |10=>some (r10,o10,40)
 |22=>some (r22,o22,8)
 |16=>some (r16,o16,16)
 |11=>some (JX,o11,16)
 |24=>some (r24,o24,20)
 |49=>some (r49,o49,10)
 |50=>some (r50,o50,14)
 |28=>some (r28,o28,15)
 |29=>some (r29,o29,19)
 |30=>some (r30,o30,32)
 |31=>some (r31,o31,57)
 |35=>some (r35,o35,30)
 |55=>some (r55,o55,19)
 |56=>some (r56,o56,8)
 |57=>some (r57,o57,24)
 |58=>some (r58,o58,77)
 |59=>some (r59,o59,23)
 |60=>some (r60,o60,86)
 |61=>some (r61,o61,54)
 |66=>some (r66,o66,12)
 |67=>some (r67,o67,14)
 |82=>some (r82,o82,21)
 |83=>some (r83,o83,11)
 |84=>some (r84,o84,23)
 |85=>some (r85,o85,12)
 |86=>some (r86,o86,11)
 |87=>some (r87,o87,12)
 |88=>some (r88,o88,41)
 |89=>some (r89,o89,74)
 |90=>some (r90,o90,69)
 |91=>some (r91,o91,9)
 |94=>some (r94,o94,40)
 |95=>some (SL,N4,8)
 |96=>some (r96,o96,40)
 |97=>some (r97,o97,67)
 |98=>some (r98,o98,27)
 |99=>some (r99,o99,9)
 |101=>some (Qck,Qcl,20)
 |102=>some (Qcu,Qcv,24)
 |103=>some (QcB,QcC,26)
 |104=>some (QcI,QcJ,19)
 |106=>some (QcN,QcO,13)
 |107=>some (QcX,QcY,20)
 |108=>some (Qc2,Qc3,14)
 |113=>some (Qc7,Qc8,8)
 |114=>some (Qdf,Qdg,20)
 |116=>some (Qdk,Qdl,21)
 |117=>some (Qdy,Qdz,47)
 |119=>some (QdD,QdE,15)
 |137=>some (QdI,QdJ,8)
 |138=>some (QdN,QdO,7)
 |139=>some (QdS,QdT,8)
 |141=>some (QdX,QdY,12)
 |142=>some (Qd2,Qd3,11)
 |143=>some (Qd7,Qd8,8)
 |144=>some (Qec,Qed,7)
 |145=>some (Qeh,Qei,10)
 |149=>some (Qes,Qet,24)
 |151=>some (QeD,QeE,24)
 |153=>some (QeI,QeJ,7)
 |154=>some (QeT,QeU,24)
 |155=>some (QeY,QeZ,10)
 |159=>some (Qe3,Qe4,13)
 |161=>some (Qff,Qfg,20)
 |162=>some (Qfk,Qfl,5)
 |166=>some (Qfp,Qfq,6)
 |167=>some (Qfu,Qfv,11)
 |169=>some (Qfz,QfA,13)
 |170=>some (QfN,QfO,47)
 |171=>some (QfS,QfT,35)
 |172=>some (QfX,QfY,6)
 |173=>some (Qf4,Qf5,22)
 |174=>some (Qge,Qgf,46)
 |178=>some (Qgj,Qgk,20)
 |179=>some (Qgo,Qgp,9)
 |180=>some (Qgt,Qgu,9)
 |181=>some (QgG,QgH,59)
 |182=>some (QgR,QgS,19)
 |184=>some (RE,Cb,8)
 |185=>some (Cc,Dp,8)
 |186=>some (QgV,QgW,9)
 |187=>some (QgZ,Qg0,10)
 |188=>some (Qg6,Qg7,17)
 |190=>some (Qha,Qhb,20)
 |191=>some (Qhq,Qhr,63)
 |192=>some (Qhu,Qhv,6)
 |193=>some (QhA,QhB,20)
 |196=>some (QhM,QhN,19)
 |197=>some (QhR,QhS,8)
 |198=>some (QhY,QhZ,18)
 |199=>some (Qia,Qib,27)
 |207=>some (Qif,Qig,9)
 |208=>some (Qik,Qil,9)
 |209=>some (Qiw,Qix,19)
 |210=>some (QiB,QiC,9)
 |211=>some (QiG,QiH,8)
 |212=>some (QiT,QiU,27)
 |213=>some (QiX,QiY,9)
 |214=>some (Qi9,Qja,36)
 |216=>some (Qje,Qjf,12)
 |220=>some (Qjp,Qjq,16)
 |221=>some (Qju,Qjv,9)
 |223=>some (QjG,QjH,19)
 |224=>some (QjN,QjO,31)
 |227=>some (Qj2,Qj3,63)
 |233=>some (Qka,Qkb,28)
 |234=>some (Qkm,Qkn,53)
 |239=>some (Qkx,Qky,19)
 |240=>some (QkJ,QkK,19)
 |241=>some (QkX,QkY,66)
 |242=>some (Qla,Qlb,27)
 |249=>some (Qln,Qlo,49)
 |252=>some (Qly,Qlz,53)
 |265=>some (QlC,QlD,9)
 |270=>some (QlQ,QlR,34)
 |271=>some (QlV,QlW,8)
 |275=>some (Ql2,Ql3,39)
 |287=>some (Cd,RK,143)
 |289=>some (Qmh,Qmi,28)
 |295=>some (Qmm,Qmn,8)
 |_=>none

theorem Qv4:Gk Tryz.prog tab:=by
 intro k c rs N h;unfold tab at h;split at h
 ·cases h;exact k8
 ·cases h;exact k23
 ·cases h;exact k10
 ·cases h;exact k22
 ·cases h;exact k16
 ·cases h;exact k11
 ·cases h;exact k24
 ·cases h;exact k49
 ·cases h;exact k50
 ·cases h;exact k28
 ·cases h;exact k29
 ·cases h;exact k30
 ·cases h;exact k31
 ·cases h;exact k35
 ·cases h;exact k55
 ·cases h;exact k56
 ·cases h;exact k57
 ·cases h;exact k58
 ·cases h;exact k59
 ·cases h;exact k60
 ·cases h;exact k61
 ·cases h;exact k66
 ·cases h;exact k67
 ·cases h;exact k82
 ·cases h;exact k83
 ·cases h;exact k84
 ·cases h;exact k85
 ·cases h;exact k86
 ·cases h;exact k87
 ·cases h;exact k88
 ·cases h;exact k89
 ·cases h;exact k90
 ·cases h;exact k91
 ·cases h;exact k94
 ·cases h;exact k95
 ·cases h;exact k96
 ·cases h;exact SM
 ·cases h;exact k98
 ·cases h;exact k99
 ·cases h;exact Qcm
 ·cases h;exact Qcw
 ·cases h;exact QcD
 ·cases h;exact QcK
 ·cases h;exact QcP
 ·cases h;exact QcZ
 ·cases h;exact Qc4
 ·cases h;exact Qc9
 ·cases h;exact Qdh
 ·cases h;exact Qdm
 ·cases h;exact QdA
 ·cases h;exact QdF
 ·cases h;exact QdK
 ·cases h;exact QdP
 ·cases h;exact QdU
 ·cases h;exact QdZ
 ·cases h;exact Qd4
 ·cases h;exact Qd9
 ·cases h;exact Qee
 ·cases h;exact Qej
 ·cases h;exact Qeu
 ·cases h;exact QeF
 ·cases h;exact QeK
 ·cases h;exact QeV
 ·cases h;exact Qe0
 ·cases h;exact Qe5
 ·cases h;exact Qfh
 ·cases h;exact Qfm
 ·cases h;exact Qfr
 ·cases h;exact Qfw
 ·cases h;exact QfB
 ·cases h;exact QfP
 ·cases h;exact QfU
 ·cases h;exact QfZ
 ·cases h;exact Qf6
 ·cases h;exact Qgg
 ·cases h;exact Qgl
 ·cases h;exact Qgq
 ·cases h;exact QLf
 ·cases h;exact QLg
 ·cases h;exact QLh
 ·cases h;exact QgT
 ·cases h;exact RF
 ·cases h;exact QLi
 ·cases h;exact Qg1
 ·cases h;exact RG
 ·cases h;exact Qhc
 ·cases h;exact QLj
 ·cases h;exact Qhw
 ·cases h;exact QhC
 ·cases h;exact RH
 ·cases h;exact QhT
 ·cases h;exact RI
 ·cases h;exact Qic
 ·cases h;exact Qih
 ·cases h;exact Qim
 ·cases h;exact Qiy
 ·cases h;exact QiD
 ·cases h;exact QiI
 ·cases h;exact RJ
 ·cases h;exact QiZ
 ·cases h;exact Qjb
 ·cases h;exact Qjg
 ·cases h;exact Qjr
 ·cases h;exact Qjw
 ·cases h;exact QjI
 ·cases h;exact QLk
 ·cases h;exact QLl
 ·cases h;exact Qkc
 ·cases h;exact QLm
 ·cases h;exact Qkz
 ·cases h;exact QkL
 ·cases h;exact QkZ
 ·cases h;exact Qlc
 ·cases h;exact QLn
 ·cases h;exact QLo
 ·cases h;exact QlE
 ·cases h;exact QlS
 ·cases h;exact QlX
 ·cases h;exact Ql4
 ·cases h;exact Ql6
 ·cases h;exact Qmj
 ·cases h;exact Qmo
 ·cases h

def nat:KW:=fun _ _ _=>none

theorem nat_ok:K4 Tryz.prog nat:=by
 intro k args m v m' h;cases h

end Go.Proofs.YtdhlbgejhcejcaaGreatDoor.Ev

namespace Go.Proofs.YtdhlbgejhcejcaaGreatDoor.Va
open Go Am Rc Bt

def vo (k:Int)(b:Nat)(t:List UInt8)(l p s r:List AV):AV:=.agg [.int .i64 k,.int .u64 (b:Nat),.str t,.list l,.list p,.list s,.list r]

section
variable (k:Int)(b:Nat)(t:List UInt8)(l p s r:List AV)

def WQ:Bool:=(l.length:Int)==0&&(p.length:Int)==0&&(s.length:Int)==0&&(r.length:Int)==0
def BI:Bool:=isk k&&WQ l p s r&&(b:Int)==0&&t==[]
def emp:Bool:=(k==11&&(l.length:Int)==0)||(k==12&&(p.length:Int)==0)||BI k b t l p s r

theorem y81:Qi Tryz.prog 81 [vo k b t l p s r] (.bool (WQ l p s r)):=by
 refine k81.fn (by simp) ?_;simp only[vo,WQ,eE,seval];cases h0:((l.length:Int)==0)<;>cases h1:((p.length:Int)==0)<;>cases h2:((s.length:Int)==0)<;>simp only[h1,h2,QXT,QXM,eE,seval]

theorem Qv6 (hl:l.length≤140737488351232)(hp:p.length≤140737488351232)(hs:s.length≤140737488351232)(hr:r.length≤140737488351232) :
  Qi Tryz.prog 233 [vo k b t l p s r] (.bool (WQ l p s r&&(if Zc k=true then(b:Int)==0 else t==[]))):=by
 refine Qkc.fn (by simp) ?_;have w:IntKind.i64.wrap (IntKind.i64.wrap (IntKind.i64.wrap ((l.length:Int)+(p.length:Int))+(s.length:Int))+(r.length:Int))=(l.length+p.length+s.length+r.length:Nat):=by
  simp only[QC];omega
 simp only[vo,w,eE,seval];by_cases h:l.length+p.length+s.length+r.length=0
 ·have d:decide (((l.length+p.length+s.length+r.length:Nat):Int) > 0)=false:=QX5 (by omega);have e:WQ l p s r=true:=by
   unfold WQ;simp only[QWE,QWm];omega
  simp only[d,e,QXT,eE,seval];refine aC (QvQ k) ?_;cases Zc k
  ·simp only[QWz,QL,eE,seval]
  ·simp only[eE,seval]
 ·have d:decide (((l.length+p.length+s.length+r.length:Nat):Int) > 0)=true:=QYa (by omega);have e:WQ l p s r=false:=by
   unfold WQ;rw[QX7];simp only[ne_eq,QWE,QWm];omega
  simp only[d,e,QXM,Qa,seval]

end

end Go.Proofs.YtdhlbgejhcejcaaGreatDoor.Va

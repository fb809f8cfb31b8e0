/- Parts of the proof, in order. -/
import Derived.WalkKit
import Derived.Lib.SmallJoins
import Derived.Deep.Slices
import Derived.DataShut
import Derived.Test.YtdhlbgejhcejcaaGreatDoorRows
import Derived.Test.YtdhlbgejhcejcaaGreatDoorProg
import Derived.Lib.IndexLaws
import Derived.Test.YtdhlbgejhcejcaaGreatDoorMTagencCanonical1

namespace Go.Proofs.YtdhlbgejhcejcaaGreatDoor.Rc
open Go Am
abbrev QBo:IL:=[je 2 2 0,je 3 3 1,jh 4]
abbrev QBp:IL:=[jb 9 0 2,jc 10 9,jb 11 0 3,jc 12 11,zt 13 10 12,ja 14 13,jo 15 1 2 14,js 16 15 14,jo 17 1 3 14,js 18 17 14,zv 19 16 18 14,jn 20 14 19,ja 21 20,jo 22 2 2 21,js 23 22 21,jo 24 2 3 21,js 25 24 21,⟨some 26,.val (.bin .str .neq (.t 23) (.t 25)),(some (21,false))⟩,jn 27 21 26,ja 28 27,jo 29 3 2 28,js 30 29 28,ye 31 1 30 28,jo 32 3 3 28,js 33 32 28,ye 34 1 33 28,zv 35 31 34 28,jn 36 28 35,ja 37 36,jo 38 4 2 37,js 39 38 37,ye 40 1 39 37,jo 41 4 3 37,js 42 41 37,ye 43 1 42 37,zv 44 40 43 37,jn 45 37 44,ja 46 45,jo 47 5 2 46,js 48 47 46,ye 49 1 48 46,jo 50 5 3 46,js 51 50 46,ye 52 1 51 46,zv 53 49 52 46,jn 54 46 53,ja 55 54,jo 56 6 2 55,js 57 56 55,ye 58 1 57 55,jo 59 6 3 55,js 60 59 55,ye 61 1 60 55,zv 62 58 61 55,jn 63 55 62]
abbrev QBq:IL:=[jh 4]
abbrev QBr:IL:=[jd 5 0]
abbrev QBs:IL:=[ja 64 5,jb 65 3 2,jc 66 65,ji 67 1 66,jp 68 64 67]
abbrev QBt:IL:=[jb 71 3 2,yb 72 0 2 71,ja 73 5,jl 74 7 72 73,yd 75 7 74,jb 76 3 3,yb 77 0 3 76,ja 78 5,jl 79 7 77 78,yd 80 7 79,jy 81 12 75 80,jz 82 81]
abbrev QBu:IL:=[jh 4]
abbrev QBv:IL:=[ja 69 5,jm 70 69 1,ja 5 70]
abbrev SZ:RC:=.seq (jQ QBs (jX 68 0)) (.seq (.block 1 (jD QBt (.cond (.t 82) (jQ QBu (.ret)) (.skip)))) (.reg QBv))
abbrev QBw:IL:=[jd 6 0]
abbrev QBx:IL:=[ja 83 6,jb 84 4 2,jc 85 84,ji 86 1 85,jp 87 83 86]
abbrev QmV:IL:=[jb 90 4 2,yb 91 0 2 90,ja 92 6,jl 93 14 91 92,jb 94 0 93,yd 95 7 94,jb 96 4 3,yb 97 0 3 96,ja 98 6,jl 99 14 97 98,jb 100 0 99,yd 101 7 100,jy 102 12 95 101,jz 103 102,ja 104 103,jo 105 4 2 104,zk 106 0 2 105 104,jv 107 6 104,zb 108 14 106 107 104,jo 109 7 108 104,MZ 110 7 109 104,jo 111 4 3 104,zk 112 0 3 111 104,jv 113 6 104,zb 114 14 112 113 104,jo 115 7 114 104,MZ 116 7 115 104,N5 117 12 110 116 104,za 118 117 104,jn 119 104 118]
abbrev QmW:IL:=[jh 4]
abbrev QmX:IL:=[ja 88 6,jm 89 88 1,ja 6 89]
abbrev S0:RC:=.seq (jQ QBx (jX 87 2)) (.seq (.block 3 (jD QmV (.cond (.t 119) (jQ QmW (.ret)) (.skip)))) (.reg QmX))
abbrev QmY:IL:=[jd 7 0]
abbrev QmZ:IL:=[ja 120 7,jb 121 5 2,jc 122 121,ji 123 1 122,jp 124 120 123]
abbrev Qm0:IL:=[jb 127 5 2,yb 128 0 2 127,ja 129 7,jl 130 8 128 129,jb 131 0 130,zp 132 131,jb 133 5 3,yb 134 0 3 133,ja 135 7,jl 136 8 134 135,jb 137 0 136,zp 138 137,zt 139 132 138,ja 140 139,jo 141 5 2 140,zk 142 0 2 141 140,jv 143 7 140,zb 144 8 142 143 140,jo 145 1 144 140,MZ 146 7 145 140,jo 147 5 3 140,zk 148 0 3 147 140,jv 149 7 140,zb 150 8 148 149 140,jo 151 1 150 140,MZ 152 7 151 140,N5 153 12 146 152 140,za 154 153 140,jn 155 140 154]
abbrev Qm1:IL:=[jh 4]
abbrev Qm2:IL:=[ja 125 7,jm 126 125 1,ja 7 126]
abbrev S1:RC:=.seq (jQ QmZ (jX 124 4)) (.seq (.block 5 (jD Qm0 (.cond (.t 155) (jQ Qm1 (.ret)) (.skip)))) (.reg Qm2))
abbrev Qm3:IL:=[jd 8 0]
abbrev Qm4:IL:=[ja 156 8,jb 157 6 2,jc 158 157,ji 159 1 158,jp 160 156 159]
abbrev Qm5:IL:=[jb 163 6 2,yb 164 0 2 163,ja 165 8,jl 166 4 164 165,yd 167 4 166,jb 168 6 3,yb 169 0 3 168,ja 170 8,jl 171 4 169 170,yd 172 4 171,⟨some 173,.val (.eqs true [.num,.num,.num,.str] (.t 167) (.t 172)),none⟩]
abbrev Qm6:IL:=[jh 4]
abbrev Qm7:IL:=[ja 161 8,jm 162 161 1,ja 8 162]
abbrev S2:RC:=.seq (jQ Qm4 (jX 160 6)) (.seq (.block 7 (jD Qm5 (.cond (.t 173) (jQ Qm6 (.ret)) (.skip)))) (.reg Qm7))
abbrev Qm8:IL:=[yj 4]
abbrev Kd:RC:=jQ QBo (.seq (jQ QBp (.cond (.t 63) (jQ QBq (.ret)) (.skip))) (.seq (jQ QBr (.block 0 (.loop SZ))) (.seq (jQ QBw (.block 2 (.loop S0))) (.seq (jQ QmY (.block 4 (.loop S1))) (.seq (jQ Qm3 (.block 6 (.loop S2))) (jQ Qm8 (.ret)))))))
abbrev o12:List RR:=[.tmp 4]
theorem Ff:CT 12 174 Kd o12:=ck Tryz.func12 Tryz.ntmps12 (by decide +kernel)
abbrev QBy:IL:=[je 1 1 0,jd 2 0]
abbrev QBz:IL:=[jf 4 2 1,jr 5 36 4,jz 6 5,ja 3 6]
abbrev QBA:IL:=[jd 2 3]
abbrev QBB:IL:=[jf 8 2 1,jr 9 37 8,jz 10 9,ja 7 10]
abbrev QBC:IL:=[jd 2 8]
abbrev QBD:IL:=[jf 12 2 1,jr 13 38 12,jz 14 13,ja 11 14]
abbrev QBE:IL:=[jd 2 11]
abbrev QBF:IL:=[jf 16 2 1,jr 17 39 16,jz 18 17,ja 15 18]
abbrev QBG:IL:=[jd 2 9]
abbrev QBH:IL:=[jf 20 2 1,jr 21 40 20,jz 22 21,ja 19 22]
abbrev Qm9:IL:=[jd 2 6]
abbrev Qna:IL:=[jf 24 2 1,jr 25 41 24,jz 26 25,ja 23 26]
abbrev Qnb:IL:=[jd 2 1]
abbrev Qnc:IL:=[jf 28 2 1,jr 29 42 28,jz 30 29,ja 27 30]
abbrev Qnd:IL:=[jd 2 19]
abbrev Qne:IL:=[jd 2 0]
abbrev r18:RC:=jQ QBy (.seq (.block 0 (jQ QBz (.cond (.t 3) (jQ QBA (.ret)) (jQ QBB (.cond (.t 7) (jQ QBC (.ret)) (jQ QBD (.cond (.t 11) (jQ QBE (.ret)) (jQ QBF (.cond (.t 15) (jQ QBG (.ret)) (jQ QBH (.cond (.t 19) (jQ Qm9 (.ret)) (jQ Qna (.cond (.t 23) (jQ Qnb (.ret)) (jQ Qnc (.cond (.t 27) (jQ Qnd (.ret)) (.skip)))))))))))))))) (jQ Qne (.ret)))
abbrev o18:List RR:=[.tmp 2]
theorem k18:CT 18 31 r18 o18:=ck Tryz.func18 Tryz.ntmps18 (by decide +kernel)
abbrev QBI:IL:=[je 4 4 0,je 6 6 2,jd 8 0]
abbrev QBJ:IL:=[jb 18 0 6,jc 19 18,yc 20 19 10,ja 21 20,yv 22 7 6 21,ze 23 43 22 21,jn 24 21 23]
abbrev QBK:IL:=[jd 8 12]
abbrev QBL:IL:=[ja 25 3,yp 26 25 16]
abbrev QBM:IL:=[jd 8 17]
abbrev QBN:IL:=[jb 27 0 4,jc 28 27,ja 29 1,jl 30 3 28 29,jf 31 3 30,⟨some 9,.allocN 9 [.str [],.nils,.int .i64 0],none⟩,jq 3 9 31]
abbrev QBO:IL:=[jd 10 0]
abbrev QBP:IL:=[ja 32 10,jb 33 5 6,jc 34 33,ji 35 1 34,jp 36 32 35]
abbrev QBQ:IL:=[jf 39 3 9,jb 40 5 6,jc 41 40,ja 42 10,yh 43 44 39 41 42,ja 11 43]
abbrev Qnf:IL:=[ja 44 11,yc 45 44 0]
abbrev Qng:IL:=[ja 46 11,ja 8 46]
abbrev Qnh:IL:=[jw 48 0 9 3 9,jb 49 5 6,yb 50 0 6 49,ja 51 10,jl 52 8 50 51,jb 53 0 52,zp 54 53,jy 55 45 48 54,ja 47 55,jx 56 47 0,jx 57 47 1,zd 12 12,yg 0 12 8 12 56,ja 13 57]
abbrev Qni:IL:=[jw 58 0 4 2 4,jw 59 0 12 8 12,jb 60 5 6,yb 61 0 6 60,ja 62 10,jl 63 8 61 62,jb 64 1 63,yd 65 7 64,ja 66 3,zl 67 46 58 59 65 66,ja 14 67]
abbrev Qnj:IL:=[ja 68 14,yc 69 68 0]
abbrev Qnk:IL:=[ja 70 14,ja 8 70]
abbrev QBR:IL:=[ja 37 10,jm 38 37 1,ja 10 38]
abbrev S3:RC:=.gho (.drop 12) (.seq (jQ QBP (jX 36 0)) (.seq (.block 1 (.seq (jQ QBQ (jQ Qnf (.cond (.t 45) (jQ Qng (.ret)) (.skip)))) (jD Qnh (jD Qni (jQ Qnj (.cond (.t 69) (jQ Qnk (.ret)) (.skip))))))) (.reg QBR)))
abbrev Qnl:IL:=[jd 15 0]
abbrev Qnm:IL:=[ja 71 15,jb 72 1 9,jc 73 72,ji 74 1 73,jp 75 71 74]
abbrev Qnn:IL:=[jb 78 1 9,yb 79 0 9 78,ja 80 15,jl 81 8 79 80,jb 82 3 81,zp 83 82,jt 84 83 1,ja 85 84,MM 86 0 6 7 6 85,jk 87 1 9 85,yz 88 0 9 87 85,jg 89 15 85,ya 90 8 88 89 85,jk 91 0 90 85,yo 92 91 85,D7 93 47 86 92 85,yy 94 93 85,jj 95 85 94]
abbrev Qno:IL:=[jd 8 14]
abbrev Qnp:IL:=[ja 76 15,jm 77 76 1,ja 15 77]
abbrev S4:RC:=.seq (jQ Qnm (jX 75 2)) (.seq (.block 3 (jD Qnn (.cond (.t 95) (jQ Qno (.ret)) (.skip)))) (.reg Qnp))
abbrev Qnq:IL:=[jd 16 0]
abbrev Qnr:IL:=[ja 96 16,jb 97 6 6,jc 98 97,ji 99 1 98,jp 100 96 99]
abbrev Qns:IL:=[jb 103 6 6,jc 104 103,ja 105 16,jl 106 4 104 105,jf 107 4 106,zu 17 17,jq 4 17 107]
abbrev Qnt:IL:=[jf 108 2 4,jf 109 3 9,jf 110 4 17,yh 111 48 108 109 110,jz 112 111]
abbrev Qnu:IL:=[jd 8 1]
abbrev Qnv:IL:=[jb 113 1 17,jc 114 113,jt 115 114 3,ja 116 115,jk 117 3 17 116,ju 118 117 116,ys 119 0 118 116,Bh 120 119 4096 116,jj 121 116 120,ja 122 121,jo 123 3 17 122,js 124 123 122,ye 125 0 124 122,yk 126 125 65536 122,jn 127 122 126]
abbrev Qnw:IL:=[jd 8 3]
abbrev Qnx:IL:=[ja 101 16,jm 102 101 1,ja 16 102]
abbrev S5:RC:=.gho (.drop 17) (.seq (jQ Qnr (jX 100 4)) (.seq (.block 5 (jQ Qns (.seq (jQ Qnt (.cond (.t 112) (jQ Qnu (.ret)) (.skip))) (jQ Qnv (.cond (.t 127) (jQ Qnw (.ret)) (.skip)))))) (.reg Qnx)))
abbrev Qny:IL:=[jd 8 0]
abbrev r20:RC:=jQ QBI (.seq (jQ QBJ (.cond (.t 24) (jQ QBK (.ret)) (.skip))) (.seq (jQ QBL (.cond (.t 26) (jQ QBM (.ret)) (.skip))) (jQ QBN (.seq (jQ QBO (.block 0 (.loop S3))) (.seq (jQ Qnl (.block 2 (.loop S4))) (.seq (jQ Qnq (.block 4 (.loop S5))) (jQ Qny (.ret))))))))
abbrev o20:List RR:=[.tmp 8]
theorem k20:CT 20 128 r20 o20:=ck Tryz.func20 Tryz.ntmps20 (by decide +kernel)
abbrev QBS:IL:=[je 1 1 0,jd 2 0]
abbrev QBT:IL:=[jb 7 6 1,jc 8 7,ji 9 1 8,⟨some 10,.val (.bin .num .add (.c (.int .i64 1)) (.t 9)),none⟩,ja 3 10]
abbrev QBU:IL:=[jd 4 0]
abbrev QBV:IL:=[ja 11 4,jb 12 3 1,jc 13 12,ji 14 1 13,jp 15 11 14]
abbrev QBW:IL:=[ja 18 3,jb 19 3 1,jc 20 19,ja 21 4,jl 22 7 20 21,jf 23 7 22,jr 24 21 23,yi 25 18 24,ja 3 25]
abbrev QBX:IL:=[ja 16 4,jm 17 16 1,ja 4 17]
abbrev QBY:RC:=.seq (jQ QBV (jX 15 0)) (.seq (.block 1 (.reg QBW)) (.reg QBX))
abbrev QBZ:IL:=[jd 5 0]
abbrev QB0:IL:=[ja 26 5,jb 27 4 1,jc 28 27,ji 29 1 28,jp 30 26 29]
abbrev QB1:IL:=[ja 33 3,jb 34 4 1,yb 35 0 1 34,ja 36 5,jl 37 14 35 36,jb 38 0 37,yd 39 7 38,jr 40 21 39,jb 41 4 1,yb 42 0 1 41,ja 43 5,jl 44 14 42 43,jb 45 7 44,yd 46 7 45,jr 47 21 46,yi 48 40 47,yi 49 33 48,ja 3 49]
abbrev QB2:IL:=[ja 31 5,jm 32 31 1,ja 5 32]
abbrev QB3:RC:=.seq (jQ QB0 (jX 30 2)) (.seq (.block 3 (.draw QB1)) (.reg QB2))
abbrev Qnz:IL:=[jd 6 0]
abbrev QnA:IL:=[ja 50 6,jb 51 5 1,jc 52 51,ji 53 1 52,jp 54 50 53]
abbrev QnB:IL:=[ja 57 3,jb 58 5 1,jc 59 58,ja 60 6,jl 61 8 59 60,jb 62 1 61,jf 63 7 62,jr 64 21 63,yi 65 57 64,ja 3 65]
abbrev QnC:IL:=[ja 55 6,jm 56 55 1,ja 6 56]
abbrev QB4:RC:=.seq (jQ QnA (jX 54 4)) (.seq (.block 5 (.reg QnB)) (.reg QnC))
abbrev QnD:IL:=[ja 66 3,ja 2 66]
abbrev r21:RC:=jQ QBS (jQ QBT (.seq (jQ QBU (.block 0 (.loop QBY))) (.seq (jQ QBZ (.block 2 (.loop QB3))) (.seq (jQ Qnz (.block 4 (.loop QB4))) (jQ QnD (.ret))))))
abbrev o21:List RR:=[.tmp 2]
theorem k21:CT 21 67 r21 o21:=ck Tryz.func21 Tryz.ntmps21 (by decide +kernel)
abbrev QB5:IL:=[yf 2]
abbrev QB6:IL:=[yf 3]
abbrev QB7:IL:=[jd 4 0]
abbrev QB8:IL:=[ja 7 4,ja 8 0,ji 9 1 8,jp 10 7 9]
abbrev QB9:IL:=[ja 13 3,ji 14 1 13,ja 5 14]
abbrev QCa:IL:=[ja 15 5,yp 16 15 0,ja 17 16,jg 18 3 17,jg 19 5 17,Fc 20 19 1 17,ya 21 4 18 20 17,jk 22 0 21 17,yo 23 22 17,jg 24 0 17,jg 25 4 17,ya 26 4 24 25 17,jk 27 0 26 17,yo 28 27 17,⟨some 29,.val (.bin .num .gtr (.t 23) (.t 28)),(some (17,true))⟩,jj 30 17 29]
abbrev QCb:IL:=[ja 31 5,zi 32 31 1,ja 5 32]
abbrev S6:RC:=.seq (jD QCa (jX 30 2)) (.block 3 (.reg QCb))
abbrev QCc:IL:=[ja 33 0,ja 34 4,jl 35 4 33 34,yd 36 4 35,⟨some 37,.bslv 37 4 1 [.int .i64 0,.int .i64 0,.int .u64 0,.str []] [(0,4,(.t 36))],none⟩,ja 38 3,ja 39 5,⟨some 40,.val (.slcp (some 4) (.t 38) (some (.t 39)) none none),none⟩,yr 41 4 40 53 37 40,ja 6 41]
abbrev QCd:IL:=[⟨some 42,.bsl0 42 4,none⟩,ja 43 3,ja 44 5,Fb 45 4 43 44,yr 46 4 40 53 42 45,ja 47 6,yr 48 4 40 53 46 47,ja 3 48]
abbrev QCe:IL:=[ja 11 4,jm 12 11 1,ja 4 12]
abbrev QCf:RC:=.seq (jQ QB8 (jX 10 0)) (.seq (.block 1 (jQ QB9 (.seq (.block 2 (.loop S6)) (jD QCc (.reg QCd))))) (.gho (.pub 3 42) (.reg QCe)))
abbrev QnE:IL:=[ja 49 3,ja 2 49]
abbrev r25:RC:=jQ QB5 (jQ QB6 (.gho (.lst 3) (.seq (jQ QB7 (.block 0 (.loop QCf))) (jQ QnE (.ret)))))
abbrev o25:List RR:=[.tmp 2]
theorem k25:CT 25 50 r25 o25:=ck Tryz.func25 Tryz.ntmps25 (by decide +kernel)
abbrev QCg:IL:=[je 3 3 0,je 4 4 1,je 5 5 2,yn 6 6]
abbrev QCh:IL:=[jb 12 3 4,jc 13 12]
abbrev QCi:IL:=[jt 15 13 4,ja 14 15]
abbrev QCj:IL:=[⟨some 16,.val (.build [.int .i64 0,.int .u64 0,.str [],.nils,.nils,.nils,.nils] [(0,1,(.c (.int .i64 11)))]),none⟩,yn 7 7,jq 7 7 16]
abbrev QCk:IL:=[jd 8 0]
abbrev QCl:IL:=[ja 17 8,jb 18 3 5,jc 19 18,ji 20 1 19,jp 21 17 20]
abbrev QCm:IL:=[jb 24 3 7,yb 25 0 7 24,jw 26 0 3 2 3,jw 27 0 4 8 4,jb 28 3 5,yb 29 0 5 28,ja 30 8,jl 31 7 29 30,yd 32 7 31,yh 33 51 26 27 32,⟨some 34,.bsl 7 1 [.int .i64 0,.int .u64 0,.str [],.nils,.nils,.nils,.nils] [(0,7,(.t 33))],none⟩,yr 35 7 128 32 25 34,jb 36 3 7,yg 0 7 1 36 35]
abbrev QCn:IL:=[ja 22 8,jm 23 22 1,ja 8 23]
abbrev QCo:RC:=.seq (jQ QCl (jX 21 1)) (.seq (.block 2 (.draw QCm)) (.reg QCn))
abbrev QCp:IL:=[jf 37 7 7,jq 7 6 37]
abbrev QCq:IL:=[jt 39 13 5,ja 38 39]
abbrev QnF:IL:=[⟨some 40,.val (.build [.int .i64 0,.int .u64 0,.str [],.nils,.nils,.nils,.nils] [(0,1,(.c (.int .i64 12)))]),none⟩,yn 9 9,jq 7 9 40]
abbrev QnG:IL:=[jb 41 4 5,jc 42 41,jr 43 52 42,ja 10 43]
abbrev QnH:IL:=[jd 11 0]
abbrev QnI:IL:=[ja 44 11,ja 45 10,ji 46 1 45,jp 47 44 46]
abbrev QnJ:IL:=[jb 50 4 9,yb 51 0 9 50,ja 52 10,ja 53 11,jl 54 14 52 53,jb 55 0 54,yd 56 7 55,jr 57 53 56,jw 58 0 3 2 3,jw 59 0 4 8 4,ja 60 10,ja 61 11,jl 62 14 60 61,jb 63 7 62,yd 64 7 63,yh 65 51 58 59 64,⟨some 66,.val (.build [.int .i64 0,.int .u64 0,.str [],.nils,.nils,.nils,.nils,.int .i64 0,.int .u64 0,.str [],.nils,.nils,.nils,.nils] [(0,7,(.t 57)),(7,7,(.t 65))]),none⟩,⟨some 67,.bsl 14 1 [.int .i64 0,.int .u64 0,.str [],.nils,.nils,.nils,.nils,.int .i64 0,.int .u64 0,.str [],.nils,.nils,.nils,.nils] [(0,14,(.t 66))],none⟩,yr 68 14 256 77 51 67,jb 69 4 9,yg 0 9 1 69 68]
abbrev QnK:IL:=[ja 48 11,jm 49 48 1,ja 11 49]
abbrev QCr:RC:=.seq (jQ QnI (jX 47 3)) (.seq (.block 4 (.draw QnJ)) (.reg QnK))
abbrev QnL:IL:=[jf 70 7 9,jq 7 6 70]
abbrev QnM:IL:=[jf 71 2 3,jf 72 8 4,jf 73 7 5,yh 74 51 71 72 73,jq 7 6 74]
abbrev r26:RC:=jQ QCg (.seq (jQ QCh (.block 0 (jQ QCi (.cond (.t 14) (jQ QCj (.gho (.vecc 7 3 1100 7) (.seq (jQ QCk (.block 1 (.loop QCo))) (jQ QCp (.ret))))) (jQ QCq (.cond (.t 38) (jQ QnF (.gho (.vecc 9 4 1101 14) (jQ QnG (.seq (jQ QnH (.block 3 (.loop QCr))) (jQ QnL (.ret)))))) (.skip))))))) (jQ QnM (.ret)))
abbrev o26:List RR:=[.cell 6 (some 7)]
theorem k26:CT 26 75 r26 o26:=ck Tryz.func26 Tryz.ntmps26 (by decide +kernel)
abbrev QCs:IL:=[je 1 1 0,jh 2]
abbrev QCt:IL:=[jb 3 0 1,jc 4 3]
abbrev QCu:IL:=[jt 6 4 11,ja 5 6]
abbrev QCv:IL:=[jb 7 3 1,jc 8 7,ji 9 1 8,jt 10 9 0,ja 2 10]
abbrev QCw:IL:=[jt 12 4 12,ja 11 12]
abbrev QCx:IL:=[jb 13 4 1,jc 14 13,ji 15 1 14,jt 16 15 0,ja 2 16]
abbrev QCy:IL:=[jf 17 7 1,jr 18 54 17,ja 2 18]
abbrev r27:RC:=jQ QCs (.seq (jQ QCt (.block 0 (jQ QCu (.cond (.t 5) (jQ QCv (.ret)) (jQ QCw (.cond (.t 11) (jQ QCx (.ret)) (.skip))))))) (jQ QCy (.ret)))
abbrev o27:List RR:=[.tmp 2]
theorem k27:CT 27 19 r27 o27:=ck Tryz.func27 Tryz.ntmps27 (by decide +kernel)
abbrev QCz:IL:=[je 1 1 0,jh 2]
abbrev QCA:IL:=[jb 7 0 1,jc 8 7,ji 9 1 8,⟨some 10,.val (.bin .num .leq (.t 9) (.c (.int .i64 64))),none⟩,ja 11 10,jk 12 1 1 11,ju 13 12 11,ys 14 1 13 11,zf 15 14 64 11,jj 16 11 15,ja 3 16]
abbrev QCB:IL:=[jd 4 0]
abbrev QCC:IL:=[ja 17 4,jb 18 0 1,jc 19 18,ji 20 1 19,jp 21 17 20]
abbrev QCD:IL:=[ja 24 3,ja 25 24,jk 26 0 1 25,ju 27 26 25,jg 28 4 25,ya 29 3 27 28 25,jk 30 1 29 25,ju 31 30 25,ys 32 1 31 25,zf 33 32 64 25,jj 34 25 33,ja 3 34]
abbrev QCE:IL:=[ja 22 4,jm 23 22 1,ja 4 23]
abbrev S7:RC:=.seq (jQ QCC (jX 21 0)) (.seq (.block 1 (.reg QCD)) (.reg QCE))
abbrev QCF:IL:=[jd 5 0]
abbrev QCG:IL:=[ja 35 5,jb 36 1 1,jc 37 36,ji 38 1 37,jp 39 35 38]
abbrev QCH:IL:=[jb 42 1 1,jc 43 42,ja 44 5,jl 45 5 43 44,jb 46 2 45,jc 47 46,ji 48 1 47,ja 6 48]
abbrev QnO:IL:=[ja 49 3,ja 50 49,jg 51 6 50,GF 52 51 1 50,jj 53 50 52,ja 54 53,jg 55 6 54,zf 56 55 64 54,jj 57 54 56,ja 58 57,jk 59 1 1 58,ju 60 59 58,jg 61 5 58,ya 62 5 60 61 58,jk 63 3 62 58,ju 64 63 58,ys 65 1 64 58,zf 66 65 16 58,jj 67 58 66,ja 3 67]
abbrev QCI:IL:=[ja 40 5,jm 41 40 1,ja 5 41]
abbrev S8:RC:=.seq (jQ QCG (jX 39 2)) (.seq (.block 3 (jQ QCH (.reg QnO))) (.reg QCI))
abbrev QnP:IL:=[ja 68 3,ja 2 68]
abbrev r36:RC:=jQ QCz (jQ QCA (.seq (jQ QCB (.block 0 (.loop S7))) (.seq (jQ QCF (.block 2 (.loop S8))) (jQ QnP (.ret)))))
abbrev o36:List RR:=[.tmp 2]
theorem k36:CT 36 69 r36 o36:=ck Tryz.func36 Tryz.ntmps36 (by decide +kernel)
abbrev QCJ:IL:=[je 1 1 0,jh 2]
abbrev QCK:IL:=[yj 3]
abbrev QCL:IL:=[jd 4 0]
abbrev QCM:IL:=[ja 8 4,jb 9 0 1,jc 10 9,ji 11 1 10,jp 12 8 11]
abbrev QCN:IL:=[ja 15 3,ja 16 15,jk 17 0 1 16,ju 18 17 16,jg 19 4 16,ya 20 3 18 19 16,jk 21 0 20 16,ju 22 21 16,zh 23 68 22 16,jj 24 16 23,ja 3 24]
abbrev QCO:IL:=[jd 5 0]
abbrev QCP:IL:=[ja 25 5,jb 26 0 1,jc 27 26,ja 28 4,jl 29 3 27 28,jb 30 1 29,jc 31 30,ji 32 1 31,jp 33 25 32]
abbrev QCQ:IL:=[ja 36 3,ja 37 36,jk 38 0 1 37,ju 39 38 37,jg 40 4 37,ya 41 3 39 40 37,jk 42 1 41 37,ju 43 42 37,jg 44 5 37,ya 45 8 43 44 37,jk 46 1 45 37,ju 47 46 37,zh 48 69 47 37,jj 49 37 48,ja 3 49]
abbrev QCR:IL:=[ja 34 5,jm 35 34 1,ja 5 35]
abbrev S9:RC:=.seq (jQ QCP (jX 33 2)) (.seq (.block 3 (.reg QCQ)) (.reg QCR))
abbrev QCS:IL:=[ja 13 4,jm 14 13 1,ja 4 14]
abbrev Ta:RC:=.seq (jQ QCM (jX 12 0)) (.seq (.block 1 (jQ QCN (jQ QCO (.block 2 (.loop S9))))) (.reg QCS))
abbrev QnQ:IL:=[jd 6 0]
abbrev QnR:IL:=[ja 50 6,jb 51 1 1,jc 52 51,ji 53 1 52,jp 54 50 53]
abbrev QnS:IL:=[ja 57 3,ja 58 57,jk 59 1 1 58,ju 60 59 58,jg 61 6 58,ya 62 5 60 61 58,jk 63 0 62 58,ju 64 63 58,zh 65 68 64 58,jj 66 58 65,ja 3 66]
abbrev QnT:IL:=[jd 7 0]
abbrev QnU:IL:=[ja 67 7,jb 68 1 1,jc 69 68,ja 70 6,jl 71 5 69 70,jb 72 2 71,jc 73 72,ji 74 1 73,jp 75 67 74]
abbrev QnV:IL:=[ja 78 3,ja 79 78,jk 80 1 1 79,ju 81 80 79,jg 82 6 79,ya 83 5 81 82 79,jk 84 2 83 79,ju 85 84 79,jg 86 7 79,ya 87 3 85 86 79,jk 88 0 87 79,ju 89 88 79,zh 90 69 89 79,jj 91 79 90,ja 3 91]
abbrev QnW:IL:=[ja 76 7,jm 77 76 1,ja 7 77]
abbrev Tb:RC:=.seq (jQ QnU (jX 75 6)) (.seq (.block 7 (.reg QnV)) (.reg QnW))
abbrev QnX:IL:=[ja 55 6,jm 56 55 1,ja 6 56]
abbrev Tc:RC:=.seq (jQ QnR (jX 54 4)) (.seq (.block 5 (jQ QnS (jQ QnT (.block 6 (.loop Tb))))) (.reg QnX))
abbrev QnY:IL:=[ja 92 3,ja 2 92]
abbrev r37:RC:=jQ QCJ (jQ QCK (.seq (jQ QCL (.block 0 (.loop Ta))) (.seq (jQ QnQ (.block 4 (.loop Tc))) (jQ QnY (.ret)))))
abbrev o37:List RR:=[.tmp 2]
theorem k37:CT 37 93 r37 o37:=ck Tryz.func37 Tryz.ntmps37 (by decide +kernel)
abbrev QCT:IL:=[je 1 1 0,jh 2]
abbrev QCU:IL:=[yj 3]
abbrev QCV:IL:=[jd 4 0]
abbrev QCW:IL:=[ja 8 4,jb 9 0 1,jc 10 9,ji 11 1 10,jp 12 8 11]
abbrev QCX:IL:=[ja 15 3,ja 16 15,jg 17 4 16,yl 18 17 0 16,jg 19 18 16,jo 20 0 1 19,zk 21 0 1 20 19,jv 22 4 19,⟨some 23,.val (.bin .num .sub (.t 22) (.c (.int .i64 1))),(some (19,false))⟩,zb 24 3 21 23 19,jo 25 0 24 19,Vc 26 25 19,jo 27 0 1 19,zk 28 0 1 27 19,jv 29 4 19,zb 30 3 28 29 19,jo 31 0 30 19,Vc 32 31 19,⟨some 33,.val (.bin .str .lss (.t 26) (.t 32)),(some (19,false))⟩,zg 34 19 33 16,jj 35 16 34,ja 3 35]
abbrev QCY:IL:=[jd 5 1]
abbrev QCZ:IL:=[ja 36 5,jb 37 0 1,jc 38 37,ja 39 4,jl 40 3 38 39,jb 41 1 40,jc 42 41,ji 43 1 42,jp 44 36 43]
abbrev QC0:IL:=[ja 47 3,ja 48 47,jk 49 0 1 48,yz 50 0 1 49 48,jg 51 4 48,ya 52 3 50 51 48,jk 53 1 52 48,yo 54 53 48,jg 55 5 48,Fc 56 55 1 48,ya 57 8 54 56 48,jk 58 0 57 48,yo 59 58 48,jk 60 0 1 48,yz 61 0 1 60 48,jg 62 4 48,ya 63 3 61 62 48,jk 64 1 63 48,yo 65 64 48,jg 66 5 48,ya 67 8 65 66 48,jk 68 0 67 48,yo 69 68 48,D8 70 59 69 48,jj 71 48 70,ja 3 71]
abbrev QC1:IL:=[ja 45 5,jm 46 45 1,ja 5 46]
abbrev Td:RC:=.seq (jQ QCZ (jX 44 2)) (.seq (.block 3 (.draw QC0)) (.reg QC1))
abbrev QC2:IL:=[ja 13 4,jm 14 13 1,ja 4 14]
abbrev Te:RC:=.seq (jQ QCW (jX 12 0)) (.seq (.block 1 (jD QCX (jQ QCY (.block 2 (.loop Td))))) (.reg QC2))
abbrev Qn0:IL:=[jd 6 0]
abbrev Qn1:IL:=[ja 72 6,jb 73 1 1,jc 74 73,ji 75 1 74,jp 76 72 75]
abbrev Qn2:IL:=[ja 79 3,ja 80 79,jg 81 6 80,yl 82 81 0 80,jg 83 82 80,jo 84 1 1 83,zk 85 0 1 84 83,jv 86 6 83,⟨some 87,.val (.bin .num .sub (.t 86) (.c (.int .i64 1))),(some (83,false))⟩,zb 88 5 85 87 83,jo 89 0 88 83,Vc 90 89 83,jo 91 1 1 83,zk 92 0 1 91 83,jv 93 6 83,zb 94 5 92 93 83,jo 95 0 94 83,Vc 96 95 83,⟨some 97,.val (.bin .str .lss (.t 90) (.t 96)),(some (83,false))⟩,zg 98 83 97 80,jj 99 80 98,ja 3 99]
abbrev Qn3:IL:=[jd 7 1]
abbrev Qn4:IL:=[ja 100 7,jb 101 1 1,jc 102 101,ja 103 6,jl 104 5 102 103,jb 105 2 104,jc 106 105,ji 107 1 106,jp 108 100 107]
abbrev Qn5:IL:=[ja 111 3,ja 112 111,jk 113 1 1 112,yz 114 0 1 113 112,jg 115 6 112,ya 116 5 114 115 112,jk 117 2 116 112,yo 118 117 112,jg 119 7 112,Fc 120 119 1 112,ya 121 3 118 120 112,jk 122 1 121 112,yo 123 122 112,jk 124 1 1 112,yz 125 0 1 124 112,jg 126 6 112,ya 127 5 125 126 112,jk 128 2 127 112,yo 129 128 112,jg 130 7 112,ya 131 3 129 130 112,jk 132 1 131 112,yo 133 132 112,D8 134 123 133 112,jj 135 112 134,ja 3 135]
abbrev Qn6:IL:=[ja 109 7,jm 110 109 1,ja 7 110]
abbrev Tf:RC:=.seq (jQ Qn4 (jX 108 6)) (.seq (.block 7 (.draw Qn5)) (.reg Qn6))
abbrev Qn7:IL:=[ja 77 6,jm 78 77 1,ja 6 78]
abbrev Th:RC:=.seq (jQ Qn1 (jX 76 4)) (.seq (.block 5 (jD Qn2 (jQ Qn3 (.block 6 (.loop Tf))))) (.reg Qn7))
abbrev Qn8:IL:=[ja 136 3,ja 2 136]
abbrev r38:RC:=jQ QCT (jQ QCU (.seq (jQ QCV (.block 0 (.loop Te))) (.seq (jQ Qn0 (.block 4 (.loop Th))) (jQ Qn8 (.ret)))))
abbrev o38:List RR:=[.tmp 2]
theorem k38:CT 38 137 r38 o38:=ck Tryz.func38 Tryz.ntmps38 (by decide +kernel)
abbrev QC3:IL:=[je 1 1 0,jh 2]
abbrev QC4:IL:=[yj 3]
abbrev QC5:IL:=[jd 4 0]
abbrev QC6:IL:=[ja 13 4,jb 14 0 1,jc 15 14,ji 16 1 15,jp 17 13 16]
abbrev QC7:IL:=[jd 5 0]
abbrev QC8:IL:=[ja 20 5,jb 21 1 1,jc 22 21,ji 23 1 22,jp 24 20 23]
abbrev QC9:IL:=[ja 27 3,ja 28 27,jk 29 0 1 28,yz 30 0 1 29 28,jg 31 4 28,ya 32 3 30 31 28,jk 33 0 32 28,yo 34 33 28,jk 35 1 1 28,yz 36 0 1 35 28,jg 37 5 28,ya 38 5 36 37 28,jk 39 0 38 28,yo 40 39 28,⟨some 41,.val (.bin .str .neq (.t 34) (.t 40)),(some (28,true))⟩,jj 42 28 41,ja 3 42]
abbrev QDa:IL:=[ja 25 5,jm 26 25 1,ja 5 26]
abbrev Ti:RC:=.seq (jQ QC8 (jX 24 2)) (.seq (.block 3 (.draw QC9)) (.reg QDa))
abbrev QDb:IL:=[jb 43 0 1,jc 44 43,ja 45 4,jl 46 3 44 45,jb 47 1 46,jc 48 47,ja 6 48]
abbrev Qn9:IL:=[jd 7 0]
abbrev Qoa:IL:=[ja 49 7,ja 50 6,ji 51 1 50,jp 52 49 51]
abbrev Qob:IL:=[jd 8 0]
abbrev Qoc:IL:=[ja 55 8,ja 56 7,jp 57 55 56]
abbrev Qod:IL:=[ja 60 3,ja 61 60,jg 62 6 61,jg 63 8 61,ya 64 8 62 63 61,jk 65 1 64 61,yo 66 65 61,jg 67 6 61,jg 68 7 61,ya 69 8 67 68 61,jk 70 1 69 61,yo 71 70 61,⟨some 72,.val (.bin .str .neq (.t 66) (.t 71)),(some (61,true))⟩,jj 73 61 72,ja 3 73]
abbrev Qoe:IL:=[ja 58 8,jm 59 58 1,ja 8 59]
abbrev Tj:RC:=.seq (jQ Qoc (jX 57 6)) (.seq (.block 7 (.draw Qod)) (.reg Qoe))
abbrev Qof:IL:=[ja 53 7,jm 54 53 1,ja 7 54]
abbrev Tk:RC:=.seq (jQ Qoa (jX 52 4)) (.seq (.block 5 (jQ Qob (.block 6 (.loop Tj)))) (.reg Qof))
abbrev QDc:IL:=[ja 18 4,jm 19 18 1,ja 4 19]
abbrev Tl:RC:=.seq (jQ QC6 (jX 17 0)) (.seq (.block 1 (.seq (jQ QC7 (.block 2 (.loop Ti))) (jQ QDb (jQ Qn9 (.block 4 (.loop Tk)))))) (.reg QDc))
abbrev Qog:IL:=[jd 9 0]
abbrev Qoh:IL:=[ja 74 9,jb 75 1 1,jc 76 75,ji 77 1 76,jp 78 74 77]
abbrev Qoi:IL:=[jb 81 1 1,jc 82 81,ja 83 9,jl 84 5 82 83,jb 85 2 84,jc 86 85,ja 10 86]
abbrev Qoj:IL:=[jd 11 0]
abbrev Qok:IL:=[ja 87 11,ja 88 10,ji 89 1 88,jp 90 87 89]
abbrev Qol:IL:=[jd 12 0]
abbrev Qom:IL:=[ja 93 12,ja 94 11,jp 95 93 94]
abbrev Qon:IL:=[ja 98 3,ja 99 98,jg 100 10 99,jg 101 12 99,ya 102 3 100 101 99,jk 103 0 102 99,yo 104 103 99,jg 105 10 99,jg 106 11 99,ya 107 3 105 106 99,jk 108 0 107 99,yo 109 108 99,⟨some 110,.val (.bin .str .neq (.t 104) (.t 109)),(some (99,true))⟩,jj 111 99 110,ja 3 111]
abbrev Qoo:IL:=[ja 96 12,jm 97 96 1,ja 12 97]
abbrev Tm:RC:=.seq (jQ Qom (jX 95 12)) (.seq (.block 13 (.draw Qon)) (.reg Qoo))
abbrev Qop:IL:=[ja 91 11,jm 92 91 1,ja 11 92]
abbrev Tn:RC:=.seq (jQ Qok (jX 90 10)) (.seq (.block 11 (jQ Qol (.block 12 (.loop Tm)))) (.reg Qop))
abbrev Qoq:IL:=[ja 79 9,jm 80 79 1,ja 9 80]
abbrev To:RC:=.seq (jQ Qoh (jX 78 8)) (.seq (.block 9 (jQ Qoi (jQ Qoj (.block 10 (.loop Tn))))) (.reg Qoq))
abbrev Qor:IL:=[ja 112 3,ja 2 112]
abbrev r39:RC:=jQ QC3 (jQ QC4 (.seq (jQ QC5 (.block 0 (.loop Tl))) (.seq (jQ Qog (.block 8 (.loop To))) (jQ Qor (.ret)))))
abbrev o39:List RR:=[.tmp 2]
theorem k39:CT 39 113 r39 o39:=ck Tryz.func39 Tryz.ntmps39 (by decide +kernel)
abbrev QDd:IL:=[je 1 1 0,jh 2]
abbrev QDe:IL:=[yj 3]
abbrev QDf:IL:=[jd 4 0]
abbrev QDg:IL:=[ja 13 4,jb 14 0 1,jc 15 14,ji 16 1 15,jp 17 13 16]
abbrev QDh:IL:=[jd 5 0]
abbrev QDi:IL:=[ja 20 5,jb 21 0 1,jc 22 21,ja 23 4,jl 24 3 22 23,jb 25 1 24,jc 26 25,ji 27 1 26,jp 28 20 27]
abbrev QDj:IL:=[jb 31 0 1,jc 32 31,ja 33 4,jl 34 3 32 33,jb 35 1 34,jc 36 35,ja 37 5,jl 38 8 36 37,jb 39 0 38,jc 40 39,ja 6 40]
abbrev QDk:IL:=[ja 41 3,ja 42 41,jg 43 6 42,GF 44 43 1 42,jj 45 42 44,ja 46 45,jg 47 6 46,zf 48 47 65535 46,jj 49 46 48,ja 3 49]
abbrev QDl:IL:=[ja 29 5,jm 30 29 1,ja 5 30]
abbrev Tp:RC:=.seq (jQ QDi (jX 28 2)) (.seq (.block 3 (jQ QDj (.reg QDk))) (.reg QDl))
abbrev QDm:IL:=[ja 18 4,jm 19 18 1,ja 4 19]
abbrev Tq:RC:=.seq (jQ QDg (jX 17 0)) (.seq (.block 1 (jQ QDh (.block 2 (.loop Tp)))) (.reg QDm))
abbrev Qos:IL:=[jd 7 0]
abbrev Qot:IL:=[ja 50 7,jb 51 1 1,jc 52 51,ji 53 1 52,jp 54 50 53]
abbrev Qou:IL:=[jb 57 1 1,jc 58 57,ja 59 7,jl 60 5 58 59,jf 61 5 60,⟨some 8,.allocN 8 [.str [],.bool false,.nils,.nils,.nils],none⟩,jq 5 8 61]
abbrev Qov:IL:=[jd 9 0]
abbrev Qow:IL:=[ja 62 9,jb 63 2 8,jc 64 63,ji 65 1 64,jp 66 62 65]
abbrev Qox:IL:=[jb 69 2 8,jc 70 69,ja 71 9,jl 72 3 70 71,jb 73 1 72,jc 74 73,ja 10 74]
abbrev Qoy:IL:=[ja 75 3,ja 76 75,jg 77 10 76,zf 78 77 2147483647 76,jj 79 76 78,ja 80 79,jg 81 9 80,Bh 82 81 0 80,jg 83 82 80,jv 84 10 83,yt 85 84 0 83,zg 86 83 85 80,jj 87 80 86,ja 88 87,jk 89 3 8 88,ju 90 89 88,jg 91 10 88,D7 92 70 90 91 88,yy 93 92 88,jj 94 88 93,ja 3 94]
abbrev Qoz:IL:=[ja 67 9,jm 68 67 1,ja 9 68]
abbrev Tr:RC:=.seq (jQ Qow (jX 66 6)) (.seq (.block 7 (jQ Qox (.reg Qoy))) (.reg Qoz))
abbrev QoA:IL:=[jd 11 0]
abbrev QoB:IL:=[ja 95 11,jb 96 3 8,jc 97 96,ji 98 1 97,jp 99 95 98]
abbrev QoC:IL:=[jb 102 3 8,jc 103 102,ja 104 11,jl 105 2 103 104,jf 106 2 105,⟨some 12,.allocN 12 [.int .i64 0,.int .i64 0],none⟩,jq 2 12 106]
abbrev QoD:IL:=[ja 107 3,ja 108 107,jk 109 0 12 108,yz 110 0 12 109 108,GF 111 110 0 108,jj 112 108 111,ja 113 112,jk 114 1 12 113,yz 115 0 12 114 113,zf 116 115 2147483647 113,jj 117 113 116,ja 118 117,jk 119 0 12 118,yz 120 0 12 119 118,jk 121 1 12 118,yz 122 0 12 121 118,MO 123 120 122 118,jj 124 118 123,ja 125 124,jg 126 11 125,yl 127 126 0 125,jg 128 127 125,jo 129 0 12 128,zk 130 0 12 129 128,jo 131 3 8 128,zk 132 0 8 131 128,jv 133 11 128,⟨some 134,.val (.bin .num .sub (.t 133) (.c (.int .i64 1))),(some (128,false))⟩,zb 135 2 132 134 128,jo 136 1 135 128,Vc 137 136 128,⟨some 138,.val (.bin .num .gtr (.t 130) (.t 137)),(some (128,false))⟩,zg 139 128 138 125,jj 140 125 139,ja 3 140]
abbrev QoE:IL:=[ja 100 11,jm 101 100 1,ja 11 101]
abbrev Ts:RC:=.gho (.drop 12) (.seq (jQ QoB (jX 99 8)) (.seq (.block 9 (jQ QoC (.draw QoD))) (.reg QoE)))
abbrev QoF:IL:=[ja 55 7,jm 56 55 1,ja 7 56]
abbrev Tt:RC:=.gho (.drop 12) (.gho (.drop 8) (.seq (jQ Qot (jX 54 4)) (.seq (.block 5 (jQ Qou (.seq (jQ Qov (.block 6 (.loop Tr))) (jQ QoA (.block 8 (.loop Ts)))))) (.reg QoF))))
abbrev QoG:IL:=[ja 141 3,ja 2 141]
abbrev r40:RC:=jQ QDd (jQ QDe (.seq (jQ QDf (.block 0 (.loop Tq))) (.seq (jQ Qos (.block 4 (.loop Tt))) (jQ QoG (.ret)))))
abbrev o40:List RR:=[.tmp 2]
theorem k40:CT 40 142 r40 o40:=ck Tryz.func40 Tryz.ntmps40 (by decide +kernel)
abbrev QDn:IL:=[je 1 1 0,jh 2]
abbrev QDo:IL:=[yj 3]
abbrev QDp:IL:=[jd 4 0]
abbrev QDq:IL:=[ja 9 4,jb 10 1 1,jc 11 10,ji 12 1 11,jp 13 9 12]
abbrev QDr:IL:=[ja 16 3,ja 17 16,jk 18 1 1 17,ju 19 18 17,jg 20 4 17,ya 21 5 19 20 17,jk 22 4 21 17,ju 23 22 17,ys 24 1 23 17,yl 25 24 0 17,jj 26 17 25,ja 3 26]
abbrev QDs:IL:=[jd 5 0]
abbrev QDt:IL:=[ja 27 5,jb 28 1 1,jc 29 28,ja 30 4,jl 31 5 29 30,jb 32 2 31,jc 33 32,ji 34 1 33,jp 35 27 34]
abbrev QDu:IL:=[jb 38 1 1,jc 39 38,ja 40 4,jl 41 5 39 40,jb 42 2 41,jc 43 42,ja 44 5,jl 45 3 43 44,jb 46 2 45,jc 47 46,ja 6 47]
abbrev QoH:IL:=[ja 48 3,ja 49 48,jg 50 6 49,ys 51 1 50 49,yl 52 51 0 49,jg 53 52 49,jv 54 6 53,ye 55 1 54 53,yt 56 55 1 53,jv 57 56 53,jg 58 6 57,N8 59 8 58 0 57,jk 60 0 59 57,ju 61 60 57,⟨some 62,.val (.bin .str .eql (.t 61) (.c (.str [97,108,105,97,115]))),(some (57,true))⟩,yx 63 57 62 53,jv 64 63 53,jg 65 6 64,⟨some 66,.call (.f 71) [(.t 65),(.c (.int .i64 4))],(some (64,true))⟩,yl 67 66 0 64,yx 68 64 67 53,zg 69 53 68 49,jj 70 49 69,ja 3 70]
abbrev QDv:IL:=[ja 36 5,jm 37 36 1,ja 5 37]
abbrev Tu:RC:=.seq (jQ QDt (jX 35 2)) (.seq (.block 3 (jQ QDu (.reg QoH))) (.reg QDv))
abbrev QDw:IL:=[ja 14 4,jm 15 14 1,ja 4 15]
abbrev Tv:RC:=.seq (jQ QDq (jX 13 0)) (.seq (.block 1 (jQ QDr (jQ QDs (.block 2 (.loop Tu))))) (.reg QDw))
abbrev QoI:IL:=[jd 7 0]
abbrev QoJ:IL:=[ja 71 7,jb 72 0 1,jc 73 72,ji 74 1 73,jp 75 71 74]
abbrev QoK:IL:=[ja 78 3,ja 79 78,jk 80 0 1 79,ju 81 80 79,jg 82 7 79,ya 83 3 81 82 79,zn 84 3 83 79,zh 85 72 84 79,jj 86 79 85,ja 3 86]
abbrev QoL:IL:=[jd 8 0]
abbrev QoM:IL:=[ja 87 8,jb 88 0 1,jc 89 88,ja 90 7,jl 91 3 89 90,jb 92 1 91,jc 93 92,ji 94 1 93,jp 95 87 94]
abbrev QoN:IL:=[ja 98 3,ja 99 98,MM 100 0 1 2 1 99,jk 101 0 1 99,yz 102 0 1 101 99,jg 103 7 99,ya 104 3 102 103 99,jk 105 1 104 99,yo 106 105 99,jg 107 8 99,ya 108 8 106 107 99,GG 109 8 108 99,D7 110 73 100 109 99,jj 111 99 110,ja 3 111]
abbrev QoO:IL:=[ja 96 8,jm 97 96 1,ja 8 97]
abbrev Tw:RC:=.seq (jQ QoM (jX 95 6)) (.seq (.block 7 (.draw QoN)) (.reg QoO))
abbrev QoP:IL:=[ja 76 7,jm 77 76 1,ja 7 77]
abbrev Tx:RC:=.seq (jQ QoJ (jX 75 4)) (.seq (.block 5 (jQ QoK (jQ QoL (.block 6 (.loop Tw))))) (.reg QoP))
abbrev QoQ:IL:=[ja 112 3,ja 2 112]
abbrev r41:RC:=jQ QDn (jQ QDo (.seq (jQ QDp (.block 0 (.loop Tv))) (.seq (jQ QoI (.block 4 (.loop Tx))) (jQ QoQ (.ret)))))
abbrev o41:List RR:=[.tmp 2]
theorem k41:CT 41 113 r41 o41:=ck Tryz.func41 Tryz.ntmps41 (by decide +kernel)
abbrev QDx:IL:=[je 1 1 0,jh 2]
abbrev QDy:IL:=[jb 9 0 1,jc 10 9,ji 11 1 10,⟨some 12,.mk 12 4 1 1 [.bool false] (.t 11) (.t 11),none⟩,ja 3 12]
abbrev QDz:IL:=[jb 13 0 1,jc 14 13,ji 15 1 14,jt 16 15 0,ja 4 16]
abbrev QDA:IL:=[jb 17 0 1,jc 18 17,ji 19 1 18,jd 20 0]
abbrev QDB:IL:=[jp 21 20 19]
abbrev QDC:IL:=[yj 4]
abbrev QDD:IL:=[jd 5 0]
abbrev QDE:IL:=[ja 22 5,jb 23 0 1,jc 24 23,ji 25 1 24,jp 26 22 25]
abbrev QDF:IL:=[yj 6]
abbrev QoR:IL:=[jd 7 0]
abbrev QoS:IL:=[ja 29 7,jb 30 0 1,jc 31 30,ja 32 5,jl 33 3 31 32,jb 34 1 33,jc 35 34,ji 36 1 35,jp 37 29 36]
abbrev QoT:IL:=[jb 40 0 1,jc 41 40,ja 42 5,jl 43 3 41 42,jb 44 1 43,jc 45 44,ja 46 7,jl 47 8 45 46,jf 48 8 47,zd 8 8,jq 8 8 48]
abbrev QoU:IL:=[ja 49 6,ja 50 49,jk 51 3 8 50,ju 52 51 50,zs 53 52 1 50,jg 54 53 50,jo 55 5 8 54,js 56 55 54,Bg 57 56 10 54,zg 58 54 57 50,jg 59 58 50,jv 60 3 59,jo 61 6 8 59,js 62 61 59,zb 63 1 60 62 59,js 64 63 59,zg 65 59 64 50,jj 66 50 65,ja 6 66]
abbrev QoV:IL:=[ja 38 7,jm 39 38 1,ja 7 39]
abbrev TA:RC:=.gho (.drop 8) (.seq (jQ QoS (jX 37 4)) (.seq (.block 5 (jQ QoT (.reg QoU))) (.reg QoV)))
abbrev QoW:IL:=[ja 67 3,ja 68 5,ja 69 6,jl 70 1 67 68,jq 1 70 69]
abbrev QoX:IL:=[ja 71 4,ja 72 71,jg 73 6 72,jj 74 72 73,ja 4 74]
abbrev QDG:IL:=[ja 27 5,jm 28 27 1,ja 5 28]
abbrev TB:RC:=.gho (.drop 8) (.seq (jQ QDE (jX 26 2)) (.seq (.block 3 (jQ QDF (.seq (jQ QoR (.block 4 (.loop TA))) (jQ QoW (.reg QoX))))) (.reg QDG)))
abbrev QoY:IL:=[jm 75 20 1,ja 20 75]
abbrev QDH:RC:=.gho (.drop 8) (jQ QDB (.seq (jX 21 0) (.seq (.block 1 (jQ QDC (jQ QDD (.block 2 (.loop TB))))) (.reg QoY))))
abbrev QoZ:IL:=[ja 76 4,ja 2 76]
abbrev r42:RC:=jQ QDx (jQ QDy (jQ QDz (.seq (jQ QDA (.block 0 (.loop QDH))) (jQ QoZ (.ret)))))
abbrev o42:List RR:=[.tmp 2]
theorem k42:CT 42 77 r42 o42:=ck Tryz.func42 Tryz.ntmps42 (by decide +kernel)
abbrev QDI:IL:=[je 1 1 0,jh 2]
abbrev QDJ:IL:=[jb 5 0 1,jc 6 5,jt 7 6 7,ja 8 7,jo 9 0 1 8,js 10 9 8,yt 11 10 8 8,jn 12 8 11,ja 3 12]
abbrev QDK:IL:=[jb 13 0 1,jc 14 13,jt 15 14 10,ja 4 15]
abbrev QDL:IL:=[jb 16 3 1,jc 17 16,ji 18 1 17,yp 19 18 0,ja 20 19,jk 21 0 1 20,ju 22 21 20,zs 23 22 11 20,jj 24 20 23,ja 25 24,jo 26 4 1 25,js 27 26 25,ye 28 1 27 25,yk 29 28 0 25,jv 30 29 25,jk 31 0 1 30,ju 32 31 30,zs 33 32 12 30,yx 34 30 33 25,jn 35 25 34,ja 36 35,jo 37 5 1 36,js 38 37 36,ye 39 1 38 36,jo 40 6 1 36,js 41 40 36,ye 42 1 41 36,⟨some 43,.val (.bin .num .add (.t 39) (.t 42)),(some (36,false))⟩,yk 44 43 0 36,jv 45 44 36,jg 46 4 45,yy 47 46 45,yx 48 45 47 36,jn 49 36 48]
abbrev QDM:IL:=[yj 2]
abbrev QDN:IL:=[jb 50 1 1,jc 51 50,⟨some 52,.val (.bin .num .neq (.t 51) (.c (.int .u64 0))),none⟩,ja 53 52,jg 54 3 53,jg 55 54 53,jo 56 0 1 55,js 57 56 55,yt 58 57 11 55,zg 59 55 58 53,jg 60 59 53,jo 61 0 1 60,js 62 61 60,yt 63 62 12 60,zg 64 60 63 53,jg 65 64 53,jv 66 4 65,zg 67 65 66 53,jj 68 53 67,ja 69 68,jo 70 2 1 69,js 71 70 69,⟨some 72,.val (.bin .str .neq (.t 71) (.c (.str []))),(some (69,false))⟩,jv 73 72 69,jg 74 3 73,yy 75 74 73,yx 76 73 75 69,jn 77 69 76,ja 2 77]
abbrev r43:RC:=jQ QDI (jQ QDJ (jQ QDK (.seq (jQ QDL (.cond (.t 49) (jQ QDM (.ret)) (.skip))) (jQ QDN (.ret)))))
abbrev o43:List RR:=[.tmp 2]
theorem k43:CT 43 78 r43 o43:=ck Tryz.func43 Tryz.ntmps43 (by decide +kernel)
abbrev QDO:IL:=[je 3 3 0,jd 6 0]
abbrev QDP:IL:=[jw 14 0 3 3 3,ja 15 1,ja 16 2,jl 17 8 15 16,jb 18 0 17,zp 19 18,jy 20 45 14 19,ja 13 20,jx 21 13 0,jx 22 13 1,zd 7 7,yg 0 7 8 7 21,ja 8 22]
abbrev QDQ:IL:=[ja 23 8,jz 24 23]
abbrev QDR:IL:=[jd 6 8]
abbrev QDS:IL:=[jh 9]
abbrev QDT:IL:=[jd 10 0]
abbrev QDU:IL:=[ja 25 10,ja 26 2,jp 27 25 26]
abbrev QDV:IL:=[ja 30 1,ja 31 10,jl 32 8 30 31,jb 33 0 32,zp 34 33,ja 35 1,ja 36 2,jl 37 8 35 36,jb 38 0 37,zp 39 38,zq 40 34 39]
abbrev QDW:IL:=[jd 6 9]
abbrev Qo1:IL:=[jw 42 0 3 3 3,ja 43 1,ja 44 10,jl 45 8 43 44,jb 46 0 45,zp 47 46,jy 48 45 42 47,ja 41 48,jx 49 41 0,jx 50 41 1,zd 11 11,yg 0 11 8 11 49,ja 12 50]
abbrev Qo2:IL:=[ja 51 9,ja 52 51,jo 53 7 7 52,js 54 53 52,Bg 55 54 (-1) 52,jv 56 55 52,jk 57 7 11 56,ju 58 57 56,jk 59 7 7 56,ju 60 59 56,⟨some 61,.val (.bin .num .eql (.t 58) (.t 60)),(some (56,true))⟩,yx 62 56 61 52,jn 63 52 62,ja 9 63]
abbrev QDX:IL:=[ja 28 10,jm 29 28 1,ja 10 29]
abbrev QDY:RC:=.gho (.drop 11) (.seq (jQ QDU (jX 27 0)) (.seq (.block 1 (.seq (jD QDV (.cond (.t 40) (jQ QDW (.ret)) (.skip))) (jD Qo1 (.reg Qo2)))) (.reg QDX)))
abbrev Qo3:IL:=[ja 64 9]
abbrev Qo4:IL:=[jd 6 15]
abbrev Qo5:IL:=[jd 6 0]
abbrev r44:RC:=jQ QDO (jD QDP (.seq (jQ QDQ (.cond (.t 24) (jQ QDR (.ret)) (.skip))) (jQ QDS (.seq (jQ QDT (.block 0 (.loop QDY))) (.seq (jQ Qo3 (.cond (.t 64) (jQ Qo4 (.ret)) (.skip))) (jQ Qo5 (.ret)))))))
abbrev o44:List RR:=[.tmp 6]
theorem k44:CT 44 65 r44 o44:=ck Tryz.func44 Tryz.ntmps44 (by decide +kernel)
abbrev QDZ:IL:=[je 2 2 0,zd 4 4,jh 5]
abbrev QD0:IL:=[jd 6 0]
abbrev QD1:IL:=[ja 7 6,jb 8 1 2,jc 9 8,ji 10 1 9,jp 11 7 10]
abbrev QD2:IL:=[jb 14 1 2,jc 15 14,ja 16 6,jl 17 8 15 16,jb 18 0 17,jc 19 18,ja 20 1,zq 21 19 20]
abbrev QD3:IL:=[jb 22 1 2,jc 23 22,ja 24 6,jl 25 8 23 24,jf 26 8 25,jq 8 4 26,yj 5]
abbrev QD4:IL:=[ja 12 6,jm 13 12 1,ja 6 13]
abbrev QD5:RC:=.seq (jQ QD1 (jX 11 0)) (.seq (.block 1 (jQ QD2 (.cond (.t 21) (jQ QD3 (.ret)) (.skip)))) (.reg QD4))
abbrev QD6:IL:=[⟨some 27,.val (.build [.int .i64 0,.str [],.str [],.int .i64 0,.int .i64 0,.int .i64 0,.int .i64 0,.int .i64 0] []),none⟩,jq 8 4 27,jh 5]
abbrev r45:RC:=jQ QDZ (.seq (jQ QD0 (.block 0 (.loop QD5))) (jQ QD6 (.ret)))
abbrev o45:List RR:=[.cell 4 (some 8),.tmp 5]
theorem k45:CT 45 28 r45 o45:=ck Tryz.func45 Tryz.ntmps45 (by decide +kernel)
abbrev QD7:IL:=[je 4 4 0,je 5 5 1,je 6 6 2,jd 8 0]
abbrev QD8:IL:=[jb 11 3 5,jc 12 11]
abbrev QD9:IL:=[jt 14 12 5,ja 13 14]
abbrev QEa:IL:=[jb 15 0 6,jc 16 15,yc 17 16 12,ja 18 17,yv 19 7 6 18,ze 20 43 19 18,jn 21 18 20]
abbrev QEb:IL:=[jd 8 12]
abbrev QEc:IL:=[jf 22 2 4,jf 23 8 5,jb 24 4 6,jc 25 24,ja 26 3,zl 27 74 22 23 25 26,ja 8 27]
abbrev QEd:IL:=[jt 29 12 4,ja 28 29]
abbrev QEe:IL:=[jb 30 0 6,jc 31 30,yc 32 31 11,ja 33 32,yv 34 7 6 33,ze 35 43 34 33,jn 36 33 35]
abbrev QEf:IL:=[jd 8 12]
abbrev QEg:IL:=[jd 9 0]
abbrev Qo6:IL:=[ja 37 9,jb 38 3 6,jc 39 38,ji 40 1 39,jp 41 37 40]
abbrev Qo7:IL:=[jw 44 0 4 2 4,jw 45 0 5 8 5,jb 46 3 6,yb 47 0 6 46,ja 48 9,jl 49 7 47 48,yd 50 7 49,ja 51 3,zl 52 75 44 45 50 51,ja 10 52]
abbrev Qo8:IL:=[ja 53 10,yc 54 53 0]
abbrev Qo9:IL:=[ja 55 10,ja 8 55]
abbrev Qpa:IL:=[ja 42 9,jm 43 42 1,ja 9 43]
abbrev QEh:RC:=.seq (jQ Qo6 (jX 41 1)) (.seq (.block 2 (jD Qo7 (jQ Qo8 (.cond (.t 54) (jQ Qo9 (.ret)) (.skip))))) (.reg Qpa))
abbrev Qpb:IL:=[jd 8 0]
abbrev Qpc:IL:=[jf 56 2 4,jf 57 8 5,jf 58 7 6,ja 59 3,zl 60 75 56 57 58 59,ja 8 60]
abbrev r46:RC:=jQ QD7 (.seq (jQ QD8 (.block 0 (jQ QD9 (.cond (.t 13) (.seq (jQ QEa (.cond (.t 21) (jQ QEb (.ret)) (.skip))) (jQ QEc (.ret))) (jQ QEd (.cond (.t 28) (.seq (jQ QEe (.cond (.t 36) (jQ QEf (.ret)) (.skip))) (.seq (jQ QEg (.block 1 (.loop QEh))) (jQ Qpb (.ret)))) (.skip))))))) (jQ Qpc (.ret)))
abbrev o46:List RR:=[.tmp 8]
theorem k46:CT 46 61 r46 o46:=ck Tryz.func46 Tryz.ntmps46 (by decide +kernel)
abbrev QEi:IL:=[je 2 2 0,jh 4]
abbrev QEj:IL:=[jd 5 0]
abbrev QEk:IL:=[ja 6 5,jb 7 5 2,jc 8 7,ji 9 1 8,jp 10 6 9]
abbrev QEl:IL:=[jb 13 5 2,jc 14 13,ja 15 5,jl 16 8 14 15,jb 17 0 16,jc 18 17,ja 19 1,zq 20 18 19]
abbrev QEm:IL:=[yj 4]
abbrev QEn:IL:=[ja 11 5,jm 12 11 1,ja 5 12]
abbrev QEo:RC:=.seq (jQ QEk (jX 10 0)) (.seq (.block 1 (jQ QEl (.cond (.t 20) (jQ QEm (.ret)) (.skip)))) (.reg QEn))
abbrev QEp:IL:=[jh 4]
abbrev r47:RC:=jQ QEi (.seq (jQ QEj (.block 0 (.loop QEo))) (jQ QEp (.ret)))
abbrev o47:List RR:=[.tmp 4]
theorem k47:CT 47 21 r47 o47:=ck Tryz.func47 Tryz.ntmps47 (by decide +kernel)
abbrev QEq:IL:=[je 3 3 0,je 4 4 1,je 5 5 2,jh 6]
abbrev QEr:IL:=[jb 9 0 5,jc 10 9,yu 11 10 1,ja 12 11,jo 13 0 5 12,js 14 13 12,yk 15 14 65535 12,jn 16 12 15,ja 17 16,jo 18 1 5 17,js 19 18 17,N3 20 19 0 17,jn 21 17 20,ja 22 21,jo 23 1 5 22,js 24 23 22,yk 25 24 6 22,jn 26 22 25]
abbrev QEs:IL:=[jh 6]
abbrev QEt:IL:=[jb 27 1 5,jc 28 27,⟨some 29,.val (.bin .num .leq (.t 28) (.c (.int .i64 2))),none⟩,ja 30 29,jk 31 3 5 30,ju 32 31 30,⟨some 33,.val (.bin .str .neq (.t 32) (.c (.str []))),(some (30,true))⟩,jj 34 30 33,ja 35 34,jo 36 1 5 35,js 37 36 35,yk 38 37 2 35,jv 39 38 35,jk 40 2 5 39,ju 41 40 39,⟨some 42,.val (.bin .num .neq (.t 41) (.c (.int .u64 0))),(some (39,true))⟩,yx 43 39 42 35,jn 44 35 43]
abbrev QEu:IL:=[jh 6]
abbrev QEv:IL:=[jf 46 3 4,jb 47 0 5,jc 48 47,jy 49 45 46 48,ja 45 49,jx 50 45 0,jx 51 45 1,zd 7 7,jq 8 7 50,ja 8 51]
abbrev QEw:IL:=[ja 52 8,jz 53 52]
abbrev QEx:IL:=[yj 6]
abbrev QEy:IL:=[jb 54 5 7,jc 55 54,jt 56 55 9,ja 57 56,jk 58 1 3 57,ju 59 58 57,jk 60 6 7 57,ju 61 60 57,ya 62 5 59 61 57,jk 63 1 62 57,ju 64 63 57,yy 65 64 57,jj 66 57 65,ja 67 66,jk 68 3 7 67,ju 69 68 67,zs 70 69 5 67,jj 71 67 70,ja 72 71,jk 73 1 5 72,ju 74 73 72,yl 75 74 0 72,jj 76 72 75,ja 77 76,jk 78 2 5 77,ju 79 78 77,⟨some 80,.val (.bin .num .leq (.t 79) (.c (.int .u64 2147483647))),(some (77,true))⟩,jj 81 77 80,ja 82 81,zn 83 2 3 82,jk 84 6 7 82,ju 85 84 82,jk 86 2 5 82,ju 87 86 82,SO 88 76 83 85 87 82,yy 89 88 82,jj 90 82 89,ja 6 90]
abbrev r48:RC:=jQ QEq (.seq (jQ QEr (.cond (.t 26) (jQ QEs (.ret)) (.skip))) (.seq (jQ QEt (.cond (.t 44) (jQ QEu (.ret)) (.skip))) (jQ QEv (.seq (jQ QEw (.cond (.t 53) (jQ QEx (.ret)) (.skip))) (jQ QEy (.ret))))))
abbrev o48:List RR:=[.tmp 6]
theorem k48:CT 48 91 r48 o48:=ck Tryz.func48 Tryz.ntmps48 (by decide +kernel)
abbrev QEz:IL:=[je 3 3 0,je 4 4 1,je 5 5 2,yn 6 6]
abbrev QEA:IL:=[jb 7 5 4,jc 8 7,jt 9 8 10]
abbrev QEB:IL:=[jf 10 2 3,jb 11 6 4,jc 12 11,jf 13 7 5,yh 14 9 10 12 13,jq 7 6 14]
abbrev QEC:IL:=[jf 15 7 5,jr 16 53 15,jq 7 6 16]
abbrev r51:RC:=jQ QEz (.seq (jQ QEA (.cond (.t 9) (jQ QEB (.ret)) (.skip))) (jQ QEC (.ret)))
abbrev o51:List RR:=[.cell 6 (some 7)]
theorem k51:CT 51 17 r51 o51:=ck Tryz.func51 Tryz.ntmps51 (by decide +kernel)
abbrev QED:IL:=[yf 2]
abbrev QEE:IL:=[yf 3]
abbrev QEF:IL:=[jd 4 0]
abbrev QEG:IL:=[ja 9 4,ja 10 0,ji 11 1 10,jp 12 9 11]
abbrev QEH:IL:=[yj 5]
abbrev QEI:IL:=[ja 15 4,jm 16 15 1,ja 6 16]
abbrev QEJ:IL:=[ja 17 6,ja 18 0,ji 19 1 18,jp 20 17 19]
abbrev QEK:IL:=[ja 23 5,ja 24 23,jg 25 0 24,jg 26 4 24,ya 27 14 25 26 24,jk 28 0 27 24,GG 29 7 28 24,jg 30 0 24,jg 31 6 24,ya 32 14 30 31 24,jk 33 0 32 24,GG 34 7 33 24,D7 35 78 29 34 24,zs 36 35 0 24,jj 37 24 36,ja 5 37]
abbrev QEL:IL:=[ja 21 6,jm 22 21 1,ja 6 22]
abbrev TC:RC:=.seq (jQ QEJ (jX 20 2)) (.seq (.block 3 (.draw QEK)) (.reg QEL))
abbrev Qpd:IL:=[ja 38 5]
abbrev Qpe:IL:=[jd 7 0]
abbrev Qpf:IL:=[ja 39 7,ja 40 3,ji 41 1 40,jp 42 39 41,ja 43 42,jg 44 3 43,jg 45 7 43,ya 46 14 44 45 43,jk 47 0 46 43,GG 48 7 47 43,jg 49 0 43,jg 50 4 43,ya 51 14 49 50 43,jk 52 0 51 43,GG 53 7 52 43,D7 54 78 48 53 43,⟨some 55,.val (.bin .num .lss (.t 54) (.c (.int .i64 0))),(some (43,true))⟩,jj 56 43 55]
abbrev Qpg:IL:=[ja 57 7,jm 58 57 1,ja 7 58]
abbrev TD:RC:=.seq (jD Qpf (jX 56 4)) (.block 5 (.reg Qpg))
abbrev Qph:IL:=[ja 59 0,ja 60 4,jl 61 14 59 60,yd 62 14 61,⟨some 63,.bslv 63 14 1 [.int .i64 0,.int .u64 0,.str [],.nils,.nils,.nils,.nils,.int .i64 0,.int .u64 0,.str [],.nils,.nils,.nils,.nils] [(0,14,(.t 62))],none⟩,ja 64 3,ja 65 7,⟨some 66,.val (.slcp (some 14) (.t 64) (some (.t 65)) none none),none⟩,yr 67 14 256 77 63 66,ja 8 67]
abbrev Qpi:IL:=[⟨some 68,.bsl0 68 14,none⟩,ja 69 3,ja 70 7,Fb 71 14 69 70,yr 72 14 256 77 68 71,ja 73 8,yr 74 14 256 77 72 73,ja 3 74]
abbrev QEM:IL:=[ja 13 4,jm 14 13 1,ja 4 14]
abbrev QEN:RC:=.seq (jQ QEG (jX 12 0)) (.seq (.block 1 (jQ QEH (.seq (jQ QEI (.block 2 (.loop TC))) (jQ Qpd (.cond (.t 38) (jQ Qpe (.seq (.block 4 (.loop TD)) (jD Qph (.reg Qpi)))) (.skip)))))) (.gho (.pub 3 68) (.reg QEM)))
abbrev Qpj:IL:=[ja 75 3,ja 2 75]
abbrev r52:RC:=jQ QED (jQ QEE (.gho (.lst 3) (.seq (jQ QEF (.block 0 (.loop QEN))) (jQ Qpj (.ret)))))
abbrev o52:List RR:=[.tmp 2]
theorem k52:CT 52 76 r52 o52:=ck Tryz.func52 Tryz.ntmps52 (by decide +kernel)
abbrev QEO:IL:=[je 1 1 0,yn 2 2]
abbrev QEP:IL:=[jb 3 0 1,jc 4 3,jt 5 4 6,ja 6 5,jk 7 1 1 6,ju 8 7 6,zh 9 79 8 6,yl 10 9 0 6,jj 11 6 10]
abbrev QEQ:IL:=[jb 12 1 1,⟨none,.store 1 (.t 12) (.c (.int .u64 9221120237041090560)),none⟩]
abbrev QER:IL:=[jf 13 7 1,jq 7 2 13]
abbrev r53:RC:=jQ QEO (.seq (jQ QEP (.cond (.t 11) (.reg QEQ) (.skip))) (jQ QER (.ret)))
abbrev o53:List RR:=[.cell 2 (some 7)]
theorem k53:CT 53 14 r53 o53:=ck Tryz.func53 Tryz.ntmps53 (by decide +kernel)
abbrev QES:IL:=[je 1 1 0,jh 2]
abbrev QET:IL:=[jb 3 0 1,jc 4 3,jr 5 80 4,ja 6 5,jk 7 1 1 6,ju 8 7 6,⟨some 9,.val (.bin .num .eql (.t 8) (.c (.int .u64 0))),(some (6,true))⟩,jj 10 6 9,ja 11 10,jk 12 2 1 11,ju 13 12 11,⟨some 14,.val (.bin .str .eql (.t 13) (.c (.str []))),(some (11,true))⟩,jj 15 11 14,ja 16 15,zn 17 7 1 16,zh 18 81 17 16,jj 19 16 18,ja 2 19]
abbrev r54:RC:=jQ QES (jQ QET (.ret))
abbrev o54:List RR:=[.tmp 2]
theorem k54:CT 54 20 r54 o54:=ck Tryz.func54 Tryz.ntmps54 (by decide +kernel)
abbrev QEU:IL:=[jh 2]
abbrev QEV:IL:=[ja 5 0,jr 6 120 5,jz 7 6]
abbrev QEW:IL:=[jh 2]
abbrev QEX:IL:=[ja 8 0,⟨some 9,.val (.bin .str .neq (.t 8) (.c (.str []))),none⟩]
abbrev QEY:IL:=[ja 11 0,jr 12 121 11,ja 10 12,jx 13 10 0,jx 14 10 1,ja 3 13,ja 4 14]
abbrev QEZ:IL:=[ja 15 4,jr 16 122 15]
abbrev QE0:IL:=[jh 2]
abbrev QE1:IL:=[ja 17 3,ja 0 17]
abbrev QE2:RC:=.seq (jQ QEX (jX 9 0)) (.block 1 (jQ QEY (.seq (jQ QEZ (.cond (.t 16) (jQ QE0 (.ret)) (.skip))) (.reg QE1))))
abbrev QE3:IL:=[yj 2]
abbrev r68:RC:=jQ QEU (.seq (jQ QEV (.cond (.t 7) (jQ QEW (.ret)) (.skip))) (.seq (.block 0 (.loop QE2)) (jQ QE3 (.ret))))
abbrev o68:List RR:=[.tmp 2]
theorem k68:CT 68 18 r68 o68:=ck Tryz.func68 Tryz.ntmps68 (by decide +kernel)
abbrev QE4:IL:=[jh 2]
abbrev QE5:IL:=[ja 3 0,jr 4 123 3,ja 5 4,jg 6 0 5,zh 7 122 6 5,yy 8 7 5,jj 9 5 8,ja 2 9]
abbrev r69:RC:=jQ QE4 (jQ QE5 (.ret))
abbrev o69:List RR:=[.tmp 2]
theorem k69:CT 69 10 r69 o69:=ck Tryz.func69 Tryz.ntmps69 (by decide +kernel)
abbrev QE6:IL:=[jh 4]
abbrev QE7:IL:=[jd 5 0]
abbrev QE8:IL:=[ja 6 5,ja 7 0,ji 8 1 7,jp 9 6 8]
abbrev QE9:IL:=[ja 12 0,ja 13 5,jl 14 2 12 13,jb 15 0 14,jc 16 15,ja 17 1,Bj 18 16 17,ja 19 18,jg 20 1 19,jg 21 0 19,jg 22 5 19,ya 23 2 21 22 19,jk 24 1 23 19,ju 25 24 19,MO 26 20 25 19,jj 27 19 26]
abbrev QFa:IL:=[yj 4]
abbrev QFb:IL:=[ja 10 5,jm 11 10 1,ja 5 11]
abbrev QFc:RC:=.seq (jQ QE8 (jX 9 0)) (.seq (.block 1 (jQ QE9 (.cond (.t 27) (jQ QFa (.ret)) (.skip)))) (.reg QFb))
abbrev QFd:IL:=[jh 4]
abbrev r70:RC:=jQ QE6 (.seq (jQ QE7 (.block 0 (.loop QFc))) (jQ QFd (.ret)))
abbrev o70:List RR:=[.tmp 4]
theorem k70:CT 70 28 r70 o70:=ck Tryz.func70 Tryz.ntmps70 (by decide +kernel)
abbrev QFe:IL:=[jd 4 0]
abbrev QFf:IL:=[ja 6 0,ji 7 1 6,yp 8 7 8]
abbrev QFg:IL:=[jd 4 3]
abbrev QFh:IL:=[jd 5 0]
abbrev QFi:IL:=[ja 9 5,ja 10 0,ji 11 1 10,jp 12 9 11]
abbrev QFj:IL:=[ja 15 0,ja 16 5,jl 17 8 15 16,jb 18 0 17,jc 19 18,jr 20 124 19,jt 21 20 0]
abbrev QFk:IL:=[jd 4 8]
abbrev QFl:IL:=[ja 22 0,ja 23 5,jl 24 8 22 23,jb 25 0 24,jc 26 25,ja 27 1,jy 28 125 26 27,jz 29 28]
abbrev QFm:IL:=[jd 4 1]
abbrev Qpl:IL:=[ja 30 0,ja 31 5,jl 32 8 30 31,jf 33 8 32,jr 34 126 33,jz 35 34]
abbrev Qpm:IL:=[jd 4 12]
abbrev Qpn:IL:=[ja 36 5,yp 37 36 0,ja 38 37,jg 39 0 38,jg 40 5 38,ya 41 8 39 40 38,jk 42 0 41 38,yo 43 42 38,jg 44 0 38,jg 45 5 38,Fc 46 45 1 38,ya 47 8 44 46 38,jk 48 0 47 38,yo 49 48 38,⟨some 50,.val (.bin .str .lss (.t 43) (.t 49)),(some (38,true))⟩,jj 51 38 50]
abbrev Qpo:IL:=[jd 4 11]
abbrev Qpp:IL:=[ja 52 5,yp 53 52 0,ja 54 53,jg 55 0 54,jg 56 5 54,ya 57 8 55 56 54,jk 58 0 57 54,yo 59 58 54,jg 60 0 54,jg 61 5 54,Fc 62 61 1 54,ya 63 8 60 62 54,jk 64 0 63 54,yo 65 64 54,MS 66 59 65 54,jj 67 54 66]
abbrev Qpq:IL:=[jd 4 9]
abbrev QFn:IL:=[ja 13 5,jm 14 13 1,ja 5 14]
abbrev QFo:RC:=.seq (jQ QFi (jX 12 0)) (.seq (.block 1 (.seq (jQ QFj (.cond (.t 21) (jQ QFk (.ret)) (.skip))) (.seq (jQ QFl (.cond (.t 29) (jQ QFm (.ret)) (.skip))) (.seq (jQ Qpl (.cond (.t 35) (jQ Qpm (.ret)) (.skip))) (.seq (jD Qpn (.cond (.t 51) (jQ Qpo (.ret)) (.skip))) (jD Qpp (.cond (.t 67) (jQ Qpq (.ret)) (.skip)))))))) (.reg QFn))
abbrev Qpr:IL:=[jd 4 0]
abbrev r71:RC:=jQ QFe (.seq (jQ QFf (.cond (.t 8) (jQ QFg (.ret)) (.skip))) (.seq (jQ QFh (.block 0 (.loop QFo))) (jQ Qpr (.ret))))
abbrev o71:List RR:=[.tmp 4]
theorem k71:CT 71 68 r71 o71:=ck Tryz.func71 Tryz.ntmps71 (by decide +kernel)
abbrev QFp:IL:=[je 1 1 0,jh 2]
abbrev QFq:IL:=[jd 3 0]
abbrev QFr:IL:=[jd 4 0]
abbrev QFs:IL:=[ja 6 4,jb 7 1 1,jc 8 7,ji 9 1 8,jp 10 6 9]
abbrev QFt:IL:=[jb 13 1 1,jc 14 13,ja 15 4,jl 16 8 14 15,jb 17 7 16,jc 18 17,ja 5 18]
abbrev QFu:IL:=[ja 20 5,ja 21 3,zq 22 20 21,ja 19 22]
abbrev QFv:IL:=[ja 23 3,jm 24 23 1,ja 3 24]
abbrev QFw:IL:=[ja 26 5,yc 27 26 (-1),ja 28 27,jg 29 4 28,yl 30 29 0 28,jg 31 30 28,jo 32 1 1 31,js 33 32 31,jv 34 4 31,⟨some 35,.val (.bin .num .sub (.t 34) (.c (.int .i64 1))),(some (31,false))⟩,zb 36 8 33 35 31,jo 37 7 36 31,js 38 37 31,jv 39 5 31,zv 40 38 39 31,zg 41 31 40 28,jj 42 28 41,ja 25 42]
abbrev QFx:IL:=[jh 2]
abbrev QFy:IL:=[ja 11 4,jm 12 11 1,ja 4 12]
abbrev QFz:RC:=.seq (jQ QFs (jX 10 0)) (.seq (.block 1 (jQ QFt (.block 2 (jQ QFu (.cond (.t 19) (.reg QFv) (jQ QFw (.cond (.t 25) (jQ QFx (.ret)) (.skip)))))))) (.reg QFy))
abbrev Qps:IL:=[jb 43 2 1,jc 44 43,ja 45 3,zq 46 44 45,ja 2 46]
abbrev r72:RC:=jQ QFp (jQ QFq (.seq (jQ QFr (.block 0 (.loop QFz))) (jQ Qps (.ret))))
abbrev o72:List RR:=[.tmp 2]
theorem k72:CT 72 47 r72 o72:=ck Tryz.func72 Tryz.ntmps72 (by decide +kernel)
def TE:IL:=[je 2 2 0,je 3 3 1,jh 4]
def TF:IL:=[jb 6 2 3,jc 7 6,jr 8 127 7,jz 9 8,ja 10 9,jo 11 2 3 10,js 12 11 10,ye 13 0 12 10,yk 14 13 4096 10,jn 15 10 14,ja 16 15,jo 17 3 3 16,js 18 17 16,N3 19 18 1 16,jn 20 16 19,ja 21 20,jo 22 3 3 21,js 23 22 21,yk 24 23 5 21,jn 25 21 24,ja 26 25,jo 27 5 3 26,js 28 27 26,N3 29 28 1 26,jn 30 26 29,ja 31 30,jo 32 5 3 31,js 33 32 31,yk 34 33 10 31,jn 35 31 34]
def TG:IL:=[jh 4]
def TH:IL:=[jb 36 4 3,jc 37 36,ym 38 37 1,ja 39 38,jk 40 4 3 39,ju 41 40 39,zf 42 41 5 39,jj 43 39 42,ja 44 43,jo 45 4 3 44,js 46 45 44,yt 47 46 7 44,jn 48 44 47,ja 5 48]
def TI:IL:=[jb 49 3 3,jc 50 49,yc 51 50 5]
def TJ:IL:=[jb 52 4 3,jc 53 52,jt 54 53 0,ja 5 54]
def Ct:IL:=[ja 55 5,ja 56 55,zn 57 2 2 56,zn 58 8 3 56,D7 59 128 57 58 56,jj 60 56 59,ja 61 60,jk 62 7 3 61,ju 63 62 61,yl 64 63 (-1) 61,jg 65 64 61,jo 66 3 3 65,js 67 66 65,yt 68 67 2 65,zg 69 65 68 61,jj 70 61 69,ja 4 70]
def r73:RC:=jQ TE (.seq (jQ TF (.cond (.t 35) (jQ TG (.ret)) (.skip))) (jQ TH (.seq (jQ TI (.cond (.t 51) (.reg TJ) (.skip))) (jQ Ct (.ret)))))
def o73:List RR:=[.tmp 4]
theorem k73:CT 73 71 r73 o73:=ck Tryz.func73 Tryz.ntmps73 (by decide +kernel)
abbrev QFA:IL:=[je 4 4 0,je 5 5 1,jd 8 0]
abbrev QFB:IL:=[jd 9 0]
abbrev QFC:IL:=[ja 13 9,ja 14 2,ji 15 1 14,jp 16 13 15]
abbrev QFD:IL:=[jw 19 0 4 2 4,jb 20 4 5,yb 21 0 5 20,ja 22 2,ja 23 9,jl 24 14 22 23,jb 25 0 24,yd 26 7 25,⟨some 27,.call (.f 129) [(.t 19),(.t 21),(.c (.int .i64 (-1))),(.t 26)],none⟩,ja 10 27]
abbrev QFE:IL:=[ja 28 10,yc 29 28 0]
abbrev QFF:IL:=[ja 30 10,ja 8 30]
abbrev QFG:IL:=[jd 11 0]
abbrev QFH:IL:=[ja 31 11,ja 32 9,jp 33 31 32]
abbrev Qpt:IL:=[ja 36 2,ja 37 11,jl 38 14 36 37,jb 39 0 38,yd 40 7 39,ja 41 2,ja 42 9,jl 43 14 41 42,jb 44 0 43,yd 45 7 44,jy 46 130 40 45]
abbrev Qpu:IL:=[jd 8 9]
abbrev QFI:IL:=[ja 34 11,jm 35 34 1,ja 11 35]
abbrev TK:RC:=.seq (jQ QFH (jX 33 2)) (.seq (.block 3 (jD Qpt (.cond (.t 46) (jQ Qpu (.ret)) (.skip)))) (.reg QFI))
abbrev Qpv:IL:=[jw 47 0 4 2 4,jw 48 0 5 8 5,ja 49 2,ja 50 9,jl 51 14 49 50,jb 52 7 51,yd 53 7 52,ja 54 3,zl 55 75 47 48 53 54,ja 12 55]
abbrev Qpw:IL:=[ja 56 12,yc 57 56 0]
abbrev Qpx:IL:=[ja 58 12,ja 8 58]
abbrev QFJ:IL:=[ja 17 9,jm 18 17 1,ja 9 18]
abbrev QFK:RC:=.seq (jQ QFC (jX 16 0)) (.seq (.block 1 (.seq (jD QFD (jQ QFE (.cond (.t 29) (jQ QFF (.ret)) (.skip)))) (.seq (jQ QFG (.block 2 (.loop TK))) (jD Qpv (jQ Qpw (.cond (.t 57) (jQ Qpx (.ret)) (.skip))))))) (.reg QFJ))
abbrev Qpy:IL:=[jd 8 0]
abbrev r74:RC:=jQ QFA (.seq (jQ QFB (.block 0 (.loop QFK))) (jQ Qpy (.ret)))
abbrev o74:List RR:=[.tmp 8]
theorem k74:CT 74 59 r74 o74:=ck Tryz.func74 Tryz.ntmps74 (by decide +kernel)
abbrev QFL:IL:=[je 4 4 0,je 5 5 1,je 6 6 2,jd 8 0]
abbrev QFM:IL:=[jb 9 5 5,jc 10 9,jt 11 10 10]
abbrev QFN:IL:=[jf 12 2 4,jb 13 6 5,jc 14 13,jf 15 7 6,ja 16 3,jm 17 16 1,zl 18 20 12 14 15 17,ja 8 18]
abbrev QFO:IL:=[jf 19 2 4,jb 20 5 5,jc 21 20,jb 22 6 5,jc 23 22,jf 24 7 6,zl 25 129 19 21 23 24,ja 8 25]
abbrev r75:RC:=jQ QFL (.seq (jQ QFM (.cond (.t 11) (jQ QFN (.ret)) (.skip))) (jQ QFO (.ret)))
abbrev o75:List RR:=[.tmp 8]
theorem k75:CT 75 26 r75 o75:=ck Tryz.func75 Tryz.ntmps75 (by decide +kernel)
abbrev QFP:IL:=[je 3 3 0,jh 6]
abbrev QFQ:IL:=[ja 9 1,yu 10 9 0,ja 11 10,jv 12 1 11,jo 13 1 3 11,js 14 13 11,ye 15 1 14 11,N9 16 12 15 11,jn 17 11 16,ja 18 17,jv 19 2 18,⟨some 20,.val (.bin .num .gtr (.t 19) (.c (.int .u64 2147483647))),(some (18,false))⟩,jn 21 18 20]
abbrev QFR:IL:=[jh 6]
abbrev QFS:IL:=[jb 22 1 3,jc 23 22,ja 24 1,jl 25 5 23 24,jb 26 1 25,jc 27 26,ja 7 27]
abbrev QFT:IL:=[jd 8 0]
abbrev QFU:IL:=[ja 28 8,jb 29 1 3,jc 30 29,ja 31 1,jl 32 5 30 31,jb 33 2 32,jc 34 33,ji 35 1 34,jp 36 28 35]
abbrev QFV:IL:=[ja 39 7,ja 40 39,jo 41 1 3 40,js 42 41 40,jv 43 1 40,zb 44 5 42 43 40,jo 45 2 44 40,js 46 45 40,jv 47 8 40,zb 48 3 46 47 40,jo 49 1 48 40,js 50 49 40,jv 51 2 40,⟨some 52,.val (.cvi .i64 (.t 51)),(some (40,false))⟩,⟨some 53,.val (.bin .num .eql (.t 50) (.t 52)),(some (40,false))⟩,jn 54 40 53,ja 7 54]
abbrev QFW:IL:=[ja 37 8,jm 38 37 1,ja 8 38]
abbrev QFX:RC:=.seq (jQ QFU (jX 36 0)) (.seq (.block 1 (.reg QFV)) (.reg QFW))
abbrev QFY:IL:=[ja 55 7,ja 6 55]
abbrev r76:RC:=jQ QFP (.seq (jQ QFQ (.cond (.t 21) (jQ QFR (.ret)) (.skip))) (jQ QFS (.seq (jQ QFT (.block 0 (.loop QFX))) (jQ QFY (.ret)))))
abbrev o76:List RR:=[.tmp 6]
theorem k76:CT 76 56 r76 o76:=ck Tryz.func76 Tryz.ntmps76 (by decide +kernel)
abbrev QFZ:IL:=[jd 2 0]
abbrev QF0:IL:=[ja 5 0,⟨some 6,.val (.bin .num .and (.t 5) (.c (.int .u64 9218868437227405312))),none⟩,ja 7 0,⟨some 8,.val (.bin .num .and (.t 7) (.c (.int .u64 4503599627370495))),none⟩,ja 3 6,ja 4 8]
abbrev QF1:IL:=[ja 10 3,zz 11 10 9218868437227405312,ja 12 11,jg 13 4 12,⟨some 14,.val (.bin .num .neq (.t 13) (.c (.int .u64 0))),(some (12,true))⟩,jj 15 12 14,ja 9 15]
abbrev QF2:IL:=[jd 2 0]
abbrev QF3:IL:=[ja 17 3,zz 18 17 9218868437227405312,ja 16 18]
abbrev QF4:IL:=[jd 2 1]
abbrev QF5:IL:=[ja 20 3,zz 21 20 0,ja 22 21,jg 23 4 22,⟨some 24,.val (.bin .num .eql (.t 23) (.c (.int .u64 0))),(some (22,true))⟩,jj 25 22 24,ja 19 25]
abbrev QF6:IL:=[jd 2 2]
abbrev QF7:IL:=[ja 27 3,zz 28 27 0,ja 26 28]
abbrev QF8:IL:=[jd 2 3]
abbrev Qpz:IL:=[jd 2 4]
abbrev r77:RC:=jQ QFZ (.seq (jQ QF0 (.block 0 (jQ QF1 (.cond (.t 9) (jQ QF2 (.ret)) (jQ QF3 (.cond (.t 16) (jQ QF4 (.ret)) (jQ QF5 (.cond (.t 19) (jQ QF6 (.ret)) (jQ QF7 (.cond (.t 26) (jQ QF8 (.ret)) (.skip))))))))))) (jQ Qpz (.ret)))
abbrev o77:List RR:=[.tmp 2]
theorem k77:CT 77 29 r77 o77:=ck Tryz.func77 Tryz.ntmps77 (by decide +kernel)
abbrev QF9:IL:=[je 2 2 0,je 3 3 1,jd 4 0]
abbrev QGa:IL:=[jb 6 0 2,jc 7 6,jb 8 0 3,jc 9 8,zt 10 7 9]
abbrev QGb:IL:=[jb 11 0 2,jc 12 11,jb 13 0 3,jc 14 13,jy 15 131 12 14,ja 4 15]
abbrev QGc:IL:=[jb 16 0 2,jc 17 16]
abbrev QGd:IL:=[jt 19 17 11,ja 18 19]
abbrev QGe:IL:=[jb 20 3 2,jc 21 20,jb 22 3 3,jc 23 22,jy 24 132 21 23,ja 4 24]
abbrev QGf:IL:=[jt 26 17 12,ja 25 26]
abbrev QGg:IL:=[jb 27 4 2,jc 28 27,jb 29 4 3,jc 30 29,jy 31 133 28 30,ja 4 31]
abbrev QGh:IL:=[jt 33 17 10,ja 32 33]
abbrev QGi:IL:=[jb 34 5 2,jc 35 34,jb 36 5 3,jc 37 36,jy 38 134 35 37,ja 5 38]
abbrev QpA:IL:=[ja 39 5,yc 40 39 0]
abbrev QpB:IL:=[ja 41 5,ja 4 41]
abbrev QpC:IL:=[jb 42 6 2,jc 43 42,jb 44 6 3,jc 45 44,jy 46 135 43 45,ja 4 46]
abbrev QpD:IL:=[jf 47 7 2,jf 48 7 3,jy 49 136 47 48,ja 4 49]
abbrev r78:RC:=jQ QF9 (.seq (jQ QGa (.cond (.t 10) (jQ QGb (.ret)) (.skip))) (.seq (jQ QGc (.block 0 (jQ QGd (.cond (.t 18) (jQ QGe (.ret)) (jQ QGf (.cond (.t 25) (jQ QGg (.ret)) (jQ QGh (.cond (.t 32) (.seq (jQ QGi (jQ QpA (.cond (.t 40) (jQ QpB (.ret)) (.skip)))) (jQ QpC (.ret))) (.skip))))))))) (jQ QpD (.ret))))
abbrev o78:List RR:=[.tmp 4]
theorem k78:CT 78 50 r78 o78:=ck Tryz.func78 Tryz.ntmps78 (by decide +kernel)
abbrev QGj:IL:=[jd 2 0]
abbrev QGk:IL:=[ja 4 0,⟨some 5,.val (.bin .num .rem (.t 4) (.c (.int .u64 9223372036854775808))),none⟩,ja 3 5]
abbrev QGl:IL:=[ja 7 3,⟨some 8,.val (.bin .num .gtr (.t 7) (.c (.int .u64 9218868437227405312))),none⟩,ja 6 8]
abbrev QGm:IL:=[jd 2 0]
abbrev QGn:IL:=[ja 10 3,zz 11 10 9218868437227405312,ja 9 11]
abbrev QGo:IL:=[jd 2 1]
abbrev QGp:IL:=[ja 13 3,zz 14 13 0,ja 12 14]
abbrev QGq:IL:=[jd 2 2]
abbrev QGr:IL:=[ja 16 3,jbm 17 16 4503599627370496,ja 15 17]
abbrev QGs:IL:=[jd 2 3]
abbrev QpE:IL:=[jd 2 4]
abbrev r79:RC:=jQ QGj (jQ QGk (.seq (.block 0 (jQ QGl (.cond (.t 6) (jQ QGm (.ret)) (jQ QGn (.cond (.t 9) (jQ QGo (.ret)) (jQ QGp (.cond (.t 12) (jQ QGq (.ret)) (jQ QGr (.cond (.t 15) (jQ QGs (.ret)) (.skip)))))))))) (jQ QpE (.ret))))
abbrev o79:List RR:=[.tmp 2]
theorem k79:CT 79 18 r79 o79:=ck Tryz.func79 Tryz.ntmps79 (by decide +kernel)
abbrev QGt:IL:=[jh 2]
abbrev QGu:IL:=[ja 3 0,ym 4 3 1,ja 5 4,jg 6 0 5,zf 7 6 9 5,jj 8 5 7,ja 2 8]
abbrev r80:RC:=jQ QGt (jQ QGu (.ret))
abbrev o80:List RR:=[.tmp 2]
theorem k80:CT 80 9 r80 o80:=ck Tryz.func80 Tryz.ntmps80 (by decide +kernel)
abbrev QGv:IL:=[je 1 1 0,jh 2]
abbrev QGw:IL:=[jb 3 3 1,jc 4 3,ji 5 1 4,jt 6 5 0,ja 7 6,jk 8 4 1 7,ju 9 8 7,ys 10 1 9 7,yl 11 10 0 7,jj 12 7 11,ja 13 12,jk 14 5 1 13,ju 15 14 13,ys 16 1 15 13,yl 17 16 0 13,jj 18 13 17,ja 19 18,jk 20 6 1 19,ju 21 20 19,ys 22 1 21 19,yl 23 22 0 19,jj 24 19 23,ja 2 24]
abbrev r81:RC:=jQ QGv (jQ QGw (.ret))
abbrev o81:List RR:=[.tmp 2]
theorem k81:CT 81 25 r81 o81:=ck Tryz.func81 Tryz.ntmps81 (by decide +kernel)
abbrev QGx:IL:=[je 2 2 0,jh 3]
abbrev QGy:IL:=[jb 4 0 2,jc 5 4,jb 6 0 1,jc 7 6,zq 8 5 7,ja 3 8]
abbrev r92:RC:=jQ QGx (jQ QGy (.ret))
abbrev o92:List RR:=[.tmp 3]
theorem k92:CT 92 9 r92 o92:=ck Tryz.func92 Tryz.ntmps92 (by decide +kernel)
def TL:IL:=[je 3 3 0,je 4 4 1,je 5 5 2,jd 6 0]
def TM:IL:=[jb 11 1 5,jc 12 11,⟨some 13,.val (.bin .num .leq (.t 12) (.c (.int .i64 2))),none⟩,ja 7 13]
def TN:IL:=[jf 15 3 4,jb 16 0 5,jc 17 16,jy 18 66 15 17,ja 14 18,jx 19 14 0,jx 20 14 1,zd 8 8,jq 8 8 19,ja 9 20]
def YP:IL:=[jb 21 5 8,jc 22 21,jt 23 22 9,ja 24 23,jk 25 3 8 24,ju 26 25 24,zs 27 26 5 24,jj 28 24 27,ja 29 28,jk 30 1 5 29,ju 31 30 29,yl 32 31 0 29,jj 33 29 32,ja 34 33,jk 35 2 5 34,ju 36 35 34,⟨some 37,.val (.bin .num .leq (.t 36) (.c (.int .u64 2147483647))),(some (34,true))⟩,jj 38 34 37,ja 39 38,jk 40 0 3 39,zn 41 2 40 39,jk 42 6 8 39,ju 43 42 39,jk 44 2 5 39,ju 45 44 39,SO 46 183 41 43 45 39,yy 47 46 39,jj 48 39 47,ja 10 48]
def TO:IL:=[jb 50 0 5,jc 51 50,yu 52 51 1,ja 53 52,jo 54 0 5 53,js 55 54 53,yk 56 55 65535 53,jn 57 53 56,ja 58 57,jo 59 1 5 58,js 60 59 58,N3 61 60 0 58,jn 62 58 61,ja 63 62,jo 64 1 5 63,js 65 64 63,yk 66 65 6 63,jn 67 63 66,ja 49 67]
def GH:IL:=[jd 6 1]
def TP:IL:=[ja 69 7,ja 70 69,jk 71 3 5 70,ju 72 71 70,⟨some 73,.val (.bin .str .neq (.t 72) (.c (.str []))),(some (70,true))⟩,jj 74 70 73,ja 75 74,jv 76 7 75,za 77 76 75,jv 78 77 75,jk 79 2 5 78,ju 80 79 78,⟨some 81,.val (.bin .num .neq (.t 80) (.c (.int .u64 0))),(some (78,true))⟩,yx 82 78 81 75,jn 83 75 82,ja 84 83,jv 85 9 84,jv 86 85 84,jg 87 10 86,yy 88 87 86,yx 89 86 88 84,jn 90 84 89,ja 68 90]
def GI:IL:=[jd 6 1]
def Cu:IL:=[jb 92 1 5,jc 93 92,jt 94 93 3,ja 95 94,jk 96 3 5 95,ju 97 96 95,ys 98 0 97 95,Bh 99 98 4096 95,jj 100 95 99,ja 101 100,jo 102 3 5 101,js 103 102 101,ye 104 0 103 101,yk 105 104 65536 101,jn 106 101 105,ja 91 106]
def Cv:IL:=[jd 6 3]
def Bv:IL:=[jd 6 0]
def r93:RC:=jQ TL (jQ TM (jQ TN (jQ YP (.seq (.block 0 (jQ TO (.cond (.t 49) (jQ GH (.ret)) (jQ TP (.cond (.t 68) (jQ GI (.ret)) (jQ Cu (.cond (.t 91) (jQ Cv (.ret)) (.skip)))))))) (jQ Bv (.ret))))))
def o93:List RR:=[.tmp 6]
theorem k93:CT 93 107 r93 o93:=ck Tryz.func93 Tryz.ntmps93 (by decide +kernel)
abbrev QpF:IL:=[je 2 2 0,je 3 3 1,jd 4 0]
abbrev QpG:IL:=[jb 5 0 2,jc 6 5,jb 7 0 3,jc 8 7,jy 9 101 6 8,ja 4 9]
abbrev QJ7:RC:=jQ QpF (jQ QpG (.ret))
abbrev QJ8:List RR:=[.tmp 4]
theorem QJ9:CT 100 10 QJ7 QJ8:=ck Tryz.func100 Tryz.ntmps100 (by decide +kernel)
abbrev QpH:IL:=[yw 2]
abbrev QpI:IL:=[⟨some 5,.mk 5 5 1 1 [.int .u8 0] (.c (.int .i64 8)) (.c (.int .i64 8)),none⟩,ja 3 5]
abbrev QpJ:IL:=[ja 6 3,ji 7 1 6,jd 8 0]
abbrev QpK:IL:=[jp 9 8 7]
abbrev QpL:IL:=[ja 10 8,ja 4 10]
abbrev QpM:IL:=[ja 11 3,ja 12 4,ja 13 0,ja 14 4,MX 15 8 14,⟨some 16,.val (.bin .num .shr (.t 13) (.t 15)),none⟩,⟨some 17,.val (.cvi .u8 (.t 16)),none⟩,jl 18 1 11 12,jq 1 18 17]
abbrev QpN:IL:=[jm 19 8 1,ja 8 19]
abbrev QpO:RC:=jQ QpK (.seq (jX 9 0) (.seq (.block 1 (jQ QpL (.reg QpM))) (.reg QpN)))
abbrev QpP:IL:=[ja 20 3,⟨some 21,.val (.b2s (.t 20)),none⟩,ja 2 21]
abbrev QKa:RC:=jQ QpH (jQ QpI (.seq (jQ QpJ (.block 0 (.loop QpO))) (jQ QpP (.ret))))
abbrev QKb:List RR:=[.tmp 2]
theorem QKc:CT 105 22 QKa QKb:=ck Tryz.func105 Tryz.ntmps105 (by decide +kernel)
abbrev QpQ:IL:=[je 3 3 0,je 4 4 1,je 5 5 2,yf 6]
abbrev QpR:IL:=[yf 7]
abbrev QpS:IL:=[jb 11 4 5,jc 12 11,ji 13 1 12,jd 14 0]
abbrev QpT:IL:=[jp 15 14 13]
abbrev QpU:IL:=[jl 16 14 12 14,jf 17 14 16,MV 9 9,jq 14 9 17]
abbrev QpV:IL:=[jb 18 0 9,jw 19 0 9 7 18,jr 20 23 19,⟨some 21,.call (.f 197) [(.c (.int .i64 1)),(.t 20)],none⟩,jw 22 0 3 2 3,jw 23 0 4 8 4,jb 24 7 9,jw 25 0 9 7 24,yh 26 198 22 23 25,⟨some 27,.call (.f 197) [(.c (.int .i64 2)),(.t 26)],none⟩,⟨some 28,.bsl 4 2 [.int .i64 0,.int .i64 0,.int .u64 0,.str []] [(0,4,(.t 21)),(4,4,(.t 27))],none⟩,ja 10 28]
abbrev QpW:IL:=[ja 29 7,jb 30 0 4,yb 31 0 4 30,ja 32 10,jr 33 61 32,⟨some 34,.val (.build [.int .i64 0,.int .i64 0,.int .u64 0,.str []] [(0,1,(.t 31)),(1,1,(.c (.int .i64 6))),(3,1,(.t 33))]),none⟩,MP 35 4 1 0 4 34,yr 36 4 40 53 29 35,ja 7 36]
abbrev QpX:IL:=[jm 37 14 1,ja 14 37]
abbrev QpY:RC:=.gho (.drop 9) (jQ QpT (.seq (jX 15 0) (.seq (.block 1 (jQ QpU (jD QpV (.draw QpW)))) (.reg QpX))))
abbrev QpZ:IL:=[ja 38 7,ja 6 38]
abbrev QKd:RC:=jQ QpQ (jQ QpR (.gho (.vec 7 7 4) (.seq (jQ QpS (.block 0 (.loop QpY))) (jQ QpZ (.ret)))))
abbrev QKe:List RR:=[.tmp 6]
theorem QKf:CT 115 39 QKd QKe:=ck Tryz.func115 Tryz.ntmps115 (by decide +kernel)
abbrev Qp0:IL:=[je 3 3 0,je 4 4 1,je 5 5 2,yf 6]
abbrev Qp1:IL:=[yf 7]
abbrev Qp2:IL:=[jb 10 3 5,jc 11 10,ji 12 1 11,jd 13 0]
abbrev Qp3:IL:=[jp 14 13 12]
abbrev Qp4:IL:=[jl 15 7 11 13,jf 16 7 15,yn 9 9,jq 7 9 16]
abbrev Qp5:IL:=[ja 17 7,jb 18 0 4,yb 19 0 4 18,jw 20 0 3 2 3,jw 21 0 4 8 4,jw 22 0 9 7 9,yh 23 198 20 21 22,jy 24 197 19 23,MP 25 4 1 0 4 24,yr 26 4 40 53 17 25,ja 7 26]
abbrev Qp6:IL:=[jm 27 13 1,ja 13 27]
abbrev Qp7:RC:=.gho (.drop 9) (jQ Qp3 (.seq (jX 14 0) (.seq (.block 1 (jQ Qp4 (.draw Qp5))) (.reg Qp6))))
abbrev Qp8:IL:=[ja 28 7,ja 6 28]
abbrev QKg:RC:=jQ Qp0 (jQ Qp1 (.gho (.vec 7 7 4) (.seq (jQ Qp2 (.block 0 (.loop Qp7))) (jQ Qp8 (.ret)))))
abbrev QKh:List RR:=[.tmp 6]
theorem QKi:CT 118 29 QKg QKh:=ck Tryz.func118 Tryz.ntmps118 (by decide +kernel)
abbrev Qp9:IL:=[jh 2]
abbrev Qqa:IL:=[ja 5 0,ji 6 0 5,yp 7 6 120]
abbrev Qqb:IL:=[jh 2]
abbrev Qqc:IL:=[yw 3]
abbrev Qqd:IL:=[jd 4 0]
abbrev Qqe:IL:=[ja 8 4,ja 9 0,ji 10 0 9,jp 11 8 10]
abbrev Qqf:IL:=[ja 14 0,ja 15 4,N6 16 14 15,⟨some 17,.val (.bin .num .neq (.t 16) (.c (.int .u8 46))),none⟩]
abbrev Qqg:IL:=[ja 18 3,ja 19 0,ja 20 4,ja 21 4,jm 22 21 1,⟨some 23,.val (.slc none (.t 19) (some (.t 20)) (some (.t 22)) none),none⟩,⟨some 24,.val (.bin .str .add (.t 18) (.t 23)),none⟩,ja 3 24]
abbrev Qqh:IL:=[ja 25 3,jr 26 123 25,jz 27 26]
abbrev IZ:IL:=[jh 2]
abbrev I0:IL:=[yw 3]
abbrev Qqi:IL:=[ja 12 4,jm 13 12 1,ja 4 13]
abbrev Qqj:RC:=.seq (jQ Qqe (jX 11 0)) (.seq (.block 1 (.seq (jQ Qqf (.cond (.t 17) (jQ Qqg (.exit 1)) (.skip))) (.seq (jQ Qqh (.cond (.t 27) (jQ IZ (.ret)) (.skip))) (.reg I0)))) (.reg Qqi))
abbrev I3:IL:=[ja 28 3,jr 29 123 28,ja 2 29]
abbrev QKj:RC:=jQ Qp9 (.seq (jQ Qqa (.cond (.t 7) (jQ Qqb (.ret)) (.skip))) (jQ Qqc (.seq (jQ Qqd (.block 0 (.loop Qqj))) (jQ I3 (.ret)))))
abbrev QKk:List RR:=[.tmp 2]
theorem QKl:CT 120 30 QKj QKk:=ck Tryz.func120 Tryz.ntmps120 (by decide +kernel)
abbrev Qqk:IL:=[yw 2,yw 3]
abbrev Qql:IL:=[ja 5 0,ji 6 0 5,zi 7 6 1,ja 4 7]
abbrev Qqm:IL:=[ja 8 4,ym 9 8 0]
abbrev Qqn:IL:=[ja 12 0,ja 13 4,N6 14 12 13,M0 15 14 46]
abbrev Qqo:IL:=[ja 16 0,ja 17 4,⟨some 18,.val (.slc none (.t 16) none (some (.t 17)) none),none⟩,ja 19 0,ja 20 4,jm 21 20 1,MY 22 19 21,ja 2 18,ja 3 22]
abbrev Qqp:IL:=[ja 10 4,zi 11 10 1,ja 4 11]
abbrev Qqq:RC:=.seq (jQ Qqm (jX 9 0)) (.seq (.block 1 (jQ Qqn (.cond (.t 15) (jD Qqo (.ret)) (.skip)))) (.reg Qqp))
abbrev Qqr:IL:=[ja 23 0,yw 2,ja 3 23]
abbrev QKm:RC:=jQ Qqk (.seq (jQ Qql (.block 0 (.loop Qqq))) (jQ Qqr (.ret)))
abbrev QKn:List RR:=[.tmp 2,.tmp 3]
theorem QKo:CT 121 24 QKm QKn:=ck Tryz.func121 Tryz.ntmps121 (by decide +kernel)
abbrev Qqs:IL:=[jh 2]
abbrev Qqt:IL:=[ja 3 0]
abbrev Qqu:IL:=[⟨some 5,.val (.bin .str .eql (.t 3) (.c (.str [109,101,115,115,97,103,101]))),none⟩,ja 4 5]
abbrev Qqv:IL:=[⟨some 6,.val (.bin .str .eql (.t 3) (.c (.str [101,110,117,109]))),none⟩,ja 4 6]
abbrev Qqw:IL:=[⟨some 7,.val (.bin .str .eql (.t 3) (.c (.str [115,101,114,118,105,99,101]))),none⟩,ja 4 7]
abbrev Qqx:IL:=[⟨some 8,.val (.bin .str .eql (.t 3) (.c (.str [117,110,105,111,110]))),none⟩,ja 4 8]
abbrev Qqy:IL:=[⟨some 9,.val (.bin .str .eql (.t 3) (.c (.str [109,97,112]))),none⟩,ja 4 9]
abbrev Qqz:IL:=[⟨some 10,.val (.bin .str .eql (.t 3) (.c (.str [108,105,115,116]))),none⟩,ja 4 10]
abbrev QqA:IL:=[⟨some 11,.val (.bin .str .eql (.t 3) (.c (.str [114,101,113,117,105,114,101,100]))),none⟩,ja 4 11]
abbrev QqB:IL:=[⟨some 12,.val (.bin .str .eql (.t 3) (.c (.str [111,112,116,105,111,110,97,108]))),none⟩,ja 4 12]
abbrev I4:IL:=[⟨some 13,.val (.bin .str .eql (.t 3) (.c (.str [112,108,97,105,110]))),none⟩,ja 4 13]
abbrev I5:IL:=[⟨some 14,.val (.bin .str .eql (.t 3) (.c (.str [100,101,102,97,117,108,116]))),none⟩,ja 4 14]
abbrev I6:IL:=[⟨some 15,.val (.bin .str .eql (.t 3) (.c (.str [114,101,115,101,114,118,101,100]))),none⟩,ja 4 15]
abbrev I7:IL:=[⟨some 16,.val (.bin .str .eql (.t 3) (.c (.str [105,109,112,111,114,116]))),none⟩,ja 4 16]
abbrev I8:IL:=[⟨some 17,.val (.bin .str .eql (.t 3) (.c (.str [115,112,97,99,101]))),none⟩,ja 4 17]
abbrev I9:IL:=[⟨some 18,.val (.bin .str .eql (.t 3) (.c (.str [114,112,99]))),none⟩,ja 4 18]
abbrev La:IL:=[⟨some 19,.val (.bin .str .eql (.t 3) (.c (.str [115,116,114,101,97,109]))),none⟩,ja 4 19]
abbrev Lb:IL:=[⟨some 20,.val (.bin .str .eql (.t 3) (.c (.str [114,101,116,117,114,110,115]))),none⟩,ja 4 20]
abbrev Lc:IL:=[⟨some 21,.val (.bin .str .eql (.t 3) (.c (.str [111,112,101,110]))),none⟩,ja 4 21]
abbrev Ld:IL:=[⟨some 22,.val (.bin .str .eql (.t 3) (.c (.str [116,114,117,101]))),none⟩,ja 4 22]
abbrev Le:IL:=[⟨some 23,.val (.bin .str .eql (.t 3) (.c (.str [102,97,108,115,101]))),none⟩,ja 4 23]
abbrev Lf:IL:=[⟨some 24,.val (.bin .str .eql (.t 3) (.c (.str [110,97,110]))),none⟩,ja 4 24]
abbrev Lg:IL:=[⟨some 25,.val (.bin .str .eql (.t 3) (.c (.str [105,110,102]))),none⟩,ja 4 25]
abbrev Lh:IL:=[yj 2]
abbrev Li:IL:=[jh 2]
abbrev QKp:RC:=jQ Qqs (.seq (jQ Qqt (.block 0 (.seq (jQ Qqu (.cond (.t 4) (.skip) (jQ Qqv (.cond (.t 4) (.skip) (jQ Qqw (.cond (.t 4) (.skip) (jQ Qqx (.cond (.t 4) (.skip) (jQ Qqy (.cond (.t 4) (.skip) (jQ Qqz (.cond (.t 4) (.skip) (jQ QqA (.cond (.t 4) (.skip) (jQ QqB (.cond (.t 4) (.skip) (jQ I4 (.cond (.t 4) (.skip) (jQ I5 (.cond (.t 4) (.skip) (jQ I6 (.cond (.t 4) (.skip) (jQ I7 (.cond (.t 4) (.skip) (jQ I8 (.cond (.t 4) (.skip) (jQ I9 (.cond (.t 4) (.skip) (jQ La (.cond (.t 4) (.skip) (jQ Lb (.cond (.t 4) (.skip) (jQ Lc (.cond (.t 4) (.skip) (jQ Ld (.cond (.t 4) (.skip) (jQ Le (.cond (.t 4) (.skip) (jQ Lf (.cond (.t 4) (.skip) (.reg Lg))))))))))))))))))))))))))))))))))))))))) (.cond (.t 4) (jQ Lh (.ret)) (.skip))))) (jQ Li (.ret)))
abbrev QKq:List RR:=[.tmp 2]
theorem QKr:CT 122 26 QKp QKq:=ck Tryz.func122 Tryz.ntmps122 (by decide +kernel)
abbrev QqC:IL:=[jh 2]
abbrev QqD:IL:=[ja 4 0,ji 5 0 4,jt 6 5 0,ja 7 6,jv 8 0 7,ye 9 0 8 7,yk 10 9 40 7,jn 11 7 10,ja 12 11,jv 13 0 12,⟨some 14,.val (.idx (.t 13) (.c (.int .i64 0))),(some (12,false))⟩,ze 15 200 14 12,za 16 15 12,jv 17 16 12,jg 18 0 17,⟨some 19,.val (.idx (.t 18) (.c (.int .i64 0))),(some (17,true))⟩,zh 20 201 19 17,yy 21 20 17,yx 22 17 21 12,jn 23 12 22]
abbrev QqE:IL:=[jh 2]
abbrev QqF:IL:=[jd 3 1]
abbrev QqG:IL:=[ja 24 3,ja 25 0,ji 26 0 25,jp 27 24 26]
abbrev QqH:IL:=[ja 30 0,ja 31 3,N6 32 30 31,jr 33 200 32,jz 34 33,ja 35 34,jg 36 0 35,jg 37 3 35,M1 38 36 37 35,zh 39 201 38 35,yy 40 39 35,jj 41 35 40,ja 42 41,jg 43 0 42,jg 44 3 42,M1 45 43 44 42,⟨some 46,.val (.bin .num .neq (.t 45) (.c (.int .u8 95))),(some (42,true))⟩,jj 47 42 46,ja 48 47,jg 49 0 48,jg 50 3 48,M1 51 49 50 48,⟨some 52,.val (.bin .num .lss (.t 51) (.c (.int .u8 48))),(some (48,true))⟩,jg 53 52 48,jv 54 0 53,jv 55 3 53,⟨some 56,.val (.idx (.t 54) (.t 55)),(some (53,false))⟩,⟨some 57,.val (.bin .num .gtr (.t 56) (.c (.int .u8 57))),(some (53,false))⟩,zg 58 53 57 48,jj 59 48 58]
abbrev QqI:IL:=[jh 2]
abbrev QqJ:IL:=[ja 28 3,jm 29 28 1,ja 3 29]
abbrev Pf:RC:=.seq (jQ QqG (jX 27 0)) (.seq (.block 1 (jQ QqH (.cond (.t 59) (jQ QqI (.ret)) (.skip)))) (.reg QqJ))
abbrev QqK:IL:=[yj 2]
abbrev QKs:RC:=jQ QqC (.seq (jQ QqD (.cond (.t 23) (jQ QqE (.ret)) (.skip))) (.seq (jQ QqF (.block 0 (.loop Pf))) (jQ QqK (.ret))))
abbrev QKt:List RR:=[.tmp 2]
theorem QKu:CT 123 60 QKs QKt:=ck Tryz.func123 Tryz.ntmps123 (by decide +kernel)
abbrev QqL:IL:=[jd 2 0]
abbrev QqM:IL:=[ja 3 0]
abbrev QqN:IL:=[⟨some 5,.val (.bin .str .eql (.t 3) (.c (.str [100,101,112,114,101,99,97,116,101,100]))),none⟩,ja 4 5]
abbrev QqO:IL:=[⟨some 6,.val (.bin .str .eql (.t 3) (.c (.str [115,101,99,114,101,116]))),none⟩,ja 4 6]
abbrev QqP:IL:=[⟨some 7,.val (.bin .str .eql (.t 3) (.c (.str [105,100,101,109,112,111,116,101,110,116]))),none⟩,ja 4 7]
abbrev QqQ:IL:=[jd 2 1]
abbrev QqR:IL:=[⟨some 9,.val (.bin .str .eql (.t 3) (.c (.str [100,111,99]))),none⟩,ja 8 9]
abbrev QqS:IL:=[⟨some 10,.val (.bin .str .eql (.t 3) (.c (.str [97,108,105,97,115]))),none⟩,ja 8 10]
abbrev QqT:IL:=[⟨some 11,.val (.bin .str .eql (.t 3) (.c (.str [114,111,117,116,101]))),none⟩,ja 8 11]
abbrev QqU:IL:=[⟨some 12,.val (.bin .str .eql (.t 3) (.c (.str [111,119,110,101,114]))),none⟩,ja 8 12]
abbrev Lj:IL:=[jd 2 7]
abbrev Lk:IL:=[⟨some 14,.val (.bin .str .eql (.t 3) (.c (.str [115,105,110,99,101]))),none⟩,ja 13 14]
abbrev Ll:IL:=[⟨some 15,.val (.bin .str .eql (.t 3) (.c (.str [117,110,116,105,108]))),none⟩,ja 13 15]
abbrev Lm:IL:=[⟨some 16,.val (.bin .str .eql (.t 3) (.c (.str [108,101,110,103,116,104]))),none⟩,ja 13 16]
abbrev Ln:IL:=[⟨some 17,.val (.bin .str .eql (.t 3) (.c (.str [116,105,109,101,111,117,116]))),none⟩,ja 13 17]
abbrev Lo:IL:=[jd 2 4]
abbrev Lp:IL:=[⟨some 19,.val (.bin .str .eql (.t 3) (.c (.str [109,105,110]))),none⟩,ja 18 19]
abbrev Lq:IL:=[⟨some 20,.val (.bin .str .eql (.t 3) (.c (.str [109,97,120]))),none⟩,ja 18 20]
abbrev Lr:IL:=[jd 2 3]
abbrev Ls:IL:=[jd 2 0]
abbrev QKv:RC:=jQ QqL (.seq (jQ QqM (.block 0 (.seq (jQ QqN (.cond (.t 4) (.skip) (jQ QqO (.cond (.t 4) (.skip) (.reg QqP))))) (.cond (.t 4) (jQ QqQ (.ret)) (.seq (jQ QqR (.cond (.t 8) (.skip) (jQ QqS (.cond (.t 8) (.skip) (jQ QqT (.cond (.t 8) (.skip) (.reg QqU))))))) (.cond (.t 8) (jQ Lj (.ret)) (.seq (jQ Lk (.cond (.t 13) (.skip) (jQ Ll (.cond (.t 13) (.skip) (jQ Lm (.cond (.t 13) (.skip) (.reg Ln))))))) (.cond (.t 13) (jQ Lo (.ret)) (.seq (jQ Lp (.cond (.t 18) (.skip) (.reg Lq))) (.cond (.t 18) (jQ Lr (.ret)) (.skip))))))))))) (jQ Ls (.ret)))
abbrev QKw:List RR:=[.tmp 2]
theorem QKx:CT 124 21 QKv QKw:=ck Tryz.func124 Tryz.ntmps124 (by decide +kernel)
abbrev QqV:IL:=[jh 4]
abbrev QqW:IL:=[ja 5 0]
abbrev QqX:IL:=[⟨some 7,.val (.bin .str .eql (.t 5) (.c (.str [100,101,112,114,101,99,97,116,101,100]))),none⟩,ja 6 7]
abbrev QqY:IL:=[⟨some 8,.val (.bin .str .eql (.t 5) (.c (.str [100,111,99]))),none⟩,ja 6 8]
abbrev QqZ:IL:=[ja 9 1,ym 10 9 1,ja 11 10,jg 12 1 11,zf 13 12 6 11,jj 14 11 13,ja 4 14]
abbrev Qq0:IL:=[⟨some 16,.val (.bin .str .eql (.t 5) (.c (.str [97,108,105,97,115]))),none⟩,ja 15 16]
abbrev Qq1:IL:=[⟨some 17,.val (.bin .str .eql (.t 5) (.c (.str [115,105,110,99,101]))),none⟩,ja 15 17]
abbrev Qq2:IL:=[⟨some 18,.val (.bin .str .eql (.t 5) (.c (.str [117,110,116,105,108]))),none⟩,ja 15 18]
abbrev Qq3:IL:=[ja 19 1,jt 20 19 2,ja 21 20,jv 22 1 21,yt 23 22 4 21,jn 24 21 23,ja 25 24,jv 26 1 25,yt 27 26 6 25,jn 28 25 27,ja 4 28]
abbrev Qq4:IL:=[⟨some 30,.val (.bin .str .eql (.t 5) (.c (.str [109,105,110]))),none⟩,ja 29 30]
abbrev Lt:IL:=[⟨some 31,.val (.bin .str .eql (.t 5) (.c (.str [109,97,120]))),none⟩,ja 29 31]
abbrev Lu:IL:=[⟨some 32,.val (.bin .str .eql (.t 5) (.c (.str [108,101,110,103,116,104]))),none⟩,ja 29 32]
abbrev Lv:IL:=[⟨some 33,.val (.bin .str .eql (.t 5) (.c (.str [115,101,99,114,101,116]))),none⟩,ja 29 33]
abbrev Lw:IL:=[ja 34 1,jt 35 34 2,ja 4 35]
abbrev Lx:IL:=[⟨some 37,.val (.bin .str .eql (.t 5) (.c (.str [105,100,101,109,112,111,116,101,110,116]))),none⟩,ja 36 37]
abbrev Ly:IL:=[⟨some 38,.val (.bin .str .eql (.t 5) (.c (.str [116,105,109,101,111,117,116]))),none⟩,ja 36 38]
abbrev Lz:IL:=[⟨some 39,.val (.bin .str .eql (.t 5) (.c (.str [114,111,117,116,101]))),none⟩,ja 36 39]
abbrev LA:IL:=[ja 40 1,jt 41 40 6,ja 4 41]
abbrev LB:IL:=[ja 42 1,jt 43 42 1,ja 44 43,jv 45 1 44,yt 46 45 5 44,jn 47 44 46,ja 4 47]
abbrev QKy:RC:=jQ QqV (.seq (jQ QqW (.block 0 (.seq (jQ QqX (.cond (.t 6) (.skip) (.reg QqY))) (.cond (.t 6) (jQ QqZ (.ret)) (.seq (jQ Qq0 (.cond (.t 15) (.skip) (jQ Qq1 (.cond (.t 15) (.skip) (.reg Qq2))))) (.cond (.t 15) (jQ Qq3 (.ret)) (.seq (jQ Qq4 (.cond (.t 29) (.skip) (jQ Lt (.cond (.t 29) (.skip) (jQ Lu (.cond (.t 29) (.skip) (.reg Lv))))))) (.cond (.t 29) (jQ Lw (.ret)) (.seq (jQ Lx (.cond (.t 36) (.skip) (jQ Ly (.cond (.t 36) (.skip) (.reg Lz))))) (.cond (.t 36) (jQ LA (.ret)) (.skip))))))))))) (jQ LB (.ret)))
abbrev QKz:List RR:=[.tmp 4]
theorem QKA:CT 125 48 QKy QKz:=ck Tryz.func125 Tryz.ntmps125 (by decide +kernel)
abbrev Qq5:IL:=[je 1 1 0,jh 2]
abbrev Qq6:IL:=[jb 4 0 1,jc 5 4,jr 6 124 5,ja 3 6]
abbrev Qq7:IL:=[ja 7 3,yc 8 7 0,ja 9 8,jk 10 1 1 9,jk 11 0 10 9,ju 12 11 9,jg 13 3 9,⟨some 14,.val (.bin .num .eql (.t 12) (.t 13)),(some (9,true))⟩,jj 15 9 14,ja 16 15,jg 17 3 16,jk 18 1 1 16,zn 19 7 18 16,D7 20 202 17 19 16,jj 21 16 20,ja 2 21]
abbrev QKB:RC:=jQ Qq5 (jQ Qq6 (jQ Qq7 (.ret)))
abbrev QKC:List RR:=[.tmp 2]
theorem QKD:CT 126 22 QKB QKC:=ck Tryz.func126 Tryz.ntmps126 (by decide +kernel)
abbrev Qq8:IL:=[jh 2]
abbrev Qq9:IL:=[ja 3 0,jr 4 203 3,yu 5 4 0,ja 2 5]
abbrev QKE:RC:=jQ Qq8 (jQ Qq9 (.ret))
abbrev QKF:List RR:=[.tmp 2]
theorem QKG:CT 127 6 QKE QKF:=ck Tryz.func127 Tryz.ntmps127 (by decide +kernel)
abbrev Qra:IL:=[je 2 2 0,je 3 3 1,jh 4]
abbrev Qrb:IL:=[jb 5 5 3,jc 6 5]
abbrev Qrc:IL:=[jt 8 6 10,ja 7 8]
abbrev Qrd:IL:=[jb 9 6 3,jc 10 9,ym 11 10 0,ja 12 11,jk 13 6 3 12,ju 14 13 12,jk 15 0 2 12,ju 16 15 12,ys 17 1 16 12,D8 18 14 17 12,jj 19 12 18,ja 20 19,jk 21 3 3 20,ju 22 21 20,zs 23 22 3 20,jj 24 20 23,ja 4 24]
abbrev Qre:IL:=[jt 26 6 9,ja 25 26]
abbrev Qrf:IL:=[jb 27 6 3,jc 28 27,ym 29 28 0,ja 30 29,jk 31 6 3 30,ju 32 31 30,jk 33 1 2 30,ju 34 33 30,ys 35 1 34 30,D8 36 32 35 30,jj 37 30 36,ja 4 37]
abbrev Qrg:IL:=[jb 38 6 3,jc 39 38,jt 40 39 (-1),ja 4 40]
abbrev QKH:RC:=jQ Qra (.seq (jQ Qrb (.block 0 (jQ Qrc (.cond (.t 7) (jQ Qrd (.ret)) (jQ Qre (.cond (.t 25) (jQ Qrf (.ret)) (.skip))))))) (jQ Qrg (.ret)))
abbrev QKI:List RR:=[.tmp 4]
theorem QKJ:CT 128 41 QKH QKI:=ck Tryz.func128 Tryz.ntmps128 (by decide +kernel)
abbrev Qrh:IL:=[je 4 4 0,je 7 7 3,jd 8 0]
abbrev Qri:IL:=[jb 10 0 7,jc 11 10,ja 12 1,zt 13 11 12,ja 14 13,yv 15 7 7 14,ze 16 43 15 14,jn 17 14 16,ja 9 17]
abbrev Qrj:IL:=[jd 8 12]
abbrev Qrk:IL:=[jb 19 2 7,jc 20 19,ji 21 0 20,yp 22 21 4096,ja 18 22]
abbrev Qrl:IL:=[jd 8 3]
abbrev Qrm:IL:=[ja 24 1,jt 25 24 7,ja 26 25,jk 27 2 7 26,ju 28 27 26,zh 29 127 28 26,yy 30 29 26,jj 31 26 30,ja 23 31]
abbrev Qrn:IL:=[jd 8 7]
abbrev Qro:IL:=[ja 33 1,jf 34 7 7,jy 35 202 33 34,jz 36 35,ja 32 36]
abbrev Qrp:IL:=[jd 8 12]
abbrev Qrq:IL:=[ja 38 1,jt 39 38 9,ja 40 39,zn 41 2 4 40,jg 42 2 40,jk 43 1 7 40,ju 44 43 40,SO 45 76 41 42 44 40,yy 46 45 40,jj 47 40 46,ja 37 47]
abbrev LC:IL:=[jd 8 16]
abbrev LD:IL:=[jd 8 0]
abbrev QKK:RC:=jQ Qrh (.seq (.block 0 (jQ Qri (.cond (.t 9) (jQ Qrj (.ret)) (jQ Qrk (.cond (.t 18) (jQ Qrl (.ret)) (jQ Qrm (.cond (.t 23) (jQ Qrn (.ret)) (jQ Qro (.cond (.t 32) (jQ Qrp (.ret)) (jQ Qrq (.cond (.t 37) (jQ LC (.ret)) (.skip)))))))))))) (jQ LD (.ret)))
abbrev QKL:List RR:=[.tmp 8]
theorem QKM:CT 129 48 QKK QKL:=ck Tryz.func129 Tryz.ntmps129 (by decide +kernel)
abbrev Qrr:IL:=[je 2 2 0,je 3 3 1,jh 4]
abbrev Qrs:IL:=[jf 5 7 2,jf 6 7 3,jy 7 78 5 6,jt 8 7 0,ja 4 8]
abbrev QKN:RC:=jQ Qrr (jQ Qrs (.ret))
abbrev QKO:List RR:=[.tmp 4]
theorem QKP:CT 130 9 QKN QKO:=ck Tryz.func130 Tryz.ntmps130 (by decide +kernel)
abbrev Qrt:IL:=[je 2 2 0,je 3 3 1,jd 4 0]
abbrev Qru:IL:=[jb 6 0 2,jc 7 6,jb 8 0 3,jc 9 8,jp 10 7 9,ja 5 10]
abbrev Qrv:IL:=[jd 4 (-1)]
abbrev Qrw:IL:=[jb 12 0 2,jc 13 12,jb 14 0 3,jc 15 14,zy 16 13 15,ja 11 16]
abbrev Qrx:IL:=[jd 4 1]
abbrev Qry:IL:=[jb 18 0 2,jc 19 18,jr 20 80 19,jz 21 20,ja 17 21]
abbrev Qrz:IL:=[jd 4 0]
abbrev QrA:IL:=[jb 23 0 2,jc 24 23,jr 25 205 24,ja 26 25,jk 27 2 2 26,ju 28 27 26,jk 29 2 3 26,ju 30 29 26,⟨some 31,.val (.bin .str .lss (.t 28) (.t 30)),(some (26,true))⟩,jj 32 26 31,ja 22 32]
abbrev QrB:IL:=[jd 4 (-1)]
abbrev QrC:IL:=[jb 34 0 2,jc 35 34,jr 36 205 35,ja 37 36,jk 38 2 2 37,ju 39 38 37,jk 40 2 3 37,ju 41 40 37,⟨some 42,.val (.bin .str .gtr (.t 39) (.t 41)),(some (37,true))⟩,jj 43 37 42,ja 33 43]
abbrev LF:IL:=[jd 4 1]
abbrev LG:IL:=[jb 45 0 2,jc 46 45,jr 47 205 46,ja 44 47]
abbrev LH:IL:=[jd 4 0]
abbrev LI:IL:=[jw 49 0 2 7 2,jr 50 206 49,jw 51 0 3 7 3,jr 52 206 51,jp 53 50 52,ja 48 53]
abbrev LJ:IL:=[jd 4 (-1)]
abbrev LK:IL:=[jw 55 0 2 7 2,jr 56 206 55,jw 57 0 3 7 3,jr 58 206 57,zy 59 56 58,ja 54 59]
abbrev LL:IL:=[jd 4 1]
abbrev LM:IL:=[jd 4 0]
abbrev QKQ:RC:=jQ Qrt (.seq (.block 0 (jQ Qru (.cond (.t 5) (jQ Qrv (.ret)) (jQ Qrw (.cond (.t 11) (jQ Qrx (.ret)) (jQ Qry (.cond (.t 17) (jQ Qrz (.ret)) (jQ QrA (.cond (.t 22) (jQ QrB (.ret)) (jQ QrC (.cond (.t 33) (jQ LF (.ret)) (jQ LG (.cond (.t 44) (jQ LH (.ret)) (jD LI (.cond (.t 48) (jQ LJ (.ret)) (jD LK (.cond (.t 54) (jQ LL (.ret)) (.skip)))))))))))))))))) (jQ LM (.ret)))
abbrev QKR:List RR:=[.tmp 4]
theorem QKS:CT 136 60 QKQ QKR:=ck Tryz.func136 Tryz.ntmps136 (by decide +kernel)
abbrev QrD:IL:=[je 1 1 0,jh 2]
abbrev QrE:IL:=[jb 3 2 1,jc 4 3,ji 5 1 4,yu 6 5 1,ja 7 6,jo 8 2 1 7,js 9 8 7,ye 10 1 9 7,yk 11 10 64 7,jn 12 7 11,ja 13 12,jo 14 3 1 13,js 15 14 13,ye 16 1 15 13,yk 17 16 16 13,jn 18 13 17,ja 2 18]
abbrev QKT:RC:=jQ QrD (jQ QrE (.ret))
abbrev QKU:List RR:=[.tmp 2]
theorem QKV:CT 140 19 QKT QKU:=ck Tryz.func140 Tryz.ntmps140 (by decide +kernel)
abbrev QrF:IL:=[je 1 1 0,jh 2]
abbrev QrG:IL:=[jb 3 0 1,jc 4 3,jr 5 142 4,jz 6 5,ja 7 6,jo 8 2 1 7,js 9 8 7,zo 10 147 9 148 7,jn 11 7 10,ja 2 11]
abbrev QKW:RC:=jQ QrF (jQ QrG (.ret))
abbrev QKX:List RR:=[.tmp 2]
theorem QKY:CT 146 12 QKW QKX:=ck Tryz.func146 Tryz.ntmps146 (by decide +kernel)
abbrev QrH:IL:=[jh 4]
abbrev QrI:IL:=[ja 5 0,ja 6 1,yq 7 215 5 6,ja 4 7]
abbrev QKZ:RC:=jQ QrH (jQ QrI (.ret))
abbrev QK0:List RR:=[.tmp 4]
theorem QK1:CT 147 8 QKZ QK0:=ck Tryz.func147 Tryz.ntmps147 (by decide +kernel)
abbrev QrJ:IL:=[je 1 1 0,jh 2]
abbrev QrK:IL:=[jb 3 0 1,jc 4 3,jr 5 145 4,jz 6 5,ja 2 6]
abbrev QK2:RC:=jQ QrJ (jQ QrK (.ret))
abbrev QK3:List RR:=[.tmp 2]
theorem QK4:CT 148 7 QK2 QK3:=ck Tryz.func148 Tryz.ntmps148 (by decide +kernel)
abbrev QrL:IL:=[je 2 2 0,je 3 3 1,jh 4]
abbrev QrM:IL:=[jb 5 0 2,jc 6 5,jb 7 0 3,jc 8 7,⟨some 9,.val (.bin .str .lss (.t 6) (.t 8)),none⟩,ja 4 9]
abbrev QK5:RC:=jQ QrL (jQ QrM (.ret))
abbrev QK6:List RR:=[.tmp 4]
theorem QK7:CT 150 10 QK5 QK6:=ck Tryz.func150 Tryz.ntmps150 (by decide +kernel)
abbrev QrN:IL:=[je 2 2 0,je 3 3 1,jh 4]
abbrev QrO:IL:=[jb 5 0 2,jc 6 5,jb 7 0 3,jc 8 7,⟨some 9,.val (.bin .str .lss (.t 6) (.t 8)),none⟩,ja 4 9]
abbrev QK8:RC:=jQ QrN (jQ QrO (.ret))
abbrev QK9:List RR:=[.tmp 4]
theorem QLa:CT 152 10 QK8 QK9:=ck Tryz.func152 Tryz.ntmps152 (by decide +kernel)
abbrev QrP:IL:=[je 1 1 0,jh 2]
abbrev QrQ:IL:=[jb 3 2 1,jc 4 3,zx 5 157 4 158,jz 6 5,ja 2 6]
abbrev QLb:RC:=jQ QrP (jQ QrQ (.ret))
abbrev QLc:List RR:=[.tmp 2]
theorem QLd:CT 156 7 QLb QLc:=ck Tryz.func156 Tryz.ntmps156 (by decide +kernel)
abbrev QrR:IL:=[jh 4]
abbrev QrS:IL:=[jd 5 1]
abbrev QrT:IL:=[ja 6 5,ja 7 0,ji 8 1 7,jp 9 6 8]
abbrev QrU:IL:=[ja 12 1,ja 13 0,ja 14 5,zi 15 14 1,jl 16 3 13 15,yd 17 3 16,ja 18 0,ja 19 5,jl 20 3 18 19,yd 21 3 20,⟨some 22,.callF (.t 12) [(.t 17),(.t 21)],none⟩,jz 23 22]
abbrev QrV:IL:=[jh 4]
abbrev QrW:IL:=[ja 10 5,jm 11 10 1,ja 5 11]
abbrev QrX:RC:=.seq (jQ QrT (jX 9 0)) (.seq (.block 1 (jD QrU (.cond (.t 23) (jQ QrV (.ret)) (.skip)))) (.reg QrW))
abbrev QrY:IL:=[yj 4]
abbrev QLe:RC:=jQ QrR (.seq (jQ QrS (.block 0 (.loop QrX))) (jQ QrY (.ret)))
abbrev QLf:List RR:=[.tmp 4]
theorem QLg:CT 157 24 QLe QLf:=ck Tryz.func157 Tryz.ntmps157 (by decide +kernel)
abbrev QrZ:IL:=[je 2 2 0,je 3 3 1,jh 4]
abbrev Qr0:IL:=[jb 5 1 2,jc 6 5,jb 7 1 3,jc 8 7,jp 9 6 8,ja 4 9]
abbrev QLh:RC:=jQ QrZ (jQ Qr0 (.ret))
abbrev QLi:List RR:=[.tmp 4]
theorem QLj:CT 158 10 QLh QLi:=ck Tryz.func158 Tryz.ntmps158 (by decide +kernel)
abbrev Qr1:IL:=[je 2 2 0,jh 3]
abbrev Qr2:IL:=[jb 4 0 2,jc 5 4,jb 6 0 1,jc 7 6,MU 8 5 7,ja 3 8]
abbrev QLk:RC:=jQ Qr1 (jQ Qr2 (.ret))
abbrev QLl:List RR:=[.tmp 3]
theorem QLm:CT 160 9 QLk QLl:=ck Tryz.func160 Tryz.ntmps160 (by decide +kernel)
abbrev Qr3:IL:=[je 1 1 0,jh 2]
abbrev Qr4:IL:=[jb 3 2 1,jc 4 3,zx 5 164 4 165,ja 2 5]
abbrev QLn:RC:=jQ Qr3 (jQ Qr4 (.ret))
abbrev QLo:List RR:=[.tmp 2]
theorem QLp:CT 163 6 QLn QLo:=ck Tryz.func163 Tryz.ntmps163 (by decide +kernel)
abbrev Qr5:IL:=[je 3 3 1,jh 4]
abbrev Qr6:IL:=[ja 7 0,ji 8 1 7,jd 9 0]
abbrev Qr7:IL:=[jp 10 9 8]
abbrev Qr8:IL:=[ja 11 9,jl 12 3 7 9,jf 13 3 12,⟨some 6,.allocN 6 [.str [],.int .i64 0,.nils],none⟩,ja 5 11,jq 3 6 13]
abbrev Qr9:IL:=[ja 14 0,ja 15 5,Fb 16 3 14 15,⟨some 17,.val (.mkfn (.func 217) [] [(.t 3),(.t 6)]),none⟩,yq 18 147 16 17]
abbrev Qsa:IL:=[yj 4]
abbrev Qsb:IL:=[jm 19 9 1,ja 9 19]
abbrev Qsc:RC:=.gho (.drop 6) (jQ Qr7 (.seq (jX 10 0) (.seq (.block 1 (jQ Qr8 (jQ Qr9 (.cond (.t 18) (jQ Qsa (.ret)) (.skip))))) (.reg Qsb))))
abbrev Qsd:IL:=[jh 4]
abbrev QLq:RC:=jQ Qr5 (.seq (jQ Qr6 (.block 0 (.loop Qsc))) (jQ Qsd (.ret)))
abbrev QLr:List RR:=[.tmp 4]
theorem QLs:CT 164 20 QLq QLr:=ck Tryz.func164 Tryz.ntmps164 (by decide +kernel)
abbrev Qse:IL:=[je 1 1 0,yw 2]
abbrev Qsf:IL:=[jb 3 0 1,jc 4 3,ja 2 4]
abbrev QLt:RC:=jQ Qse (jQ Qsf (.ret))
abbrev QLu:List RR:=[.tmp 2]
theorem QLv:CT 165 5 QLt QLu:=ck Tryz.func165 Tryz.ntmps165 (by decide +kernel)
abbrev Qsg:IL:=[je 1 1 0,jh 2]
abbrev Qsh:IL:=[jb 5 3 1,jc 6 5,ji 7 1 6,jd 8 0]
abbrev Qsi:IL:=[jp 9 8 7]
abbrev Qsj:IL:=[ja 10 8,jl 11 2 6 8,jf 12 2 11,⟨some 4,.allocN 4 [.int .i64 0,.int .i64 0],none⟩,ja 3 10,jq 2 4 12]
abbrev Qsk:IL:=[jb 13 0 4,yb 14 0 4 13,yu 15 14 0,ja 16 15,jo 17 1 4 16,zk 18 0 4 17 16,yk 19 18 2147483647 16,jn 20 16 19,ja 21 20,jo 22 1 4 21,zk 23 0 4 22 21,jo 24 0 4 21,zk 25 0 4 24 21,⟨some 26,.val (.bin .num .lss (.t 23) (.t 25)),(some (21,false))⟩,jn 27 21 26,ja 28 27,jv 29 3 28,yk 30 29 0 28,jv 31 30 28,jk 32 0 4 31,yz 33 0 4 32 31,jk 34 3 1 31,yz 35 0 1 34 31,jg 36 3 31,Fc 37 36 1 31,ya 38 2 35 37 31,jk 39 1 38 31,yo 40 39 31,MO 41 33 40 31,yx 42 31 41 28,jn 43 28 42]
abbrev Qsl:IL:=[yj 2]
abbrev Qsm:IL:=[jm 44 8 1,ja 8 44]
abbrev Qsn:RC:=.gho (.drop 4) (jQ Qsi (.seq (jX 9 0) (.seq (.block 1 (jQ Qsj (jD Qsk (.cond (.t 43) (jQ Qsl (.ret)) (.skip))))) (.reg Qsm))))
abbrev Qso:IL:=[jb 45 2 1,jc 46 45,⟨some 47,.val (.iaddr 3 none (.t 46) (.c (.int .i64 0))),none⟩,jb 48 1 47,jc 49 48,yc 50 49 0,ja 51 50,jo 52 2 1 51,js 53 52 51,⟨some 54,.val (.mkfn (.func 218) [] [(.t 1)]),(some (51,false))⟩,⟨some 55,.callF (.f 147) [(.t 53),(.t 54)],(some (51,false))⟩,jn 56 51 55,ja 2 56]
abbrev QLw:RC:=jQ Qsg (.seq (jQ Qsh (.block 0 (.loop Qsn))) (jQ Qso (.ret)))
abbrev QLx:List RR:=[.tmp 2]
theorem QLy:CT 168 57 QLw QLx:=ck Tryz.func168 Tryz.ntmps168 (by decide +kernel)
abbrev Qsp:IL:=[je 1 1 0,jh 2]
abbrev Qsq:IL:=[jb 3 4 1,jc 4 3,ji 5 1 4,yp 6 5 0,ja 7 6,jo 8 2 1 7,js 9 8 7,zo 10 147 9 176 7,jn 11 7 10,ja 2 11]
abbrev QLz:RC:=jQ Qsp (jQ Qsq (.ret))
abbrev QLA:List RR:=[.tmp 2]
theorem QLB:CT 175 12 QLz QLA:=ck Tryz.func175 Tryz.ntmps175 (by decide +kernel)
abbrev Qsr:IL:=[je 1 1 0,jh 2]
abbrev Qss:IL:=[jb 3 2 1,jc 4 3,ji 5 1 4,yp 6 5 1,ja 7 6,jo 8 2 1 7,js 9 8 7,ye 10 1 9 7,yt 11 10 1 7,jv 12 11 7,jk 13 2 1 12,ju 14 13 12,N8 15 8 14 0 12,jk 16 0 15 12,ju 17 16 12,⟨some 18,.val (.bin .str .neq (.t 17) (.c (.str [97,108,105,97,115]))),(some (12,true))⟩,jg 19 18 12,jo 20 2 1 19,js 21 20 19,⟨some 22,.call (.f 177) [(.t 21),(.c (.int .i64 4))],(some (19,false))⟩,Bg 23 22 0 19,zg 24 19 23 12,yx 25 12 24 7,jn 26 7 25,ja 2 26]
abbrev QLC:RC:=jQ Qsr (jQ Qss (.ret))
abbrev QLD:List RR:=[.tmp 2]
theorem QLE:CT 176 27 QLC QLD:=ck Tryz.func176 Tryz.ntmps176 (by decide +kernel)
abbrev Qst:IL:=[jd 4 0]
abbrev Qsu:IL:=[ja 9 0,ji 10 1 9,yp 11 10 8]
abbrev Qsv:IL:=[jd 4 3]
abbrev Qsw:IL:=[yw 5]
abbrev Qsx:IL:=[ja 12 0,ji 13 1 12,jd 14 0]
abbrev Qsy:IL:=[jp 15 14 13]
abbrev Qsz:IL:=[ja 16 14,jl 17 8 12 14,jf 18 8 17,⟨some 7,.allocN 7 [.str [],.int .i64 0,.int .u64 0,.str [],.nils,.nils,.nils,.nils],none⟩,ja 6 16,jq 8 7 18]
abbrev QsA:IL:=[jf 19 8 7,ja 20 1,ja 21 5,ja 22 6,yp 23 22 0,zl 24 222 19 20 21 23,ja 8 24]
abbrev QsB:IL:=[ja 25 8,yc 26 25 0]
abbrev QsC:IL:=[ja 27 8,ja 4 27]
abbrev LN:IL:=[jb 28 0 7,jc 29 28,ja 5 29]
abbrev LO:IL:=[jm 30 14 1,ja 14 30]
abbrev QsD:RC:=.gho (.drop 7) (jQ Qsy (.seq (jX 15 0) (.seq (.block 1 (jQ Qsz (.seq (jQ QsA (jQ QsB (.cond (.t 26) (jQ QsC (.ret)) (.skip)))) (.reg LN)))) (.reg LO))))
abbrev LP:IL:=[jd 4 0]
abbrev QLF:RC:=jQ Qst (.seq (jQ Qsu (.cond (.t 11) (jQ Qsv (.ret)) (.skip))) (jQ Qsw (.seq (jQ Qsx (.block 0 (.loop QsD))) (jQ LP (.ret)))))
abbrev QLG:List RR:=[.tmp 4]
theorem QLH:CT 177 31 QLF QLG:=ck Tryz.func177 Tryz.ntmps177 (by decide +kernel)
abbrev QsE:IL:=[je 3 3 0,je 5 5 2,jh 6]
abbrev QsF:IL:=[ja 8 1,yu 9 8 0,ja 10 9,jv 11 1 10,jo 12 1 3 10,js 13 12 10,ye 14 1 13 10,N9 15 11 14 10,jn 16 10 15,ja 17 16,js 18 5 17,⟨some 19,.val (.bin .num .gtr (.t 18) (.c (.int .u64 2147483647))),(some (17,false))⟩,jn 20 17 19]
abbrev QsG:IL:=[jh 6]
abbrev QsH:IL:=[jb 21 1 3,jc 22 21,ja 23 1,jl 24 5 22 23,jf 25 5 24,⟨some 7,.allocN 7 [.str [],.bool false,.nils,.nils,.nils],none⟩,jq 5 7 25]
abbrev QsI:IL:=[jb 26 1 7,jc 27 26,ja 28 27,jo 29 2 7 28,js 30 29 28,⟨some 31,.val (.mkfn (.func 226) [] [(.t 5)]),(some (28,false))⟩,⟨some 32,.callF (.f 215) [(.t 30),(.t 31)],(some (28,false))⟩,jn 33 28 32,ja 6 33]
abbrev QLI:RC:=jQ QsE (.seq (jQ QsF (.cond (.t 20) (jQ QsG (.ret)) (.skip))) (jQ QsH (jQ QsI (.ret))))
abbrev QLJ:List RR:=[.tmp 6]
theorem QLK:CT 183 34 QLI QLJ:=ck Tryz.func183 Tryz.ntmps183 (by decide +kernel)
abbrev QsJ:IL:=[yf 2]
abbrev QsK:IL:=[ja 7 0,Vb 8 228 7,ja 3 8]
abbrev QsL:IL:=[ja 9 3,zx 10 229 9 230]
abbrev QsM:IL:=[yf 4]
abbrev QsN:IL:=[ja 11 3,ji 12 1 11,jd 13 0]
abbrev QsO:IL:=[jp 14 13 12]
abbrev QsP:IL:=[ja 15 13,jl 16 14 11 13,jf 17 14 16,MV 6 6,ja 5 15,jq 14 6 17]
abbrev QsQ:IL:=[ja 18 5,jm 19 18 1,ja 20 3,ji 21 1 20,zq 22 19 21,ja 23 22,jo 24 0 6 23,M2 25 0 6 7 24 23,jv 26 3 23,jv 27 5 23,jbh 28 27 1 23,zb 29 14 26 28 23,jo 30 0 29 23,MZ 31 7 30 23,N5 32 232 25 31 23,za 33 32 23,jn 34 23 33]
abbrev QsR:IL:=[ja 35 4,jf 36 14 6,⟨some 37,.bsl 14 1 [.int .i64 0,.int .u64 0,.str [],.nils,.nils,.nils,.nils,.int .i64 0,.int .u64 0,.str [],.nils,.nils,.nils,.nils] [(0,14,(.t 36))],none⟩,yr 38 14 256 77 35 37,ja 4 38]
abbrev QsS:IL:=[jm 39 13 1,ja 13 39]
abbrev QsT:RC:=.gho (.drop 6) (jQ QsO (.seq (jX 14 0) (.seq (.block 1 (jQ QsP (jD QsQ (.cond (.t 34) (.reg QsR) (.skip))))) (.reg QsS))))
abbrev LQ:IL:=[ja 40 4,ja 2 40]
abbrev QLL:RC:=jQ QsJ (jQ QsK (jQ QsL (jQ QsM (.gho (.vec 4 4 14) (.seq (jQ QsN (.block 0 (.loop QsT))) (jQ LQ (.ret)))))))
abbrev QLM:List RR:=[.tmp 2]
theorem QLN:CT 189 41 QLL QLM:=ck Tryz.func189 Tryz.ntmps189 (by decide +kernel)
abbrev QsU:IL:=[jh 2]
abbrev QsV:IL:=[ja 3 0,M3 4 3 97,ja 5 4,jg 6 0 5,M4 7 6 122 5,jj 8 5 7,ja 2 8]
abbrev QLO:RC:=jQ QsU (jQ QsV (.ret))
abbrev QLP:List RR:=[.tmp 2]
theorem QLQ:CT 200 9 QLO QLP:=ck Tryz.func200 Tryz.ntmps200 (by decide +kernel)
abbrev QsW:IL:=[jh 2]
abbrev QsX:IL:=[ja 3 0,M3 4 3 65,ja 5 4,jg 6 0 5,M4 7 6 90 5,jj 8 5 7,ja 2 8]
abbrev QLR:RC:=jQ QsW (jQ QsX (.ret))
abbrev QLS:List RR:=[.tmp 2]
theorem QLT:CT 201 9 QLR QLS:=ck Tryz.func201 Tryz.ntmps201 (by decide +kernel)
abbrev QsY:IL:=[je 3 3 1,jh 4]
abbrev QsZ:IL:=[ja 6 0,jr 7 80 6,jz 8 7,ja 9 8,jo 10 0 3 9,js 11 10 9,jv 12 0 9,zv 13 11 12 9,jn 14 9 13,ja 15 14,yv 16 7 3 15,ze 17 81 16 15,za 18 17 15,jn 19 15 18]
abbrev Qs0:IL:=[jh 4]
abbrev Qs1:IL:=[ja 20 0,jr 21 205 20]
abbrev Qs2:IL:=[jb 22 1 3,jc 23 22,zz 24 23 0,ja 25 24,jk 26 2 3 25,ju 27 26 25,ys 28 0 27 25,zf 29 28 4096 25,jj 30 25 29,ja 31 30,jg 32 0 31,yl 33 32 8 31,jg 34 33 31,jo 35 2 3 34,js 36 35 34,ze 37 127 36 34,zg 38 34 37 31,jj 39 31 38,ja 4 39]
abbrev Qs3:IL:=[jb 40 2 3,jc 41 40,⟨some 42,.val (.bin .str .neq (.t 41) (.c (.str []))),none⟩]
abbrev Qs4:IL:=[jh 4]
abbrev Qs5:IL:=[ja 43 0]
abbrev Qs6:IL:=[jt 45 43 1,ja 44 45]
abbrev Qs7:IL:=[jb 46 1 3,jc 47 46,⟨some 48,.val (.bin .num .leq (.t 47) (.c (.int .u64 1))),none⟩,ja 4 48]
abbrev LR:IL:=[jt 50 43 2,ja 49 50]
abbrev LS:IL:=[jb 51 1 3,jc 52 51,ML 53 52,ja 5 53]
abbrev LU:IL:=[ja 54 5,ym 55 54 (-2147483648),ja 56 55,jg 57 5 56,zf 58 57 2147483647 56,jj 59 56 58,ja 4 59]
abbrev LV:IL:=[jt 61 43 4,ja 60 61]
abbrev LW:IL:=[jb 62 1 3,jc 63 62,jbm 64 63 4294967296,ja 4 64]
abbrev LX:IL:=[jt 66 43 9,ja 65 66]
abbrev LY:IL:=[jb 67 1 3,jc 68 67,jbm 69 68 2147483648,ja 4 69]
abbrev LZ:IL:=[yj 4]
abbrev QLU:RC:=jQ QsY (.seq (jQ QsZ (.cond (.t 19) (jQ Qs0 (.ret)) (.skip))) (.seq (jQ Qs1 (.cond (.t 21) (jQ Qs2 (.ret)) (.skip))) (.seq (jQ Qs3 (.cond (.t 42) (jQ Qs4 (.ret)) (.skip))) (.seq (jQ Qs5 (.block 0 (jQ Qs6 (.cond (.t 44) (jQ Qs7 (.ret)) (jQ LR (.cond (.t 49) (jQ LS (jQ LU (.ret))) (jQ LV (.cond (.t 60) (jQ LW (.ret)) (jQ LX (.cond (.t 65) (jQ LY (.ret)) (.skip))))))))))) (jQ LZ (.ret))))))
abbrev QLV:List RR:=[.tmp 4]
theorem Qs8:CT 202 70 QLU QLV:=ck Tryz.func202 Tryz.ntmps202 (by decide +kernel)
abbrev Qs9:IL:=[jd 2 0]
abbrev Qta:IL:=[jd 3 0]
abbrev Qtb:IL:=[ja 5 3,ja 6 0,ji 7 0 6,jp 8 5 7]
abbrev Qtc:IL:=[ja 9 0,ja 10 3,jy 11 237 9 10,ja 4 11]
abbrev Qtd:IL:=[ja 12 4,jt 13 12 0]
abbrev Qte:IL:=[ja 14 3,ja 2 14]
abbrev Qtf:IL:=[ja 15 3,ja 16 4,yi 17 15 16,ja 3 17]
abbrev Qtg:RC:=.seq (jQ Qtb (jX 8 0)) (.block 1 (jQ Qtc (.seq (jQ Qtd (.cond (.t 13) (jQ Qte (.ret)) (.skip))) (.reg Qtf))))
abbrev Qth:IL:=[jd 2 (-1)]
abbrev QLW:RC:=jQ Qs9 (.seq (jQ Qta (.block 0 (.loop Qtg))) (jQ Qth (.ret)))
abbrev QLX:List RR:=[.tmp 2]
theorem QLY:CT 203 18 QLW QLX:=ck Tryz.func203 Tryz.ntmps203 (by decide +kernel)
abbrev Qti:IL:=[jh 2]
abbrev Qtj:IL:=[ja 3 0,jt 4 3 7,ja 5 4,jv 6 0 5,yt 7 6 8 5,jn 8 5 7,ja 2 8]
abbrev QLZ:RC:=jQ Qti (jQ Qtj (.ret))
abbrev QL0:List RR:=[.tmp 2]
theorem QL1:CT 205 9 QLZ QL0:=ck Tryz.func205 Tryz.ntmps205 (by decide +kernel)
abbrev Qtk:IL:=[je 1 1 0,zj 2 0]
abbrev Qtl:IL:=[jb 4 0 1,jc 5 4,jr 6 238 5,ja 3 6]
abbrev Qtm:IL:=[jb 7 1 1,jc 8 7,⟨some 9,.val (.bin .num .add (.t 8) (.c (.int .u64 9223372036854775808))),none⟩,ja 2 9]
abbrev Qtn:IL:=[jb 11 0 1,jc 12 11,yc 13 12 6,ja 10 13]
abbrev Qto:IL:=[jb 14 1 1,jc 15 14,ja 2 15]
abbrev Qtp:IL:=[jb 17 1 1,jc 18 17,jr 19 79 18,jt 20 19 0,ja 16 20]
abbrev Qtq:IL:=[zj 2 18446744073709551615]
abbrev Qtr:IL:=[jb 22 1 1,jc 23 22,⟨some 24,.val (.bin .num .geq (.t 23) (.c (.int .u64 9223372036854775808))),none⟩,ja 21 24]
abbrev Qts:IL:=[jb 25 1 1,jc 26 25,⟨some 27,.val (.bin .num .sub (.c (.int .u64 18446744073709551615)) (.t 26)),none⟩,ja 2 27]
abbrev Qtt:IL:=[jb 28 1 1,jc 29 28,⟨some 30,.val (.bin .num .add (.t 29) (.c (.int .u64 9223372036854775808))),none⟩,ja 2 30]
abbrev QL2:RC:=jQ Qtk (.seq (.block 0 (jQ Qtl (.cond (.t 3) (jQ Qtm (.ret)) (jQ Qtn (.cond (.t 10) (jQ Qto (.ret)) (jQ Qtp (.cond (.t 16) (jQ Qtq (.ret)) (jQ Qtr (.cond (.t 21) (jQ Qts (.ret)) (.skip)))))))))) (jQ Qtt (.ret)))
abbrev QL3:List RR:=[.tmp 2]
theorem QL4:CT 206 31 QL2 QL3:=ck Tryz.func206 Tryz.ntmps206 (by decide +kernel)
abbrev Qtu:IL:=[jh 4]
abbrev Qtv:IL:=[ja 5 0,ja 6 1,yq 7 243 5 6,ym 8 7 0,ja 4 8]
abbrev QL5:RC:=jQ Qtu (jQ Qtv (.ret))
abbrev QL6:List RR:=[.tmp 4]
theorem Qtw:CT 215 9 QL5 QL6:=ck Tryz.func215 Tryz.ntmps215 (by decide +kernel)
abbrev Qtx:IL:=[je 3 3 0,jh 4]
abbrev Qty:IL:=[jc 5 1,jw 6 0 3 3 3,⟨some 7,.call (.t 5) [(.t 6)],none⟩,jc 8 1,jf 9 3 2,⟨some 10,.call (.t 8) [(.t 9)],none⟩,MU 11 7 10,ja 4 11]
abbrev QL7:RC:=jQ Qtx (jD Qty (.ret))
abbrev QL8:List RR:=[.tmp 4]
theorem QL9:CT 217 12 QL7 QL8:=ck Tryz.func217 Tryz.ntmps217 (by decide +kernel)
abbrev Qtz:IL:=[je 2 2 0,jh 3]
abbrev QtA:IL:=[jb 4 1 2,jc 5 4,yp 6 5 2147483647,ja 7 6,jo 8 3 1 7,js 9 8 7,jo 10 1 2 7,js 11 10 7,N5 12 219 9 11 7,jn 13 7 12,ja 3 13]
abbrev QMa:RC:=jQ Qtz (jQ QtA (.ret))
abbrev QMb:List RR:=[.tmp 3]
theorem QMc:CT 218 14 QMa QMb:=ck Tryz.func218 Tryz.ntmps218 (by decide +kernel)
abbrev QtB:IL:=[je 3 3 1,jh 4]
abbrev QtC:IL:=[ja 5 0,D9 6 245 3,yq 7 244 5 6,ja 4 7]
abbrev QMd:RC:=jQ QtB (jQ QtC (.ret))
abbrev QMe:List RR:=[.tmp 4]
theorem QMf:CT 219 8 QMd QMe:=ck Tryz.func219 Tryz.ntmps219 (by decide +kernel)
abbrev QtD:IL:=[je 4 4 0,jd 8 0]
abbrev QtE:IL:=[N4 12 247,jb 13 0 4,yb 14 0 4 13,⟨some 15,.val (.mgetp true (.agg [.int .i64 0,.int .i64 0]) (.t 12) (.t 14)),none⟩,ja 11 15,jx 16 11 0,jx 17 11 1,⟨some 9,.allocN 9 [.int .i64 0,.int .i64 0],none⟩,yg 0 9 2 9 16,ja 10 17]
abbrev QtF:IL:=[ja 19 10,jz 20 19,ja 18 20]
abbrev QtG:IL:=[jd 8 8]
abbrev QtH:IL:=[ja 22 1,yu 23 22 1,ja 24 23,jv 25 1 24,yk 26 25 6 24,jn 27 24 26,ja 28 27,jo 29 1 9 28,js 30 29 28,jv 31 1 28,⟨some 32,.val (.bin .num .shr (.t 30) (.t 31)),(some (28,false))⟩,⟨some 33,.val (.bin .num .and (.t 32) (.c (.int .i64 1))),(some (28,false))⟩,yt 34 33 0 28,jn 35 28 34,ja 21 35]
abbrev QtI:IL:=[jd 8 1]
abbrev QtJ:IL:=[jf 37 8 4,jr 38 248 37,jz 39 38,ja 36 39]
abbrev QtK:IL:=[jd 8 12]
abbrev QtL:IL:=[ja 41 3,ja 42 41,jk 43 0 4 42,ju 44 43 42,jg 45 2 42,⟨some 46,.val (.bin .str .lss (.t 44) (.t 45)),(some (42,true))⟩,jj 47 42 46,ja 40 47]
abbrev QtM:IL:=[jd 8 11]
abbrev L0:IL:=[ja 49 3,ja 50 49,jk 51 0 4 50,ju 52 51 50,jg 53 2 50,MS 54 52 53 50,jj 55 50 54,ja 48 55]
abbrev L1:IL:=[jd 8 9]
abbrev L2:IL:=[jd 8 0]
abbrev QMg:RC:=jQ QtD (jD QtE (.seq (.block 0 (jQ QtF (.cond (.t 18) (jQ QtG (.ret)) (jQ QtH (.cond (.t 21) (jQ QtI (.ret)) (jQ QtJ (.cond (.t 36) (jQ QtK (.ret)) (jQ QtL (.cond (.t 40) (jQ QtM (.ret)) (jQ L0 (.cond (.t 48) (jQ L1 (.ret)) (.skip)))))))))))) (jQ L2 (.ret))))
abbrev QMh:List RR:=[.tmp 8]
theorem QMi:CT 222 56 QMg QMh:=ck Tryz.func222 Tryz.ntmps222 (by decide +kernel)
abbrev QtN:IL:=[je 4 4 0,je 5 5 1,jd 8 0]
abbrev QtO:IL:=[ja 13 2,ji 14 1 13,jd 15 0]
abbrev QtP:IL:=[jp 16 15 14]
abbrev QtQ:IL:=[ja 17 15,jl 18 14 13 15,jf 19 14 18,MV 10 10,ja 9 17,jq 14 10 19]
abbrev QtR:IL:=[jf 20 2 4,jb 21 4 5,jc 22 21,jb 23 0 10,jf 24 7 23,⟨some 25,.call (.f 249) [(.t 20),(.t 22),(.c (.int .i64 (-1))),(.t 24)],none⟩,ja 11 25]
abbrev QtS:IL:=[ja 26 11,yc 27 26 0]
abbrev QtT:IL:=[ja 28 11,ja 8 28]
abbrev QtU:IL:=[ja 29 2,ja 30 9,Fb 31 14 29 30,D9 32 251 10,yq 33 250 31 32]
abbrev QtV:IL:=[jd 8 9]
abbrev QtW:IL:=[jf 34 2 4,jf 35 8 5,jb 36 7 10,jf 37 7 36,ja 38 3,zl 39 224 34 35 37 38,ja 12 39]
abbrev L3:IL:=[ja 40 12,yc 41 40 0]
abbrev L4:IL:=[ja 42 12,ja 8 42]
abbrev L5:IL:=[jm 43 15 1,ja 15 43]
abbrev QtX:RC:=.gho (.drop 10) (jQ QtP (.seq (jX 16 0) (.seq (.block 1 (jQ QtQ (.seq (jQ QtR (jQ QtS (.cond (.t 27) (jQ QtT (.ret)) (.skip)))) (.seq (jQ QtU (.cond (.t 33) (jQ QtV (.ret)) (.skip))) (jQ QtW (jQ L3 (.cond (.t 41) (jQ L4 (.ret)) (.skip)))))))) (.reg L5))))
abbrev L6:IL:=[jd 8 0]
abbrev QMj:RC:=jQ QtN (.seq (jQ QtO (.block 0 (.loop QtX))) (jQ L6 (.ret)))
abbrev QMk:List RR:=[.tmp 8]
theorem QMl:CT 225 44 QMj QMk:=ck Tryz.func225 Tryz.ntmps225 (by decide +kernel)
abbrev QtY:IL:=[je 2 2 0,jh 3]
abbrev QtZ:IL:=[jb 4 1 2,jc 5 4,MN 6 5,jc 7 1,zq 8 6 7,ja 3 8]
abbrev QMm:RC:=jQ QtY (jQ QtZ (.ret))
abbrev QMn:List RR:=[.tmp 3]
theorem QMo:CT 226 9 QMm QMn:=ck Tryz.func226 Tryz.ntmps226 (by decide +kernel)
def Ph:IL:=[yf 2]
def Pi:IL:=[ja 3 0,⟨some 4,.isnil false (.t 3),none⟩]
def Pj:IL:=[yf 2]
def Pk:IL:=[⟨some 5,.bsl0 5 14,none⟩,ja 6 0,yr 7 14 256 77 5 6,ja 2 7]
def Qt0:RC:=jQ Ph (.seq (jQ Pi (.cond (.t 4) (jQ Pj (.gho (.vec 2 2 14) (.gho (.give 2 2 1 1000) (.ret)))) (.skip))) (jQ Pk (.gho (.give 2 5 1 1000) (.ret))))
def RQ:List RR:=[.tmp 2]
theorem QMp:CT 228 8 Qt0 RQ:=ck Tryz.func228 Tryz.ntmps228 (by decide +kernel)
abbrev Qt1:IL:=[je 2 2 0,je 3 3 1,jd 4 0]
abbrev Qt2:IL:=[jb 5 0 2,jf 6 7 5,jb 7 0 3,jf 8 7 7,jy 9 231 6 8,ja 4 9]
abbrev QMq:RC:=jQ Qt1 (jQ Qt2 (.ret))
abbrev QMr:List RR:=[.tmp 4]
theorem QMs:CT 230 10 QMq QMr:=ck Tryz.func230 Tryz.ntmps230 (by decide +kernel)
abbrev Qt3:IL:=[je 2 2 0,je 3 3 1,jd 4 0]
abbrev Qt4:IL:=[jb 11 0 2,jc 12 11,jb 13 0 3,jc 14 13,zt 15 12 14]
abbrev Qt5:IL:=[jb 16 0 2,jc 17 16,jb 18 0 3,jc 19 18,jy 20 101 17 19,ja 4 20]
abbrev Qt6:IL:=[jf 21 7 3,jr 22 255 21,ja 5 22]
abbrev Qt7:IL:=[jf 23 7 2,jr 24 255 23]
abbrev Qt8:IL:=[⟨some 25,.val (.tas 238 true (.agg [.int .i64 0,.int .u64 0,.str [],.nils,.nils,.nils,.nils]) (.t 24)),none⟩,jx 26 25 1,jx 27 25 0]
abbrev Qt9:IL:=[yn 6 6,jq 7 6 27]
abbrev Qua:IL:=[jf 28 7 6,jf 29 7 3,jy 30 256 28 29,ja 4 30]
abbrev Qub:IL:=[⟨some 31,.val (.tas 239 true (.nils) (.t 24)),none⟩,jx 32 31 1,jx 33 31 0]
abbrev Quc:IL:=[ja 7 33]
abbrev L7:IL:=[ja 34 7,ja 35 5,⟨some 36,.val (.tas 239 false (.nils) (.t 35)),none⟩,⟨some 37,.callF (.f 257) [(.t 34),(.t 36),(.f 231)],none⟩,ja 4 37]
abbrev L8:IL:=[⟨some 38,.val (.tas 241 true (.nils) (.t 24)),none⟩,jx 39 38 1,jx 40 38 0]
abbrev L9:IL:=[ja 8 40]
abbrev Qaa:IL:=[ja 41 8,ja 42 5,⟨some 43,.val (.tas 241 false (.nils) (.t 42)),none⟩,⟨some 44,.callF (.f 258) [(.t 41),(.t 43),(.f 259)],none⟩,ja 4 44]
abbrev Qab:IL:=[⟨some 45,.val (.tas 244 true (.agg [.nils,.nils]) (.t 24)),none⟩,jx 46 45 1,jx 47 45 0]
abbrev Qac:IL:=[⟨some 9,.allocN 9 [.nils,.nils],none⟩,jq 2 9 47]
abbrev Qad:IL:=[ja 48 5,⟨some 49,.val (.tas 244 false (.agg [.nils,.nils]) (.t 48)),none⟩,⟨some 10,.allocN 10 [.nils,.nils],none⟩,jq 2 10 49]
abbrev Qae:IL:=[jd 4 0]
abbrev QMt:RC:=jQ Qt3 (.seq (jQ Qt4 (.cond (.t 15) (jQ Qt5 (.ret)) (.skip))) (jQ Qt6 (.seq (jQ Qt7 (.block 0 (jQ Qt8 (.cond (.t 26) (jQ Qt9 (jQ Qua (.ret))) (jQ Qub (.cond (.t 32) (jQ Quc (jQ L7 (.ret))) (jQ L8 (.cond (.t 39) (jQ L9 (jQ Qaa (.ret))) (jQ Qab (.cond (.t 46) (jQ Qac (jQ Qad (.seq (.no) (.ret)))) (.skip))))))))))) (jQ Qae (.ret)))))
abbrev QMu:List RR:=[.tmp 4]
theorem QMv:CT 231 62 QMt QMu:=ck Tryz.func231 Tryz.ntmps231 (by decide +kernel)
abbrev Qud:IL:=[je 2 2 0,je 3 3 1,jh 4]
abbrev Que:IL:=[jf 5 7 2,jf 6 7 3,jy 7 231 5 6,jt 8 7 0,ja 4 8]
abbrev QMw:RC:=jQ Qud (jQ Que (.ret))
abbrev QMx:List RR:=[.tmp 4]
theorem QMy:CT 232 9 QMw QMx:=ck Tryz.func232 Tryz.ntmps232 (by decide +kernel)
def Pl:IL:=[jd 4 0]
def Pm:IL:=[ja 6 0,ja 7 1,N6 8 6 7,ja 5 8]
def Pn:IL:=[ja 10 5,⟨some 11,.val (.bin .num .lss (.t 10) (.c (.int .u8 128))),none⟩,ja 9 11]
def Po:IL:=[jd 4 1]
def Bw:IL:=[ja 13 5,M3 14 13 194,ja 15 14,jg 16 5 15,M4 17 16 223 15,jj 18 15 17,ja 19 18,jg 20 0 19,jg 21 1 19,zw 22 21 1 19,Bk 23 267 20 22 1 19,jj 24 19 23,ja 12 24]
def Pp:IL:=[jd 4 2]
def Bx:IL:=[ja 26 5,M0 27 26 224,ja 28 27,jg 29 0 28,jg 30 1 28,zw 31 30 1 28,⟨some 32,.call (.f 268) [(.t 29),(.t 31),(.c (.int .u8 160)),(.c (.int .u8 191))],(some (28,true))⟩,jj 33 28 32,ja 34 33,jg 35 0 34,jg 36 1 34,zw 37 36 2 34,Bk 38 267 35 37 1 34,jj 39 34 38,ja 25 39]
def Pq:IL:=[jd 4 3]
def Bz:IL:=[ja 41 5,M0 42 41 237,ja 43 42,jg 44 0 43,jg 45 1 43,zw 46 45 1 43,⟨some 47,.call (.f 268) [(.t 44),(.t 46),(.c (.int .u8 128)),(.c (.int .u8 159))],(some (43,true))⟩,jj 48 43 47,ja 49 48,jg 50 0 49,jg 51 1 49,zw 52 51 2 49,Bk 53 267 50 52 1 49,jj 54 49 53,ja 40 54]
def Pr:IL:=[jd 4 3]
def DA:IL:=[ja 56 5,M3 57 56 225,ja 58 57,jg 59 5 58,M4 60 59 239 58,jj 61 58 60,ja 62 61,jg 63 5 62,⟨some 64,.val (.bin .num .neq (.t 63) (.c (.int .u8 237))),(some (62,true))⟩,jj 65 62 64,ja 66 65,jg 67 0 66,jg 68 1 66,zw 69 68 1 66,Bk 70 267 67 69 2 66,jj 71 66 70,ja 55 71]
def Ve:IL:=[jd 4 3]
def DB:IL:=[ja 73 5,M0 74 73 240,ja 75 74,jg 76 0 75,jg 77 1 75,zw 78 77 1 75,⟨some 79,.call (.f 268) [(.t 76),(.t 78),(.c (.int .u8 144)),(.c (.int .u8 191))],(some (75,true))⟩,jj 80 75 79,ja 81 80,jg 82 0 81,jg 83 1 81,zw 84 83 2 81,Bk 85 267 82 84 2 81,jj 86 81 85,ja 72 86]
def Vf:IL:=[jd 4 4]
def DC:IL:=[ja 88 5,M3 89 88 241,ja 90 89,jg 91 5 90,M4 92 91 243 90,jj 93 90 92,ja 94 93,jg 95 0 94,jg 96 1 94,zw 97 96 1 94,Bk 98 267 95 97 3 94,jj 99 94 98,ja 87 99]
def Vg:IL:=[jd 4 4]
def DD:IL:=[ja 101 5,M0 102 101 244,ja 103 102,jg 104 0 103,jg 105 1 103,zw 106 105 1 103,⟨some 107,.call (.f 268) [(.t 104),(.t 106),(.c (.int .u8 128)),(.c (.int .u8 143))],(some (103,true))⟩,jj 108 103 107,ja 109 108,jg 110 0 109,jg 111 1 109,zw 112 111 2 109,Bk 113 267 110 112 2 109,jj 114 109 113,ja 100 114]
def Vh:IL:=[jd 4 4]
def Vi:IL:=[jd 4 0]
def Quf:RC:=jQ Pl (jQ Pm (.seq (.block 0 (jQ Pn (.cond (.t 9) (jQ Po (.ret)) (jQ Bw (.cond (.t 12) (jQ Pp (.ret)) (jQ Bx (.cond (.t 25) (jQ Pq (.ret)) (jQ Bz (.cond (.t 40) (jQ Pr (.ret)) (jQ DA (.cond (.t 55) (jQ Ve (.ret)) (jQ DB (.cond (.t 72) (jQ Vf (.ret)) (jQ DC (.cond (.t 87) (jQ Vg (.ret)) (jQ DD (.cond (.t 100) (jQ Vh (.ret)) (.skip)))))))))))))))))) (jQ Vi (.ret))))
def Qug:List RR:=[.tmp 4]
theorem QMz:CT 237 115 Quf Qug:=ck Tryz.func237 Tryz.ntmps237 (by decide +kernel)
abbrev Quh:IL:=[jh 2]
abbrev Qui:IL:=[ja 3 0,jt 4 3 2,ja 5 4,jv 6 0 5,yt 7 6 3 5,jn 8 5 7,ja 2 8]
abbrev QMA:RC:=jQ Quh (jQ Qui (.ret))
abbrev QMB:List RR:=[.tmp 2]
theorem QMC:CT 238 9 QMA QMB:=ck Tryz.func238 Tryz.ntmps238 (by decide +kernel)
abbrev Quj:IL:=[jd 4 0]
abbrev Quk:IL:=[ja 6 0,ji 7 1 6,jd 8 0]
abbrev Qul:IL:=[jp 9 8 7]
abbrev Qum:IL:=[ja 10 8,ja 5 10]
abbrev Qun:IL:=[ja 11 1,ja 12 0,ja 13 5,jl 14 3 12 13,jf 15 3 14,Fa 16 11 15]
abbrev Quo:IL:=[ja 17 5,ja 4 17]
abbrev Qup:IL:=[jm 18 8 1,ja 8 18]
abbrev Quq:RC:=jQ Qul (.seq (jX 9 0) (.seq (.block 1 (jQ Qum (jQ Qun (.cond (.t 16) (jQ Quo (.ret)) (.skip))))) (.reg Qup)))
abbrev Qur:IL:=[jd 4 (-1)]
abbrev QMD:RC:=jQ Quj (.seq (jQ Quk (.block 0 (.loop Quq))) (jQ Qur (.ret)))
abbrev QME:List RR:=[.tmp 4]
theorem Qus:CT 243 19 QMD QME:=ck Tryz.func243 Tryz.ntmps243 (by decide +kernel)
abbrev Qut:IL:=[jh 4]
abbrev Quu:IL:=[ja 5 0,ja 6 1,yq 7 272 5 6,ym 8 7 0,ja 4 8]
abbrev QMF:RC:=jQ Qut (jQ Quu (.ret))
abbrev QMG:List RR:=[.tmp 4]
theorem QMH:CT 244 9 QMF QMG:=ck Tryz.func244 Tryz.ntmps244 (by decide +kernel)
abbrev Quv:IL:=[je 2 2 0,jh 3]
abbrev Quw:IL:=[jb 4 0 2,jc 5 4,jc 6 1,Bj 7 5 6,ja 8 7,ju 9 1 8,jk 10 1 2 8,ju 11 10 8,MO 12 9 11 8,jj 13 8 12,ja 3 13]
abbrev QMI:RC:=jQ Quv (jQ Quw (.ret))
abbrev QMJ:List RR:=[.tmp 3]
theorem QMK:CT 245 14 QMI QMJ:=ck Tryz.func245 Tryz.ntmps245 (by decide +kernel)
abbrev Qux:IL:=[jh 6]
abbrev Quy:IL:=[ja 7 2,⟨some 8,.val (.bin .num .eql (.t 7) (.c (.int .i32 65533))),none⟩,ja 9 8,jg 10 0 9,jg 11 1 9,⟨some 12,.val (.slc none (.t 10) (some (.t 11)) none none),(some (9,true))⟩,⟨some 13,.call (.f 273) [(.t 12),(.c (.str [239,191,189]))],(some (9,true))⟩,yy 14 13 9,jj 15 9 14,ja 6 15]
abbrev QML:RC:=jQ Qux (jQ Quy (.ret))
abbrev QMM:List RR:=[.tmp 6]
theorem QMN:CT 246 16 QML QMM:=ck Tryz.func246 Tryz.ntmps246 (by decide +kernel)
abbrev Quz:IL:=[⟨some 0,.val (.mov (.c (.nilm))),none⟩]
abbrev QuA:IL:=[⟨some 1,.mkm 1,none⟩,⟨some 2,.val (.build [.int .i64 0,.int .i64 0] [(0,1,(.c (.int .i64 1))),(1,1,(.c (.int .i64 126)))]),none⟩,⟨none,.mput (.t 1) (.c (.str [100,101,112,114,101,99,97,116,101,100])) (.t 2),none⟩,⟨some 3,.val (.build [.int .i64 0,.int .i64 0] [(0,1,(.c (.int .i64 7))),(1,1,(.c (.int .i64 126)))]),none⟩,⟨none,.mput (.t 1) (.c (.str [100,111,99])) (.t 3),none⟩,⟨some 4,.val (.build [.int .i64 0,.int .i64 0] [(0,1,(.c (.int .i64 7))),(1,1,(.c (.int .i64 84)))]),none⟩,⟨none,.mput (.t 1) (.c (.str [97,108,105,97,115])) (.t 4),none⟩,⟨some 5,.val (.build [.int .i64 0,.int .i64 0] [(0,1,(.c (.int .i64 4))),(1,1,(.c (.int .i64 84)))]),none⟩,⟨none,.mput (.t 1) (.c (.str [115,105,110,99,101])) (.t 5),none⟩,⟨some 6,.val (.build [.int .i64 0,.int .i64 0] [(0,1,(.c (.int .i64 4))),(1,1,(.c (.int .i64 84)))]),none⟩,⟨none,.mput (.t 1) (.c (.str [117,110,116,105,108])) (.t 6),none⟩,⟨some 7,.val (.build [.int .i64 0,.int .i64 0] [(0,1,(.c (.int .i64 3))),(1,1,(.c (.int .i64 4)))]),none⟩,⟨none,.mput (.t 1) (.c (.str [109,105,110])) (.t 7),none⟩,⟨some 8,.val (.build [.int .i64 0,.int .i64 0] [(0,1,(.c (.int .i64 3))),(1,1,(.c (.int .i64 4)))]),none⟩,⟨none,.mput (.t 1) (.c (.str [109,97,120])) (.t 8),none⟩,⟨some 9,.val (.build [.int .i64 0,.int .i64 0] [(0,1,(.c (.int .i64 4))),(1,1,(.c (.int .i64 4)))]),none⟩,⟨none,.mput (.t 1) (.c (.str [108,101,110,103,116,104])) (.t 9),none⟩,⟨some 10,.val (.build [.int .i64 0,.int .i64 0] [(0,1,(.c (.int .i64 1))),(1,1,(.c (.int .i64 4)))]),none⟩,⟨none,.mput (.t 1) (.c (.str [115,101,99,114,101,116])) (.t 10),none⟩,⟨some 11,.val (.build [.int .i64 0,.int .i64 0] [(0,1,(.c (.int .i64 1))),(1,1,(.c (.int .i64 64)))]),none⟩,⟨none,.mput (.t 1) (.c (.str [105,100,101,109,112,111,116,101,110,116])) (.t 11),none⟩,⟨some 12,.val (.build [.int .i64 0,.int .i64 0] [(0,1,(.c (.int .i64 4))),(1,1,(.c (.int .i64 64)))]),none⟩,⟨none,.mput (.t 1) (.c (.str [116,105,109,101,111,117,116])) (.t 12),none⟩,⟨some 13,.val (.build [.int .i64 0,.int .i64 0] [(0,1,(.c (.int .i64 7))),(1,1,(.c (.int .i64 64)))]),none⟩,⟨none,.mput (.t 1) (.c (.str [114,111,117,116,101])) (.t 13),none⟩,⟨some 14,.val (.build [.int .i64 0,.int .i64 0] [(0,1,(.c (.int .i64 7))),(1,1,(.c (.int .i64 34)))]),none⟩,⟨none,.mput (.t 1) (.c (.str [111,119,110,101,114])) (.t 14),none⟩,ja 15 1,ja 0 15]
abbrev QuB:RC:=jQ Quz (jQ QuA (.ret))
abbrev QuC:List RR:=[.tmp 0]
theorem QMO:CT 247 16 QuB QuC:=ck Tryz.func247 Tryz.ntmps247 (by decide +kernel)
abbrev QuD:IL:=[je 1 1 0,jh 2]
abbrev QuE:IL:=[jb 4 0 1,jc 5 4,jr 6 274 5,ja 3 6]
abbrev QuF:IL:=[ja 7 3,yc 8 7 0,ja 9 8,jg 10 3 9,jk 11 1 1 9,zn 12 7 11 9,D7 13 275 10 12 9,jj 14 9 13,ja 2 14]
abbrev QMP:RC:=jQ QuD (jQ QuE (jQ QuF (.ret)))
abbrev QMQ:List RR:=[.tmp 2]
theorem QMR:CT 248 15 QMP QMQ:=ck Tryz.func248 Tryz.ntmps248 (by decide +kernel)
abbrev QuG:IL:=[jh 4]
abbrev QuH:IL:=[ja 5 0,ja 6 1,yq 7 276 5 6,ym 8 7 0,ja 4 8]
abbrev QMS:RC:=jQ QuG (jQ QuH (.ret))
abbrev QMT:List RR:=[.tmp 4]
theorem QMU:CT 250 9 QMS QMT:=ck Tryz.func250 Tryz.ntmps250 (by decide +kernel)
abbrev QuI:IL:=[je 2 2 0,jh 3]
abbrev QuJ:IL:=[jb 4 0 2,jf 5 7 4,jb 6 0 1,jf 7 7 6,jy 8 232 5 7,ja 3 8]
abbrev QMV:RC:=jQ QuI (jQ QuJ (.ret))
abbrev QMW:List RR:=[.tmp 3]
theorem QMX:CT 251 9 QMV QMW:=ck Tryz.func251 Tryz.ntmps251 (by decide +kernel)
abbrev QuK:IL:=[je 1 1 0,⟨some 2,.val (.mov (.c (.nili))),none⟩]
abbrev QuL:IL:=[jb 4 0 1,jc 5 4,jr 6 221 5,ja 3 6]
abbrev QuM:IL:=[jf 7 7 1,⟨some 8,.val (.mki 238 (.t 7)),none⟩,ja 2 8]
abbrev QuN:IL:=[jb 10 0 1,jc 11 10,jt 12 11 11,ja 9 12]
abbrev QuO:IL:=[jb 13 3 1,jc 14 13,⟨some 15,.val (.mki 239 (.t 14)),none⟩,ja 2 15]
abbrev QuP:IL:=[jb 17 0 1,jc 18 17,jt 19 18 12,ja 16 19]
abbrev QuQ:IL:=[jb 20 4 1,jc 21 20,⟨some 22,.val (.mki 241 (.t 21)),none⟩,ja 2 22]
abbrev QuR:IL:=[jb 24 0 1,jc 25 24,jt 26 25 10,ja 23 26]
abbrev QuS:IL:=[jb 27 5 1,jc 28 27,jb 29 6 1,jc 30 29,⟨some 31,.val (.build [.nils,.nils] [(0,1,(.t 28)),(1,1,(.t 30))]),none⟩,⟨some 32,.val (.mki 244 (.t 31)),none⟩,ja 2 32]
abbrev QuT:IL:=[⟨some 2,.val (.mov (.c (.nili))),none⟩]
abbrev QMY:RC:=jQ QuK (.seq (.block 0 (jQ QuL (.cond (.t 3) (jQ QuM (.ret)) (jQ QuN (.cond (.t 9) (jQ QuO (.ret)) (jQ QuP (.cond (.t 16) (jQ QuQ (.ret)) (jQ QuR (.cond (.t 23) (jQ QuS (.ret)) (.skip)))))))))) (jQ QuT (.ret)))
abbrev QMZ:List RR:=[.tmp 2]
theorem QM0:CT 255 33 QMY QMZ:=ck Tryz.func255 Tryz.ntmps255 (by decide +kernel)
abbrev QuU:IL:=[je 2 2 0,je 3 3 1,jd 4 0]
abbrev QuV:IL:=[jb 6 0 2,jc 7 6,jb 8 0 3,jc 9 8,zt 10 7 9,ja 5 10]
abbrev QuW:IL:=[jb 11 0 2,jc 12 11,jb 13 0 3,jc 14 13,jy 15 101 12 14,ja 4 15]
abbrev QuX:IL:=[jb 17 0 2,jc 18 17,jr 19 221 18,jz 20 19,ja 16 20]
abbrev QuY:IL:=[jd 4 0]
abbrev QuZ:IL:=[jb 22 0 2,jc 23 22,jr 24 265 23,ja 21 24]
abbrev Qu0:IL:=[jb 25 2 2,jc 26 25,jb 27 2 3,jc 28 27,jy 29 280 26 28,ja 4 29]
abbrev Qu1:IL:=[jb 31 0 2,jc 32 31,jt 33 32 2,ja 34 33,jo 35 0 2 34,js 36 35 34,yt 37 36 3 34,jn 38 34 37,ja 30 38]
abbrev Qu2:IL:=[jb 39 1 2,jc 40 39,ML 41 40,jb 42 1 3,jc 43 42,ML 44 43,jy 45 101 41 44,ja 4 45]
abbrev Qu3:IL:=[jb 47 0 2,jc 48 47,jt 49 48 6,ja 46 49]
abbrev Qaf:IL:=[jb 50 1 2,yb 51 0 2 50,jr 52 282 51,jb 53 1 3,yb 54 0 3 53,jr 55 282 54,jy 56 281 52 55,ja 4 56]
abbrev Qag:IL:=[jb 57 1 2,jc 58 57,jb 59 1 3,jc 60 59,jy 61 281 58 60,ja 4 61]
abbrev QM1:RC:=jQ QuU (.seq (.block 0 (jQ QuV (.cond (.t 5) (jQ QuW (.ret)) (jQ QuX (.cond (.t 16) (jQ QuY (.ret)) (jQ QuZ (.cond (.t 21) (jQ Qu0 (.ret)) (jQ Qu1 (.cond (.t 30) (jQ Qu2 (.ret)) (jQ Qu3 (.cond (.t 46) (jD Qaf (.ret)) (.skip)))))))))))) (jQ Qag (.ret)))
abbrev QM2:List RR:=[.tmp 4]
theorem QM3:CT 256 62 QM1 QM2:=ck Tryz.func256 Tryz.ntmps256 (by decide +kernel)
abbrev Qu4:IL:=[jh 6]
abbrev Qu5:IL:=[jd 7 0]
abbrev Qu6:IL:=[ja 8 7,ja 9 2,jp 10 8 9]
abbrev Qu7:IL:=[ja 13 0,ja 14 1,ja 15 7,yi 16 14 15,⟨some 17,.call (.f 268) [(.t 13),(.t 16),(.c (.int .u8 128)),(.c (.int .u8 191))],none⟩,jz 18 17]
abbrev Qu8:IL:=[jh 6]
abbrev Qu9:IL:=[ja 11 7,jm 12 11 1,ja 7 12]
abbrev Qva:RC:=.seq (jQ Qu6 (jX 10 0)) (.seq (.block 1 (jQ Qu7 (.cond (.t 18) (jQ Qu8 (.ret)) (.skip)))) (.reg Qu9))
abbrev Qvb:IL:=[yj 6]
abbrev QM4:RC:=jQ Qu4 (.seq (jQ Qu5 (.block 0 (.loop Qva))) (jQ Qvb (.ret)))
abbrev QM5:List RR:=[.tmp 6]
theorem QM6:CT 267 19 QM4 QM5:=ck Tryz.func267 Tryz.ntmps267 (by decide +kernel)
abbrev Qvc:IL:=[jh 8]
abbrev Qvd:IL:=[ja 9 1,ja 10 0,ji 11 0 10,jp 12 9 11,ja 13 12,jg 14 0 13,jg 15 1 13,M1 16 14 15 13,jg 17 2 13,⟨some 18,.val (.bin .num .geq (.t 16) (.t 17)),(some (13,true))⟩,jj 19 13 18,ja 20 19,jg 21 0 20,jg 22 1 20,M1 23 21 22 20,jg 24 3 20,MO 25 23 24 20,jj 26 20 25,ja 8 26]
abbrev QM7:RC:=jQ Qvc (jQ Qvd (.ret))
abbrev QM8:List RR:=[.tmp 8]
theorem QM9:CT 268 27 QM7 QM8:=ck Tryz.func268 Tryz.ntmps268 (by decide +kernel)
abbrev Qve:IL:=[jd 4 0]
abbrev Qvf:IL:=[ja 6 0,ji 7 1 6,jd 8 0]
abbrev Qvg:IL:=[jp 9 8 7]
abbrev Qvh:IL:=[ja 10 8,ja 5 10]
abbrev Qvi:IL:=[ja 11 1,ja 12 0,ja 13 5,jl 14 2 12 13,jf 15 2 14,Fa 16 11 15]
abbrev Qvj:IL:=[ja 17 5,ja 4 17]
abbrev Qvk:IL:=[jm 18 8 1,ja 8 18]
abbrev Qvl:RC:=jQ Qvg (.seq (jX 9 0) (.seq (.block 1 (jQ Qvh (jQ Qvi (.cond (.t 16) (jQ Qvj (.ret)) (.skip))))) (.reg Qvk)))
abbrev Qvm:IL:=[jd 4 (-1)]
abbrev QNa:RC:=jQ Qve (.seq (jQ Qvf (.block 0 (.loop Qvl))) (jQ Qvm (.ret)))
abbrev QNb:List RR:=[.tmp 4]
theorem QNc:CT 272 19 QNa QNb:=ck Tryz.func272 Tryz.ntmps272 (by decide +kernel)
abbrev Qvn:IL:=[jh 4]
abbrev Qvo:IL:=[ja 5 0,ja 6 1,jy 7 288 5 6,ja 4 7]
abbrev QNd:RC:=jQ Qvn (jQ Qvo (.ret))
abbrev QNe:List RR:=[.tmp 4]
theorem QNf:CT 273 8 QNd QNe:=ck Tryz.func273 Tryz.ntmps273 (by decide +kernel)
abbrev Qvp:IL:=[jd 2 0]
abbrev Qvq:IL:=[N4 3 247,ja 4 0,⟨some 5,.val (.mget false (.agg [.int .i64 0,.int .i64 0]) (.t 3) (.t 4)),none⟩,⟨some 6,.val (.fld 0 none (.t 5)),none⟩,ja 2 6]
abbrev QNg:RC:=jQ Qvp (jQ Qvq (.ret))
abbrev QNh:List RR:=[.tmp 2]
theorem QNi:CT 274 7 QNg QNh:=ck Tryz.func274 Tryz.ntmps274 (by decide +kernel)
abbrev Qvr:IL:=[jd 4 0]
abbrev Qvs:IL:=[ja 6 0,ji 7 1 6,jd 8 0]
abbrev Qvt:IL:=[jp 9 8 7]
abbrev Qvu:IL:=[ja 10 8,ja 5 10]
abbrev Qvv:IL:=[ja 11 1,ja 12 0,ja 13 5,jl 14 14 12 13,jf 15 14 14,Fa 16 11 15]
abbrev Qvw:IL:=[ja 17 5,ja 4 17]
abbrev Qvx:IL:=[jm 18 8 1,ja 8 18]
abbrev Qvy:RC:=jQ Qvt (.seq (jX 9 0) (.seq (.block 1 (jQ Qvu (jQ Qvv (.cond (.t 16) (jQ Qvw (.ret)) (.skip))))) (.reg Qvx)))
abbrev Qvz:IL:=[jd 4 (-1)]
abbrev QNj:RC:=jQ Qvr (.seq (jQ Qvs (.block 0 (.loop Qvy))) (jQ Qvz (.ret)))
abbrev QNk:List RR:=[.tmp 4]
theorem QNl:CT 276 19 QNj QNk:=ck Tryz.func276 Tryz.ntmps276 (by decide +kernel)
abbrev QvA:IL:=[jd 4 0]
abbrev QvB:IL:=[ja 7 0,jr 8 292 7,ja 5 8]
abbrev QvC:IL:=[ja 9 1,jr 10 292 9,ja 6 10]
abbrev QvD:IL:=[ja 11 5]
abbrev QvE:IL:=[ja 12 6]
abbrev QvF:IL:=[jd 4 0]
abbrev QvG:IL:=[jd 4 (-1)]
abbrev QvH:IL:=[ja 13 6]
abbrev QvI:IL:=[jd 4 1]
abbrev QvJ:IL:=[ja 14 0,ja 15 1,⟨some 16,.val (.bin .str .lss (.t 14) (.t 15)),none⟩]
abbrev Qah:IL:=[jd 4 (-1)]
abbrev Qai:IL:=[ja 17 0,ja 18 1,⟨some 19,.val (.bin .str .gtr (.t 17) (.t 18)),none⟩]
abbrev Qaj:IL:=[jd 4 1]
abbrev Qak:IL:=[jd 4 0]
abbrev QNm:RC:=jQ QvA (jQ QvB (jQ QvC (.seq (jQ QvD (.cond (.t 11) (.seq (jQ QvE (.cond (.t 12) (jQ QvF (.ret)) (.skip))) (jQ QvG (.ret))) (.skip))) (.seq (jQ QvH (.cond (.t 13) (jQ QvI (.ret)) (.skip))) (.seq (jQ QvJ (.cond (.t 16) (jQ Qah (.ret)) (.skip))) (.seq (jQ Qai (.cond (.t 19) (jQ Qaj (.ret)) (.skip))) (jQ Qak (.ret))))))))
abbrev QNn:List RR:=[.tmp 4]
theorem QNo:CT 280 20 QNm QNn:=ck Tryz.func280 Tryz.ntmps280 (by decide +kernel)
abbrev QvK:IL:=[jd 4 0]
abbrev QvL:IL:=[ja 7 0,jr 8 293 7,ja 5 8]
abbrev QvM:IL:=[ja 9 1,jr 10 293 9,ja 6 10]
abbrev QvN:IL:=[ja 11 5]
abbrev QvO:IL:=[ja 12 6]
abbrev QvP:IL:=[jd 4 0]
abbrev QvQ:IL:=[jd 4 (-1)]
abbrev QvR:IL:=[ja 13 6]
abbrev QvS:IL:=[jd 4 1]
abbrev QvT:IL:=[ja 14 0,ja 15 1,jp 16 14 15]
abbrev Qal:IL:=[jd 4 (-1)]
abbrev Qam:IL:=[ja 17 0,ja 18 1,zy 19 17 18]
abbrev Qan:IL:=[jd 4 1]
abbrev Qao:IL:=[jd 4 0]
abbrev QNp:RC:=jQ QvK (jQ QvL (jQ QvM (.seq (jQ QvN (.cond (.t 11) (.seq (jQ QvO (.cond (.t 12) (jQ QvP (.ret)) (.skip))) (jQ QvQ (.ret))) (.skip))) (.seq (jQ QvR (.cond (.t 13) (jQ QvS (.ret)) (.skip))) (.seq (jQ QvT (.cond (.t 16) (jQ Qal (.ret)) (.skip))) (.seq (jQ Qam (.cond (.t 19) (jQ Qan (.ret)) (.skip))) (jQ Qao (.ret))))))))
abbrev QNq:List RR:=[.tmp 4]
theorem QNr:CT 281 20 QNp QNq:=ck Tryz.func281 Tryz.ntmps281 (by decide +kernel)
abbrev QvU:IL:=[jh 4]
abbrev QvV:IL:=[ja 5 0,ji 6 0 5,ja 7 1,ji 8 0 7,⟨some 9,.val (.bin .num .geq (.t 6) (.t 8)),none⟩,ja 10 9,jg 11 0 10,jg 12 1 10,ys 13 0 12 10,⟨some 14,.val (.slc none (.t 11) none (some (.t 13)) none),(some (10,true))⟩,jg 15 1 10,MS 16 14 15 10,jj 17 10 16,ja 4 17]
abbrev QNs:RC:=jQ QvU (jQ QvV (.ret))
abbrev QNt:List RR:=[.tmp 4]
theorem QNu:CT 288 18 QNs QNt:=ck Tryz.func288 Tryz.ntmps288 (by decide +kernel)
abbrev QvW:IL:=[jh 2]
abbrev QvX:IL:=[ja 3 0,ja 4 0,⟨some 5,.val (.bin .str .neq (.t 3) (.t 4)),none⟩,ja 2 5]
abbrev QNv:RC:=jQ QvW (jQ QvX (.ret))
abbrev QNw:List RR:=[.tmp 2]
theorem QNx:CT 292 6 QNv QNw:=ck Tryz.func292 Tryz.ntmps292 (by decide +kernel)
abbrev QvY:IL:=[jh 2]
abbrev QvZ:IL:=[ja 3 0,ja 4 0,zt 5 3 4,ja 2 5]
abbrev QNy:RC:=jQ QvY (jQ QvZ (.ret))
abbrev QNz:List RR:=[.tmp 2]
theorem QNA:CT 293 6 QNy QNz:=ck Tryz.func293 Tryz.ntmps293 (by decide +kernel)
end Go.Proofs.YtdhlbgejhcejcaaGreatDoor.Rc

namespace Go.Proofs.YtdhlbgejhcejcaaGreatDoor.Bt
open Go

theorem Wz (n:Int):IntKind.u64.wrap n=n % 18446744073709551616:=by simp[IntKind.wrap,IntKind.bits,IntKind.signed]
theorem wu8 (n:Int):IntKind.u8.wrap n=n % 256:=by simp[IntKind.wrap,IntKind.bits,IntKind.signed]
theorem QF (n:Int):IntKind.i64.wrap n=(n+9223372036854775808) % 18446744073709551616-9223372036854775808:=IntKind.wrap_i64 n

theorem W2 {n:Nat}(h:n<18446744073709551616):(BitVec.ofInt 64 (n:Int)).toNat=n:=by
 simp;omega

theorem Vj (a b:Nat)(ha:a<18446744073709551616)(hb:b<18446744073709551616):bits .xor .u64 (a:Int) (b:Int)=((a ^^^ b:Nat):Int):=by
 have hx:a ^^^ b<2 ^ 64:=Nat.xor_lt_two_pow (by omega) (by omega);show IntKind.u64.wrap ((BitVec.ofInt 64 (a:Int) ^^^ BitVec.ofInt 64 (b:Int)).toNat:Int)=_;rw[BitVec.toNat_xor,W2 ha,W2 hb,Wz];omega
theorem U4 (a b:Nat)(ha:a<18446744073709551616)(hb:b<18446744073709551616):bits .and .u64 (a:Int) (b:Int)=((a &&& b:Nat):Int):=by
 have hx:a &&& b<2 ^ 64:=Nat.and_lt_two_pow _ (by omega);show IntKind.u64.wrap ((BitVec.ofInt 64 (a:Int) &&& BitVec.ofInt 64 (b:Int)).toNat:Int)=_;rw[BitVec.toNat_and,W2 ha,W2 hb,Wz];omega
theorem BA (a:Nat)(ha:a<18446744073709551616):a ^^^ 18446744073709551615=18446744073709551615-a:=by
 have h1:(BitVec.ofNat 64 a ^^^ BitVec.allOnes 64).toNat=a ^^^ 18446744073709551615:=by
  rw[BitVec.toNat_xor,BitVec.toNat_ofNat,BitVec.toNat_allOnes,Nat.mod_eq_of_lt (by omega)]
 rw[←h1,BitVec.xor_allOnes,BitVec.toNat_not,BitVec.toNat_ofNat,Nat.mod_eq_of_lt (by omega)]

theorem BB (a:Int)(h0:0≤a)(h1:a<18446744073709551616):bits .xor .u64 a 0=a:=by
 obtain⟨n,rfl⟩:=QV1 h0;have:=Vj n 0 (by omega) (by omega);rw[Nat.xor_zero]at this;exact this
theorem BC (a:Int)(h0:0≤a)(h1:a<18446744073709551616):bits .xor .u64 a 18446744073709551615=18446744073709551615-a:=by
 obtain⟨n,rfl⟩:=QV1 h0;have:=Vj n 18446744073709551615 (by omega) (by omega);rw[BA n (by omega)]at this;rw[show((18446744073709551615:Nat):Int)=18446744073709551615 from rfl]at this;rw[this];omega
end Go.Proofs.YtdhlbgejhcejcaaGreatDoor.Bt

set_option linter.unusedSimpArgs false
namespace Go.Proofs.YtdhlbgejhcejcaaGreatDoor.Va
open Go Am Rc Bt

def isk (k:Int):Bool:=decide (k≥1)&&decide (k≤9)
def Zb (k:Int):Bool:=k==7||k==8
def wk (k:Int):Int:=if k=1∨k=4∨k=5∨k=9 then 0 else if k=2∨k=3 then 1 else if k=6 then 2 else if k=7∨k=8 then 3 else if k=10 then 4 else -1

theorem TQ (k:Int):Qk Tryz.prog 80 [.int .i64 k] (.bool (isk k)):=by
 refine k80.fn (by simp) ?_;simp only[isk,Qa,seval];cases h:decide (k≥1)<;>simp only[QVZ,QVQ,Qa,seval]

theorem BD (k:Int):Qk Tryz.prog 221 [.int .i64 k] (.bool (isk k)):=by
 refine QjQ.fn (by simp) ?_;simp only[isk,Qa,seval];cases h:decide (k≥1)<;>simp only[QVZ,QVQ,Qa,seval]

theorem HE (k:Int):Qk Tryz.prog 205 [.int .i64 k] (.bool (Zb k)):=by
 refine QL1.fn (by simp) ?_;simp only[Zb,Qa,seval];cases h:(k==7)<;>simp only[QV2,QV3,Qa,seval]

theorem Qv1 (k:Int):Qk Tryz.prog 265 [.int .i64 k] (.bool (Zb k)):=by
 refine Ql0.fn (by simp) ?_;simp only[Zb,Qa,seval];cases h:(k==7)<;>simp only[QV2,QV3,Qa,seval]

def oc (n:Int)(s a:List UInt8)(c k kd t u:Int):AV:=.agg [.int .i64 n,.str s,.str a,.int .i64 c,.int .i64 k,.int .i64 kd,.int .i64 t,.int .i64 u]

def pk (c kd:Int):Bool:=c==4&&((decide (kd≥1)&&decide (kd≤6))||kd==9)
def Ps (c kd:Int):Int:=if c=5 then 6 else if pk c kd=true then 5 else wk kd

section
variable (n:Int)(s a:List UInt8)(c k kd t u:Int)

theorem Qv2:Qk Tryz.prog 116 [oc n s a c k kd t u] (.bool (pk c kd)):=by
 refine QdE.fn (by simp) ?_;simp only[oc,pk,eE,seval];cases h0:(c==4)<;>cases h1:decide (kd≥1)<;>cases h2:decide (kd≤6)<;>simp only[h1,h2,QVZ,QVQ,QV2,QV3,eE,seval]

theorem QNB:Qk Tryz.prog 199 [oc n s a c k kd t u] (.int .i64 (Ps c kd)):=by
 have hP:=Qv2 n s a c k kd t u;simp only[oc]at hP;refine Qiw.fn (by simp) ?_;simp only[oc,eE,seval];by_cases hc:c=5
 ·have b0:(c==5)=true:=by simp[hc]
  simp only[b0,Ps,QUQ hc,Qa,seval]
 ·have b0:(c==5)=false:=by simp[hc]
  simp only[b0,Ps,QUB hc,eE,seval];refine aC hP ?_;cases pk c kd
  ·simp only[QUG,eE,seval]
   repeat' (first|(refine Xr (fun h=>?_) (fun h=>?_)<;>simp only[h,Qa,seval])|(refine X3 (fun h=>?_) (fun h=>?_)<;>simp only[h,Qp,eE,seval])|(refine X4 (fun h=>?_) (fun h=>?_)<;>simp only[h,Qp,eE,seval]))
   all_goals((try simp only[QUt,QV4,ne_eq]at *)<;>unfold wk<;>(repeat' split)<;>first|rfl|(exfalso;omega))
  ·simp only[Qa,seval]

end

theorem Qm (i:Nat)(n:Nat)(h:i<n)(hn:n≤maxLen):IntKind.i64.wrap ((i:Int)+1)=((i+1:Nat):Int):=by
 simp only[maxLen]at hn;rw[QF];omega

theorem Ql {i n:Nat}(h:i<n):decide ((i:Int)<(n:Int))=true:=by simp;omega
theorem Qx {i n:Nat}(h:¬i<n):decide ((i:Int)<(n:Int))=false:=by simp;omega
theorem Qh (i:Nat):(0≤(i:Int))=True:=by simp

end Go.Proofs.YtdhlbgejhcejcaaGreatDoor.Va

namespace Go.Proofs.YtdhlbgejhcejcaaGreatDoor.Br
open Go Am Go.RowKit Go.WideShapes Go.ChangeShapes Go.ChangeAt Go.Joins Go.Deep Go.WideElems Go.Maps

section
variable {H:Type}{enc:TypeId×Value→H}{P:Program}{W:World}{base:Nat}{sp:Nat→Bool}{held:Bool}

end

theorem Hq {X α:Type}{f:X→List α}{sz:Nat}(hsz:0<sz)(hf:∀x,(f x).length=sz):∀(xs:List X) (j:Nat),(xs.flatMap f)[j]? = (xs[j / sz]?).bind fun x=>(f x)[j % sz]?
 | [],j=>by simp
 |x :: xs,j=>by
  rw[QVP];by_cases hj:j<sz
  ·rw[QVL (by rw[hf];exact hj),Nat.div_eq_of_lt hj,Nat.mod_eq_of_lt hj];rfl
  ·obtain⟨i,rfl⟩:∃i,j=sz+i:=⟨j-sz,by omega⟩;rw[QVM (by rw[hf];omega),hf,Hq hsz hf xs,show sz+i-sz=i by omega,show(sz+i) / sz=i / sz+1 by rw[Nat.add_div_left _ hsz],Nat.add_mod_left];rfl

section
variable {H:Type}{enc:TypeId×Value→H}{P:Program}{W:World}

structure El (enc:TypeId×Value→H)(P:Program)(e:TypeId)(sz:Nat)(X:Type) where
 av:X→AV
 vals:X→List Value
 Vr:X→DataW H
 ok:X→Prop
 pos:0<sz
 len:∀x,(vals x).length=sz
 cells:∀x,(av x).cells.length=sz
 rfl':∀x,AV.rfL (av x).cells=true
 leaf:∀x,(av x).cells.all AV.leaf=true
 rep:∀(G:Gh) x,RepL G (av x).cells (vals x)
 opened:∀ {W:World} {n:Nat} {cs:List Value} {d:DataW H} {pl:List MemPlace},cs.length=sz→DataW.trod enc P W 0 (fun _=>true) true n e cs=some (d,pl)→∃x,ok x∧cs=vals x∧d=Vr x∧pl=[]
 shut:∀(W:World) (sp:Nat→Bool) x,ok x→∃n,DataW.trod enc P W 0 sp true n e (vals x)=some (Vr x,[])

end

def Xy:List AV→AV
 | [x]=>x
 |l=>.agg l

def GJ (P:Program):Nat→List Field→Nat→Bool
 |o,[],n=>Nat.beq o n
 |o,f :: fs,n=>Nat.beq f.offset o&&GJ P (o+P.cellsOf f.type) fs n

def Pt (P:Program)(ts:List TypeId)(t:TypeId):Bool :=
 match P.underlying t with
 |some (.int _)|some .bool|some .string=>P.cellsOf t==1
 |some (.struct fs)=>GJ P 0 fs.toList (P.cellsOf t)&&fs.toList.all fun f=>ts.contains f.type
 |some (.slice e)=>P.cellsOf t==1&&(decide (0<P.cellsOf e)&&decide (0<P.bytesOf e))&&ts.contains e
 |_=>false
def Pu (P:Program)(ts:List TypeId):Bool:=ts.all (Pt P ts)

def Q7 (P:Program)(M:Nat):Nat→TypeId→List AV→Prop
 |0,_,_=>False
 |k+1,t,cs=>match P.underlying t with
  |some (.int ik)=>∃n,cs=[.int ik n]∧(Lit.int ik n).wf=true
  |some .bool=>∃b,cs=[.bool b]
  |some .string=>∃s,cs=[.str s]∧s.length≤M
  |some (.struct fs)=>HasL (Q7 P M k) fs.toList cs
  |some (.slice e)=>∃l:List (List AV),cs=[.list (l.map Xy)]∧(l.length≤maxLen∧(M=reachBytes→l.length*P.bytesOf e≤M))∧(∀c∈l,Q7 P M k e c)∧l.length≤M
  |_=>False
where
 HasL (h:TypeId→List AV→Prop):List Field→List AV→Prop
  | [],cs=>cs=[]
  |f :: fs,cs=>∃a b,cs=a++b∧h f.type a∧HasL h fs b

theorem Hr {l:List AV}(h:l.all AV.leaf=true):(Xy l).cells=l:=by
 match l,h with
 | [],_=>rfl
 | [x],h=>cases x<;>first|rfl|simp[AV.leaf]at h
 |_ :: _ :: _,_=>rfl

mutual
def wt:AV→Nat
 |.list l=>1+JH l
 |.agg l=>JH l
 |_=>1
def JH:List AV→Nat
 | []=>0
 |x :: l=>wt x+JH l
end
theorem Vk (a b:List AV):JH (a++b)=JH a+JH b:=by
 induction a with
 |nil=>simp[JH]
 |cons x a ih=>simp only[QUJ,JH,ih];omega
theorem RS:∀l:List AV,wt (Xy l)=JH l
 | []=>by simp[Xy,wt]
 | [x]=>by simp[Xy,JH]
 |_ :: _ :: _=>by simp[Xy,wt]

theorem UA {G:Gh}:∀ {ls:List (List AV)} {cs:List (List Value)},ls.length=cs.length→(∀i (h1:i<ls.length) (h2:i<cs.length),RepL G ls[i] cs[i])→RepL G ls.flatten cs.flatten
 | [],[],_,_=>.nil
 |l :: ls,c :: cs,hn,h=>by
  rw[List.flatten_cons,List.flatten_cons];exact RepL.append (h 0 (by simp) (by simp)) (UA (by simpa using hn) fun i h1 h2=>h (i+1) (by simpa using h1) (by simpa using h2))
 | [],_ :: _,hn,_=>by simp at hn
 |_ :: _,[],hn,_=>by simp at hn

section
variable {H:Type}{enc:TypeId×Value→H}{P:Program}{W:World}{M:Nat}

theorem HF {d:DataW H}:∀ {l:List (DataW H)},d∈l→Rows.uptoBulk d≤Rows.uptoBulkAll l
 | [],h=>by cases h
 |x :: l,h=>by
  rw[Rows.uptoBulkAll];rcases QVI.1 h with rfl|h
  ·omega
  ·have:=HF h;omega

theorem RT (d:DataW H):1≤Rows.uptoBulk d:=by unfold Rows.uptoBulk;split<;>omega
theorem GK {x:AV}(h:wt x=1)(d:DataW H):JH [x]≤Rows.uptoBulk d:=by
 have:=RT d;rw[JH,JH,h];exact this
theorem RU (a b:List (DataW H)):Rows.uptoBulkAll (a++b)=Rows.uptoBulkAll a+Rows.uptoBulkAll b:=by
 induction a with
 |nil=>simp[Rows.uptoBulkAll]
 |cons x a ih=>simp only[QUJ,Rows.uptoBulkAll,ih];omega
theorem BE (F:Nat→List AV)(xs:List (DataW H))(h:∀i d,xs[i]? = some d→JH (F i)≤Rows.uptoBulk d):∀n,n≤xs.length→JH (((List.range n).map F).map Xy)≤Rows.uptoBulkAll (xs.take n)
 |0,_=>QUv _
 |n+1,hn=>by
  have hx:xs[n]? = some xs[n]:=QUo (by omega);have:=BE F xs h n (by omega);have h1:=h n _ hx;rw[List.range_succ,QV5,QV5,Vk,QV6,hx,RU];simp only[QUT,QVn,JH,RS,QV7,Rows.uptoBulkAll];omega

def TR (P:Program)(M:Nat)(t:TypeId)(d:DataW H):Prop:=M=maxLen∨(M≠reachBytes∧Rows.uptoBulk d≤M)∨(d.weights P t).all (·≤M)=true

theorem Ke {t:TypeId}{d:DataW H}:∀ {ts:List TypeId} {ds:List (DataW H)} (i:Nat),(DataW.weightsEach P ts ds).all (·≤M)=true→ts[i]? = some t→ds[i]? = some d→(d.weights P t).all (·≤M)=true
 | [],_,_,_,h,_=>by simp at h
 |_ :: _,[],_,_,_,h=>by simp at h
 |t' :: ts,d' :: ds,0,h,h1,h2=>by
  rw[DataW.weightsEach,QVD,QUL]at h;cases h1;cases h2;exact h.1
 |t' :: ts,d' :: ds,i+1,h,h1,h2=>by
  rw[DataW.weightsEach,QVD,QUL]at h;exact Ke i h.2 (by simpa using h1) (by simpa using h2)

theorem Yt {e:TypeId}{d:DataW H}:∀ {ds:List (DataW H)},(DataW.weightsAll P e ds).all (·≤M)=true→d∈ds→(d.weights P e).all (·≤M)=true
 | [],_,h=>by cases h
 |d' :: ds,h,hd=>by
  rw[DataW.weightsAll,QVD,QUL]at h;rcases QVI.1 hd with rfl|hd
  ·exact h.1
  ·exact Yt h.2 hd

def Opn (W:World)(h:List AV→Prop)(B n:Nat)(cs:List Value):Prop :=
 ∃avs,h avs∧RepL (Gh.bare fun b o=>sv W b o) avs cs∧avs.length=n∧AV.rfL avs=true∧avs.all AV.leaf=true∧JH avs≤B

theorem Hs {h:TypeId→List AV→Prop}{cs:List Value}:∀(fs:List Field) (ds:List (DataW H)) (o:Nat),GJ P o fs cs.length=true→fs.length=ds.length→(∀(i:Nat) (f:Field) (d:DataW H),fs[i]? = some f→ds[i]? = some d→Opn W (h f.type) (Rows.uptoBulk d) (P.cellsOf f.type) ((cs.drop f.offset).take (P.cellsOf f.type)))→
  Opn W (Q7.HasL h fs) (Rows.uptoBulkAll ds) (cs.length-o) (cs.drop o)
 | [],_,o,hc,_,_=>by
  have e:o=cs.length:=QUj hc;refine⟨[],rfl,?_,by simp[e],rfl,rfl,QUv _⟩;rw[e,List.drop_length];exact .nil
 |_ :: _,[],_,_,hl,_=>by simp at hl
 |f :: fs,d :: ds,o,hc,hl,hf=>by
  simp only[GJ,QUL]at hc;have eo:f.offset=o:=QUj hc.1;obtain⟨a,a1,a2,a3,a4,a5,a6⟩:=hf 0 f d rfl rfl;obtain⟨b,b1,b2,b3,b4,b5,b6⟩:=Hs fs ds _ hc.2 (by simpa using hl) fun i g d hg hd=>hf (i+1) g d (by simpa using hg) (by simpa using hd)
  rw[eo]at a2;refine⟨a++b,⟨a,b,rfl,a1,b1⟩,?_,?_,by rw[K8,a4,b4]<;>rfl,by rw[QVD,a5,b5]<;>rfl,by rw[Vk,Rows.uptoBulkAll];omega⟩
  ·have:=RepL.append a2 b2
   rwa [←QUP,QVC]at this
  ·have hlen:a.length=((cs.drop o).take (P.cellsOf f.type)).length:=(RepL.length a2).symm;rw[QUZ,a3,b3];rw[a3,QVj,QU2]at hlen;omega

theorem UB {ts:List TypeId}(hP:Pu P ts=true):∀(k:Nat) (t:TypeId) (cs:List Value) (d:DataW H) (pl:List MemPlace),ts.contains t=true→DataW.trod enc P W 0 (fun _=>true) true k t cs=some (d,pl)→TR P M t d→
  Opn W (Q7 P M k t) (Rows.uptoBulk d) (P.cellsOf t) cs
 |0,_,_,_,_,_,h,_=>by simp[DataW.trod]at h
 |k+1,t,cs,d,pl,ht,h,hb=>by
  have hp:=QUz.1 hP t (by simpa using ht);unfold Pt at hp;split at hp
  ·rename_i ik hu;obtain⟨v,rfl,_,hw⟩:=DataW.trod_int hu h;refine⟨[.int ik v],?_,.cons (.int ik v) .nil,by rw[QUt]at hp;simp[hp],rfl,rfl,GK rfl _⟩;simp only[Q7,hu];exact⟨v,rfl,hw⟩
  ·rename_i hu;obtain⟨b,rfl,_⟩:=DataW.trod_bool hu h;refine⟨[.bool b],?_,.cons (.bool b) .nil,by rw[QUt]at hp;simp[hp],rfl,rfl,GK rfl _⟩;simp only[Q7,hu];exact⟨b,rfl⟩
  ·rename_i hu;obtain⟨⟨⟨s⟩⟩,rfl,e,hw⟩:=DataW.trod_string hu h;have hw:s.length≤M:=by
    cases e;rcases hb with rfl|hb|hb
    ·exact hw
    ·replace hb:=hb.2;rw[Rows.uptoBulk]at hb;exact QUl (Nat.le_succ _) hb
    ·rw[DataW.weights]at hb
     simpa using hb
   refine⟨[.str s],?_,.cons (.str s) .nil,by rw[QUt]at hp;simp[hp],rfl,rfl,GK rfl _⟩;simp only[Q7,hu];exact⟨s,rfl,hw⟩
  ·rename_i fs hu;simp only[QUL,QUz]at hp;obtain⟨xs,n',hk,e,hlen,hxl,hx⟩:=DataW.trod_struct hu h;obtain rfl:k=n':=by omega
   have hbx:∀(i:Nat) x (f:Field),xs[i]? = some x→fs[i]? = some f→TR P M f.type x.1:=fun i x f hx hf=>by
    cases e;refine hb.imp id fun hb=>hb.imp (fun hb=>⟨hb.1,?_⟩) fun hb=>?_
    ·replace hb:=hb.2;rw[Rows.uptoBulk]at hb;have:=HF (l:=xs.map (·.1)) (QVG.2 ⟨x,QUA hx,rfl⟩);omega
    ·rw[DataW.weights,hu]at hb;exact Ke i hb (by simp[hf]) (by simp[hx])
   have:=Hs (W:=W) (h:=Q7 P M k) (cs:=cs) fs.toList (xs.map (·.1)) 0 (by rw[hlen];exact hp.1) (by simp[hxl]) (fun i f d hi hd=>by
    have hi':fs[i]? = some f:=by simpa using hi
    have hf:f∈fs.toList:=QUA hi;obtain⟨x,hxi,rfl⟩:∃x,xs[i]? = some x∧x.1=d:=by
     rw[QVJ]at hd;obtain⟨x,h1,h2⟩:=QUq.1 hd;exact⟨x,h1,h2⟩
    have h2:=hx i f hi';rw[hxi]at h2;exact UB hP k f.type _ _ _ (hp.2 f hf) h2 (hbx i _ f hxi hi'))
   rw[QU4,QVF,hlen]at this;obtain⟨avs,h1,h2,h3,h4,h5,h6⟩:=this;refine⟨avs,?_,h2,h3,h4,h5,by cases e;rw[Rows.uptoBulk];omega⟩;simp only[Q7,hu];exact h1
  ·rename_i e hu;simp only[QUL,QUs,QUt]at hp;obtain⟨⟨h1,h0,hby⟩,hpe⟩:=hp;rcases DataW.trod_slice hu h with⟨rfl,_⟩|⟨a,len,cap,elems,rest,n',hk,rfl,e0,_,hl,hm,hln0,hel,_⟩
   ·refine⟨[.list []],?_,.cons (.list (cs:=[]) (sz:=0) .nil (by simp) rfl rfl (by simp) rfl (QUv _) (QUv _)) .nil,by simp[h1],rfl,rfl,GK rfl _⟩;simp only[Q7,hu];exact⟨[],rfl,⟨QUv _,fun _=>by simp⟩,by simp,QUv _⟩
   ·obtain rfl:k=n':=by omega
    have hbx:∀x∈elems,TR P M e x.1:=fun x hx=>by
     cases e0;refine hb.imp id fun hb=>hb.imp (fun hb=>⟨hb.1,?_⟩) fun hb=>?_
     ·replace hb:=hb.2;rw[Rows.uptoBulk]at hb;have:=HF (l:=elems.map (·.1)) (QVG.2 ⟨x,hx,rfl⟩);omega
     ·rw[DataW.weights,hu,QVx,QVD,QUL,QUL]at hb;exact Yt hb.2.1 (QVG.2 ⟨x,hx,rfl⟩)
    have hlenM:len≤M:=by
     cases e0;rcases hb with rfl|hb|hb
     ·omega
     ·have key:∀l:List (DataW H),l.length≤Rows.uptoBulkAll l:=by
       intro l
       induction l with
       |nil=>simp
       |cons x l ih=>
        have:1≤Rows.uptoBulk x:=by unfold Rows.uptoBulk;split<;>omega
        rw[Rows.uptoBulkAll,QUC];omega
      replace hb:=hb.2;rw[Rows.uptoBulk]at hb;have:=key (elems.map (·.1));rw[QVh]at this;omega
     ·rw[DataW.weights,hu,QVx,QUL]at hb;have h5:=hb.1;simp only[QUs,QVh]at h5;have h6:elems.length*1≤(elems.length+rest.length)*P.bytesOf e:=Nat.mul_le_mul (Nat.le_add_right _ _) hby;omega
    have hlenB:M=reachBytes→len*P.bytesOf e≤M:=fun hM=>by
     cases e0;rcases hb with rfl|hb|hb
     ·exact absurd hM (by unfold maxLen reachBytes;omega)
     ·exact absurd hM hb.1
     ·rw[DataW.weights,hu,QVx,QUL]at hb;have h5:=hb.1;simp only[QUs,QVh]at h5;have h6:elems.length*P.bytesOf e≤(elems.length+rest.length)*P.bytesOf e:=Nat.mul_le_mul (Nat.le_add_right _ _) (QUm _);have h7:len*P.bytesOf e=elems.length*P.bytesOf e:=by rw[show len=elems.length by omega]
      omega
    haveI:Inhabited ({c:List Value // c.length=P.cellsOf e}×List AV):=⟨(⟨List.replicate (P.cellsOf e) (.bool false),by simp⟩,[])⟩
    obtain⟨F,hF⟩:=choose_lt (α:={c:List Value // c.length=P.cellsOf e}×List AV) (n:=len) (p:=fun i x=>W.cells? 0 (a.add (i*P.cellsOf e)) (P.cellsOf e)=some x.1.1∧Q7 P M k e x.2∧RepL (Gh.bare fun b o=>sv W b o) x.2 x.1.1∧x.2.length=P.cellsOf e∧AV.rfL x.2=true∧x.2.all AV.leaf=true∧∀d,elems[i]? = some d→JH x.2≤Rows.uptoBulk d.1) (fun i hi=>by
     have hb:=hel i hi;rw[QUo (by omega)]at hb;obtain⟨cs',c1,c2⟩:=Option.bind_eq_some_iff.1 hb;obtain⟨_,hln,_⟩:=World.cells?_some c1;obtain⟨avs,o1,o2,o3,o4,o5,o6⟩:=UB hP k e cs' _ _ hpe c2 (hbx _ (QVe _));exact⟨(⟨cs',hln⟩,avs),c1,o1,o2,o3,o4,o5,fun d hd=>by
      rw[QUo (by omega)]at hd;cases hd;exact o6⟩)
    have cellAt:∀i j,i<len→j<P.cellsOf e→W.cell? (a.add (i*P.cellsOf e+j))=(F i).1.1[j]?:=by
     intro i j hi hj;obtain⟨_,_,h3⟩:=World.cells?_some (hF i hi).1;rw[←h3 j hj,add_add]
    have hspot:0<len→a.spot=none:=by
     intro hc;have:=cellAt 0 0 hc h0;rw[Nat.zero_mul,show a.add (0+0)=a from rfl,QUo (by rw[(F 0).1.2];exact h0)]at this;unfold World.cell? at this;split at this
     ·split at this
      ·cases this
      ·rename_i h;simpa using h
     ·cases this
    have hel':∀c∈(List.range len).map (fun i=>(F i).2),∃i,i<len∧c=(F i).2:=by
     intro c hc;obtain⟨i,hi,rfl⟩:=QVG.1 hc;exact⟨i,QVS.1 hi,rfl⟩
    have hflat:∀L:List (List AV),(∀c∈L,c.all AV.leaf=true)→QP (L.map Xy)=L.flatten:=by
     intro L
     induction L with
     |nil=>intro _;rfl
     |cons c L ih=>
      intro hh;show(Xy c).cells++QP (L.map Xy)=c++L.flatten;rw[Hr (hh c (by simp)),ih fun x hx=>hh x (by simp[hx])]
    have hrf:∀L:List (List AV),(∀c∈L,AV.rfL c=true)→AV.rfL L.flatten=true:=by
     intro L
     induction L with
     |nil=>intro _;rfl
     |cons c L ih=>
      intro hh;rw[List.flatten_cons,K8,hh c (by simp),ih fun x hx=>hh x (by simp[hx])]<;>rfl
    have hlf:∀L:List (List AV),(∀c∈L,c.all AV.leaf=true)→L.flatten.all AV.leaf=true:=by
     intro L
     induction L with
     |nil=>intro _;rfl
     |cons c L ih=>
      intro hh;rw[List.flatten_cons,QVD,hh c (by simp),ih fun x hx=>hh x (by simp[hx])]<;>rfl
    have hl1:∀c∈(List.range len).map (fun i=>(F i).2),c.all AV.leaf=true:=fun c hc=>by
     obtain⟨i,hi,rfl⟩:=hel' c hc;exact(hF i hi).2.2.2.2.2.1
    have hl2:∀c∈(List.range len).map (fun i=>(F i).2),AV.rfL c=true:=fun c hc=>by
     obtain⟨i,hi,rfl⟩:=hel' c hc;exact(hF i hi).2.2.2.2.1
    have hwt:JH [.list (((List.range len).map fun i=>(F i).2).map Xy)]≤Rows.uptoBulk d:=by
     cases e0;have hw:=fun n hn=>BE (fun i=>if i<len then(F i).2 else []) (elems.map (·.1)) (fun i d hd=>by
      rw[QVJ]at hd;obtain⟨x,h1,rfl⟩:=QUq.1 hd;by_cases hi:i<len
      ·rw[QUQ hi];exact(hF i hi).2.2.2.2.2.2 x h1
      ·rw[QUB hi];exact QUv _) n hn
     have h1:=hw len (by rw[QVh];omega);rw[QUV (by rw[QVh];omega)]at h1;have h2:(List.range len).map (fun i=>if i<len then(F i).2 else [])=(List.range len).map fun i=>(F i).2:=by
      refine QV8 fun i hi=>?_
      rw[QUQ (QVS.1 hi)]
     rw[h2]at h1;rw[JH,JH,wt,Rows.uptoBulk];omega
    refine⟨[.list (((List.range len).map fun i=>(F i).2).map Xy)],?_,.cons (.list (cs:=((List.range len).map fun i=>(F i).1.1).flatten) (sz:=P.cellsOf e) ?_ ?_ ?_ ?_ ?_ (by simp) hl (by omega)) .nil,by simp[h1],rfl,rfl,hwt⟩
    ·simp only[Q7,hu];refine⟨_,rfl,⟨by simp;omega,fun hM=>by simpa using hlenB hM⟩,?_,by simpa using hlenM⟩;intro c hc;obtain⟨i,hi,rfl⟩:=hel' c hc;exact(hF i hi).2.1
    ·rw[hflat _ hl1];refine UA (by simp) fun i g1 g2=>?_
     simp only[QVh,List.length_range]at g1;simp only[List.getElem_map,List.getElem_range];exact(hF i (by omega)).2.2.1
    ·intro x hx;obtain⟨c,hc,rfl⟩:=QVG.1 hx;rw[Hr (hl1 c hc)];obtain⟨i,hi,rfl⟩:=hel' c hc;exact(hF i hi).2.2.2.1
    ·rw[hflat _ hl1];exact hrf _ hl2
    ·rw[hflat _ hl1];exact hlf _ hl1
    ·intro j u hj;rw[←List.flatMap_def,Hq h0 (fun i=>(F i).1.2)]at hj;by_cases hi:j / P.cellsOf e<len
     ·rw[List.getElem?_range hi]at hj;have hj:(F (j / P.cellsOf e)).1.1[j % P.cellsOf e]? = some u:=hj;have hk:=cellAt (j / P.cellsOf e) (j % P.cellsOf e) (by omega) (Nat.mod_lt _ h0);rw[hj,Nat.div_add_mod']at hk;have hs:=hspot (Nat.lt_of_le_of_lt (QUv _) hi);obtain⟨b,o,s⟩:=a;subst hs;refine⟨b,o,rfl,?_⟩;refine U0 ?_;show W.cell? ⟨b,o+j,none⟩=some u;rw[←hk];unfold Addr.add;split
      ·rename_i h;rw[h];rfl
      ·rfl
     ·rw[QVK (by simp;omega)]at hj;cases hj
  ·cases hp

theorem YQ {t:TypeId}{v:Value}{d:DataW H}{p:List MemPlace}(hl:laidOutB P=true)(hr:P.readableRec t=true)(hrow:t<P.types.size)(h:DataW.Trod enc P W 0 (fun _=>true) true t v d p) :
  ∀(W':World) (sp:Nat→Bool),Below W.heap.size W W'→(∀q∈p,sp q.block=true)→DataW.Trod enc P W' 0 sp true t v d p:=by
 intro W' sp hb hs;obtain⟨n,hn⟩:=h;exact Trod_stays hl hr hrow ⟨n,hn⟩ (fun x hx=>hb.same (DataW.trod_lt n _ _ _ hn x hx)) hs

theorem Yl {t:TypeId}{fs:Array Field}{ts:List TypeId}{r:Reach}{b0:Nat}{v:Value}{d:DataW H}{p:List MemPlace}(hP:Pu P ts=true)(ht:ts.contains t=true)(hs:P.underlying t=some (.struct fs))(hv:Value.okWide P W r b0 t v)
  (h:DataW.Trod enc P W 0 (fun _=>true) true t v d p) (hb:TR P M t d):∃k avs,Q7 P M k t avs∧Rep (Gh.bare fun b o=>sv W b o) (.agg avs) v:=by
 obtain⟨⟨cs⟩,rfl,_⟩:=okWide_struct hs hv;obtain⟨n,hn⟩:=h;obtain⟨avs,h1,h2,_⟩:=UB hP n t _ _ _ ht hn hb;exact⟨n,avs,h1,.agg h2⟩
theorem Zz {X:Type}{f:X→List AV}{ok:X→Prop}:∀ {l:List (List AV)},(∀c∈l,∃x,ok x∧c=f x)→∃xs:List X,l=xs.map f∧∀x∈xs,ok x
 | [],_=>⟨[],rfl,by simp⟩
 |c :: l,h=>by
  obtain⟨x,hx,rfl⟩:=h c (by simp);obtain⟨xs,rfl,hxs⟩:=Zz (l:=l) fun c hc=>h c (by simp[hc])
  exact⟨x :: xs,rfl,by simpa using ⟨hx,hxs⟩⟩

end

end Go.Proofs.YtdhlbgejhcejcaaGreatDoor.Br

namespace Go.Proofs.YtdhlbgejhcejcaaGreatDoor.Br
open Go Am

section
variable {P:Program}{M k:Nat}{t:TypeId}{cs:List AV}

theorem XA {ik:IntKind}(hu:P.underlying t=some (.int ik))(h:Q7 P M k t cs):∃n,cs=[.int ik n]∧(Lit.int ik n).wf=true:=by
 cases k with
 |zero=>cases h
 |succ k=>simpa only [Q7,hu]using h

theorem RV (hu:P.underlying t=some .bool)(h:Q7 P M k t cs):∃b,cs=[.bool b]:=by
 cases k with
 |zero=>cases h
 |succ k=>simpa only [Q7,hu]using h

theorem JA (hu:P.underlying t=some .string)(h:Q7 P M k t cs):∃s,cs=[.str s]∧s.length≤M:=by
 cases k with
 |zero=>cases h
 |succ k=>simpa only [Q7,hu]using h

theorem Jo {e:TypeId}(hu:P.underlying t=some (.slice e))(h:Q7 P M k t cs):∃(k':Nat) (l:List (List AV)),cs=[.list (l.map Xy)]∧l.length≤maxLen∧∀c∈l,Q7 P M k' e c:=by
 cases k with
 |zero=>cases h
 |succ k=>
  simp only[Q7,hu]at h;obtain⟨l,h1,h2,h3,_⟩:=h;exact⟨k,l,h1,h2.1,h3⟩

theorem We {e:TypeId}(hu:P.underlying t=some (.slice e))(h:Q7 P M k t cs):∃(k':Nat) (l:List (List AV)),cs=[.list (l.map Xy)]∧l.length≤M∧∀c∈l,Q7 P M k' e c:=by
 cases k with
 |zero=>cases h
 |succ k=>
  simp only[Q7,hu]at h;obtain⟨l,h1,_,h3,h4⟩:=h;exact⟨k,l,h1,h4,h3⟩

theorem Zj {fs:Array Field}(hu:P.underlying t=some (.struct fs))(h:Q7 P M k t cs):∃k',Q7.HasL (Q7 P M k') fs.toList cs:=by
 cases k with
 |zero=>cases h
 |succ k=>
  simp only[Q7,hu]at h;exact⟨k,h⟩

end

structure PO where
 num:Int
 name:List UInt8
 alias:List UInt8
 card:Int
 key:Int
 kind:Int
 target:Int
 union:Int

def PO.cells (o:PO):List AV:=[.int .i64 o.num,.str o.name,.str o.alias,.int .i64 o.card,.int .i64 o.key,.int .i64 o.kind,.int .i64 o.target,.int .i64 o.union]

structure PO.ok (M:Nat)(o:PO):Prop where
 num:(Lit.int .i64 o.num).wf=true
 name:o.name.length≤M
 alias:o.alias.length≤M
 card:(Lit.int .i64 o.card).wf=true
 key:(Lit.int .i64 o.key).wf=true
 kind:(Lit.int .i64 o.kind).wf=true
 target:(Lit.int .i64 o.target).wf=true
 union:(Lit.int .i64 o.union).wf=true

theorem Qv4 {M k:Nat}{cs:List AV}(h:Q7 Tryz.prog M k 67 cs):∃o:PO,o.ok M∧cs=o.cells:=by
 obtain⟨k,h⟩:=Zj Tryz.underlying67 h;simp only[Q7.HasL]at h;obtain⟨_,_,rfl,h0,_,_,rfl,h1,_,_,rfl,h2,_,_,rfl,h3,_,_,rfl,h4,_,_,rfl,h5,_,_,rfl,h6,_,_,rfl,h7,rfl⟩:=h;obtain⟨a0,rfl,w0⟩:=XA Tryz.underlying3 h0;obtain⟨a1,rfl,w1⟩:=JA Tryz.underlying9 h1;obtain⟨a2,rfl,w2⟩:=JA Tryz.underlying9 h2;obtain⟨a3,rfl,w3⟩:=XA Tryz.underlying3 h3;obtain⟨a4,rfl,w4⟩:=XA Tryz.underlying3 h4;obtain⟨a5,rfl,w5⟩:=XA Tryz.underlying3 h5;obtain⟨a6,rfl,w6⟩:=XA Tryz.underlying3 h6;obtain⟨a7,rfl,w7⟩:=XA Tryz.underlying3 h7;exact⟨⟨a0,a1,a2,a3,a4,a5,a6,a7⟩,⟨w0,w1,w2,w3,w4,w5,w6,w7⟩,rfl⟩

structure PG where
 name:List UInt8
 ops:List PO
 unions:Int

def PG.cells (g:PG):List AV:=[.str g.name,.list (g.ops.map fun o=>.agg o.cells),.int .i64 g.unions]

structure PG.ok (M:Nat)(g:PG):Prop where
 name:g.name.length≤M
 len:g.ops.length≤maxLen
 ops:∀o∈g.ops,o.ok M
 unions:(Lit.int .i64 g.unions).wf=true

theorem RX {M k:Nat}{cs:List AV}(h:Q7 Tryz.prog M k 41 cs):∃g:PG,g.ok M∧cs=g.cells:=by
 obtain⟨k,h⟩:=Zj Tryz.underlying41 h;simp only[Q7.HasL]at h;obtain⟨_,_,rfl,h0,_,_,rfl,h1,_,_,rfl,h2,rfl⟩:=h;obtain⟨a0,rfl,w0⟩:=JA Tryz.underlying9 h0;obtain⟨k',l,rfl,w1,hl⟩:=Jo Tryz.underlying39 h1;obtain⟨a2,rfl,w2⟩:=XA Tryz.underlying3 h2;obtain⟨ops,rfl,hok⟩:=Zz (f:=PO.cells) (ok:=PO.ok M) fun c hc=>Qv4 (hl c hc)
 refine⟨⟨a0,ops,a2⟩,⟨w0,by simpa using w1,hok,w2⟩,?_⟩;simp only[PG.cells,QV9,QUJ,QUK];rfl

structure PS where
 lo:Int
 hi:Int

def PS.cells (x:PS):List AV:=[.int .i64 x.lo,.int .i64 x.hi]
def PS.ok (x:PS):Prop:=(Lit.int .i64 x.lo).wf=true∧(Lit.int .i64 x.hi).wf=true

theorem RY {M k:Nat}{cs:List AV}(h:Q7 Tryz.prog M k 119 cs):∃x:PS,x.ok∧cs=x.cells:=by
 obtain⟨k,h⟩:=Zj Tryz.underlying119 h;simp only[Q7.HasL]at h;obtain⟨_,_,rfl,h0,_,_,rfl,h1,rfl⟩:=h;obtain⟨a0,rfl,w0⟩:=XA Tryz.underlying3 h0;obtain⟨a1,rfl,w1⟩:=XA Tryz.underlying3 h1;exact⟨⟨a0,a1⟩,⟨w0,w1⟩,rfl⟩

structure PN where
 name:List UInt8
 val:List AV

def PN.cells (x:PN):List AV:=.str x.name :: x.val
def PN.ok (P:Program)(M:Nat)(t:TypeId)(x:PN):Prop:=x.name.length≤M∧∃k,Q7 P M k t x.val

theorem BF {M k:Nat}{cs:List AV}(h:Q7 Tryz.prog M k 94 cs):∃x:PN,x.ok Tryz.prog M 32∧cs=x.cells:=by
 obtain⟨k,h⟩:=Zj Tryz.underlying94 h;simp only[Q7.HasL]at h;obtain⟨_,_,rfl,h0,a1,_,rfl,h1,rfl⟩:=h;obtain⟨a0,rfl,w0⟩:=JA Tryz.underlying9 h0;exact⟨⟨a0,a1⟩,⟨w0,k,h1⟩,by simp[PN.cells]⟩

structure PI where
 name:List UInt8
 num:Int
 notes:List PN

def PI.cells (x:PI):List AV:=[.str x.name,.int .i64 x.num,.list (x.notes.map fun n=>Xy n.cells)]

structure PI.ok (M:Nat)(x:PI):Prop where
 name:x.name.length≤M
 num:(Lit.int .i64 x.num).wf=true
 len:x.notes.length≤maxLen
 notes:∀n∈x.notes,n.ok Tryz.prog M 32

theorem RZ {M k:Nat}{cs:List AV}(h:Q7 Tryz.prog M k 92 cs):∃x:PI,x.ok M∧cs=x.cells:=by
 obtain⟨k,h⟩:=Zj Tryz.underlying92 h;simp only[Q7.HasL]at h;obtain⟨_,_,rfl,h0,_,_,rfl,h1,_,_,rfl,h2,rfl⟩:=h;obtain⟨a0,rfl,w0⟩:=JA Tryz.underlying9 h0;obtain⟨a1,rfl,w1⟩:=XA Tryz.underlying3 h1;obtain⟨k',l,rfl,w2,hl⟩:=Jo Tryz.underlying88 h2;obtain⟨ns,rfl,hok⟩:=Zz (f:=PN.cells) (ok:=PN.ok Tryz.prog M 32) fun c hc=>BF (hl c hc)
 refine⟨⟨a0,a1,ns⟩,⟨w0,w1,by simpa using w2,hok⟩,?_⟩;simp only[PI.cells,QV9,QUJ,QUK];rfl

structure PE where
 name:List UInt8
 opn:Bool
 items:List PI
 free:List PS
 notes:List PN

def PE.cells (x:PE):List AV:=[.str x.name,.bool x.opn,.list (x.items.map fun n=>.agg n.cells),.list (x.free.map fun n=>.agg n.cells),.list (x.notes.map fun n=>Xy n.cells)]

structure PE.ok (M:Nat)(x:PE):Prop where
 name:x.name.length≤M
 len1:x.items.length≤maxLen
 items:∀n∈x.items,n.ok M
 len2:x.free.length≤maxLen
 free:∀n∈x.free,n.ok
 len3:x.notes.length≤maxLen
 notes:∀n∈x.notes,n.ok Tryz.prog M 32

theorem R0 {M k:Nat}{cs:List AV}(h:Q7 Tryz.prog M k 90 cs):∃x:PE,x.ok M∧cs=x.cells:=by
 obtain⟨k,h⟩:=Zj Tryz.underlying90 h;simp only[Q7.HasL]at h;obtain⟨_,_,rfl,h0,_,_,rfl,h1,_,_,rfl,h2,_,_,rfl,h3,_,_,rfl,h4,rfl⟩:=h;obtain⟨a0,rfl,w0⟩:=JA Tryz.underlying9 h0;obtain⟨a1,rfl⟩:=RV Tryz.underlying4 h1;obtain⟨k2,l2,rfl,w2,hl2⟩:=Jo Tryz.underlying86 h2;obtain⟨k3,l3,rfl,w3,hl3⟩:=Jo Tryz.underlying87 h3;obtain⟨k4,l4,rfl,w4,hl4⟩:=Jo Tryz.underlying88 h4;obtain⟨x2,rfl,o2⟩:=Zz (f:=PI.cells) (ok:=PI.ok M) fun c hc=>RZ (hl2 c hc)
 obtain⟨x3,rfl,o3⟩:=Zz (f:=PS.cells) (ok:=PS.ok) fun c hc=>RY (hl3 c hc)
 obtain⟨x4,rfl,o4⟩:=Zz (f:=PN.cells) (ok:=PN.ok Tryz.prog M 32) fun c hc=>BF (hl4 c hc)
 refine⟨⟨a0,a1,x2,x3,x4⟩,⟨w0,by simpa using w2,o2,by simpa using w3,o3,by simpa using w4,o4⟩,?_⟩;simp only[PE.cells,QV9,QUJ,QUK];rfl

structure PL where
 progs:List PG
 enums:List PE

def PL.av (p:PL):AV:=.agg [.list (p.progs.map fun n=>.agg n.cells),.list (p.enums.map fun n=>.agg n.cells)]

structure PL.ok (M:Nat)(x:PL):Prop where
 len1:x.progs.length≤maxLen
 progs:∀n∈x.progs,n.ok M
 len2:x.enums.length≤maxLen
 enums:∀n∈x.enums,n.ok M

theorem R1 {M k:Nat}{cs:List AV}(h:Q7 Tryz.prog M k 25 cs):∃x:PL,x.ok M∧.agg cs=x.av:=by
 obtain⟨k,h⟩:=Zj Tryz.underlying25 h;simp only[Q7.HasL]at h;obtain⟨_,_,rfl,h0,_,_,rfl,h1,rfl⟩:=h;obtain⟨k2,l2,rfl,w2,hl2⟩:=Jo Tryz.underlying22 h0;obtain⟨k3,l3,rfl,w3,hl3⟩:=Jo Tryz.underlying23 h1;obtain⟨x2,rfl,o2⟩:=Zz (f:=PG.cells) (ok:=PG.ok M) fun c hc=>RX (hl2 c hc)
 obtain⟨x3,rfl,o3⟩:=Zz (f:=PE.cells) (ok:=PE.ok M) fun c hc=>R0 (hl3 c hc)
 refine⟨⟨x2,x3⟩,⟨by simpa using w2,o2,by simpa using w3,o3⟩,?_⟩;simp only[PL.av,QV9,QUJ,QUK];rfl

end Go.Proofs.YtdhlbgejhcejcaaGreatDoor.Br

namespace Go.Proofs.YtdhlbgejhcejcaaGreatDoor.Va
open Go Am Rc Bt Br

def Q0 {α:Type}(p:α→Bool):List α→Nat→Int
 | [],_=>-1
 |x :: l,i=>if p x=true then(i:Int)else Q0 p l (i+1)

theorem Kx {α:Type}(p:α→Bool):∀(l:List α) (i:Nat),(Q0 p l i = -1∧l.find? p=none)∨∃k o,Q0 p l i=((i+k:Nat):Int)∧l[k]? = some o∧l.find? p=some o
 | [],_=>.inl ⟨rfl,rfl⟩
 |x :: l,i=>by
  unfold Q0;rw[QWa];cases h:p x with
  |true=>exact .inr ⟨0,x,by simp,rfl,rfl⟩
  |false=>
   simp only[QUG,if_false];rcases Kx p l (i+1)with h'|⟨k,o,h1,h2,h3⟩
   ·exact .inl h'
   ·exact .inr ⟨k+1,o,by rw[h1];congr 1;omega,by simpa using h2,h3⟩

theorem Ze {α:Type}(p:α→Bool){l:List α}{i:Nat}{x:α}(hx:l[i]? = some x):Q0 p (l.drop i) i=if p x=true then(i:Int)else Q0 p (l.drop (i+1)) (i+1):=by
 have hlt:i<l.length:=(QUn.1 hx).1;rw[QU5 hlt,show l[i]=x from(QUn.1 hx).2];rfl

def Qs (o:PO):AV:=.agg o.cells
def Qi (g:PG):AV:=.agg g.cells
def Q5 (x:PI):AV:=.agg x.cells
def Qq (x:PE):AV:=.agg x.cells

section ops
variable (L:List PO)(hl:L.length≤maxLen)(p:PO→Bool)(c:Nat)(cap:AV)(m:Qo)

def IxO (k:Nat)(st:St):Prop :=
 ∃f i,st=⟨f,Qc :: m,[]⟩∧k=L.length-i∧Q0 p L 0=Q0 p (L.drop i) i∧f 0=.list (L.map Qs)∧f 1=.fn (.func c) [] [cap.sh]∧f 7=.int .i64 (L.length:Nat)∧f 8=.int .i64 (i:Nat)

include hl in
theorem QNC (hc:∀o∈L,Qg Tryz.prog c [Qs o,cap.sh] (Qc :: m) fun y m1=>y=.bool (p o)∧m1=Qc :: m) :
  Qg Tryz.prog 196 [.list (L.map Qs),.fn (.func c) [] [cap]] m fun y m1=>y=.int .i64 (Q0 p L 0)∧m1=m:=by
 refine RK.go (by simp) ?_;simp only[QVh,Qa,seval];refine Qd (IxO L p c cap m) _ ⟨_,0,rfl,rfl,rfl,(by rfl),(by rfl),(by rfl),(by rfl)⟩ ?_;rintro _ st ⟨f,i,rfl,rfl,hx,h0,h1,h7,h8⟩;simp only[h7,h8,Qa,seval];by_cases hlt:i<L.length
 ·obtain⟨x,hi⟩:∃x,L[i]? = some x:=⟨L[i],QUo hlt⟩;have hcl:=hc x (QUA hi);have hg:(L.map Qs)[i]? = some (Qs x):=by simp[hi]
  have e1:=Qm i _ hlt hl;simp only[Qs,PO.cells]at hcl;simp only[Ql hlt,Qh,QVN,Qb,hg,Qs,PO.cells,h0,h1,h8,eE,seval];refine Xf (fa:=[]) (fb:=[cap.sh]) (by rfl) hcl (by simp only[QUT,QVn,QUK,QUJ,Qa,seval]) ?_;rw[Ze p hi]at hx;cases hp:p x
  ·rw[hp]at hx;simp only[QUG,if_false]at hx;simp only[h8,e1,Qa,seval];exact⟨L.length-(i+1),by omega,_,i+1,rfl,rfl,hx,(by exact h0),(by exact h1),(by exact h7),(by rfl)⟩
  ·rw[hp]at hx;simp only[if_true]at hx;simp only[hx,Qa,seval]
 ·have hx':Q0 p L 0 = -1:=by rw[hx,QUY (by omega)];rfl
  simp only[Qx hlt,hx',Qa,seval]

end ops

def W3:PO:=⟨0,[],[],0,0,0,0,0⟩
def GL (p:PO→Bool)(L:List PO):AV:=.tup [Qs ((L.find? p).getD W3),.bool (L.find? p).isSome]

theorem QND (g:PG)(hl:g.ops.length≤maxLen)(p:PO→Bool)(c:Nat)(cap:AV)(m:Qo)(hc:∀fr,∀o∈g.ops,Qg Tryz.prog c [Qs o,cap.sh.sh] (Qc :: fr :: m) fun y m1=>y=.bool (p o)∧m1=Qc :: fr :: m) :
  Qg Tryz.prog 114 [.agg [.fn (.func c) [] [cap]],Qi g] m fun y m1=>y=GL p g.ops∧m1=m:=by
 refine Qdz.go (by simp) ?_;simp only[Qi,PG.cells,eE,seval];refine Qj (QNC g.ops hl p c cap.sh _ fun o ho=>hc _ o ho) (by simp only[QUT,QVn,Qa,seval];rfl) ?_;rcases Kx p g.ops 0 with⟨h1,h2⟩|⟨j,o,h1,h2,h3⟩
 ·simp only[h1,GL,h2,QVW,QVc,W3,Qs,PO.cells,splice,QVu,QUK,QUX,QU4,QVA,QVp,QUC,QVi,QVx,QVy,AV.leaf,eE,seval]
 ·have hj:(g.ops.map fun o=>AV.agg o.cells)[j]? = some (.agg o.cells):=by simp[h2]
  have d:decide ((j:Int)<0)=false:=QWb (by omega);rw[QU3]at h1;simp only[PO.cells]at hj;simp only[h1,d,Qh,QVN,Qb,QU3,hj,GL,h3,QVw,QWc,Qs,PO.cells,splice,QVu,QUK,QUX,QU4,QVA,QVp,QUC,QVi,QVx,QVy,AV.leaf,eE,seval]

section
variable (o:PO)(fr frO:Nat→Ob)

theorem QNE (n:Int)(hf:frO 3=.cells [.int .i64 n]):Qg Tryz.prog 113 [Qs o,.ptr 2 3 0] [Qc,fr,frO] fun y m1=>y=.bool (o.num==n)∧m1=[Qc,fr,frO]:=by
 refine Qdr.go (by simp) ?_;simp only[hf,Qs,PO.cells,eE,seval]

end

theorem TS (g:PG)(hl:g.ops.length≤maxLen)(n:Int):Qk Tryz.prog 66 [Qi g,.int .i64 n] (GL (fun o=>o.num==n) g.ops):=by
 refine k66.fn (by simp) ?_;simp only[Qi,PG.cells,eE,seval];refine Qj (QND g hl (fun o=>o.num==n) 113 (.ptr 0 3 0) _ fun fr o _=>QNE o fr _ n (by rfl)) (by simp only[QUT,QVn,Qi,PG.cells,Qa,seval]) ?_;simp only[GL,Qs,PO.cells,splice,QVu,QUK,QUX,QU4,QVA,QVp,QUC,QVi,QVx,QVy,AV.leaf,eE,seval]

def QB (p:Nat→Bool):Nat→Bool
 |0=>true
 |n+1=>QB p n&&p n

theorem QJ {p:Nat→Bool}{n:Nat}:QB p n=true↔∀i,i<n→p i=true:=by
 induction n with
 |zero=>simp[QB]
 |succ n ih=>
  simp only[QB,QUL,ih]
  constructor
  ·rintro⟨h1,h2⟩ i hi;rcases Nat.lt_succ_iff_lt_or_eq.1 hi with h|rfl
   ·exact h1 i h
   ·exact h2
  ·intro h;exact⟨fun i hi=>h i (by omega),h n (by omega)⟩

theorem Cw {p:Nat→Bool}{n i:Nat}(hi:i<n)(h:p i=false):QB p n=false:=by
 rw[QWd];intro h';rw[QJ.1 h' i hi]at h;cases h

theorem HG {p q:Nat→Bool}{n:Nat}:QB (fun i=>p i&&q i) n=(QB p n&&QB q n):=by
 induction n with
 |zero=>rfl
 |succ n ih=>
  simp only[QB,ih];cases QB p n<;>cases QB q n<;>cases p n<;>cases q n<;>rfl

def Ht {α:Type}(l:List α)(q:α→Bool)(i:Nat):Bool:=match l[i]? with
 |some x=>q x
 |none=>true

theorem Yu {α:Type}{l:List α}{q:α→Bool}{i:Nat}{x:α}(h:l[i]? = some x):Ht l q i=q x:=by
 unfold Ht;rw[h]

theorem HH {α:Type}(l:List α)(q:α→Bool):QB (Ht l q) l.length=l.all q:=by
 rw[QVg,QJ,QUz]
 constructor
 ·intro h x hx;obtain⟨i,hi⟩:=QUy.1 hx;have:=h i (QUn.1 hi).1
  rwa [Yu hi]at this
 ·intro h i hi;rw[Yu (QUo hi)];exact h _ (QVe _)

def Xg {α:Type}(l:List α)(lt:α→α→Bool)(i:Nat):Bool:=match i with
 |0=>true
 |k+1=>match l[k]?,l[k+1]? with
  |some x,some y=>lt x y
  |_,_=>true

theorem Z6 {α:Type}{l:List α}{lt:α→α→Bool}{k:Nat}{x y:α}(h:l[k]? = some x)(h':l[k+1]? = some y):Xg l lt (k+1)=lt x y:=by
 unfold Xg;simp only[h,h']
theorem YR {α:Type}{l:List α}{lt:α→α→Bool}:Xg l lt 0=true:=rfl

def XV {α:Type}(l:List α)(lt:α→α→Bool):Bool:=QB (Xg l lt) l.length

def uniq {α:Type}(l:List α)(nm:α→List UInt8)(i:Nat):Bool:=match l[i]? with
 |some x=>(l.take i).all fun y=>!(nm y==nm x)
 |none=>true
theorem U5 {α:Type}{l:List α}{nm:α→List UInt8}{i:Nat}{x:α}(h:l[i]? = some x):uniq l nm i=(l.take i).all fun y=>!(nm y==nm x):=by
 unfold uniq;rw[h]
def Ky {α:Type}(l:List α)(nm:α→List UInt8):Bool:=QB (uniq l nm) l.length

theorem Q6 {α:Type}{l:List α}{q:α→Bool}{i:Nat}{x:α}(h:l[i]? = some x):(l.take (i+1)).all q=((l.take i).all q&&q x):=by
 rw[QV6,h];simp
theorem R2 {α:Type}{l:List α}{q:α→Bool}{i:Nat}{x:α}(h:l[i]? = some x):(l.take (i+1)).any q=((l.take i).any q||q x):=by
 rw[QV6,h];simp
theorem DE {α:Type}{l:List α}{q:α→Bool}:(l.all fun x=>!q x)=!l.any q:=by
 induction l with
 |nil=>rfl
 |cons x l ih=>simp[ih]

def JI (c:UInt8):Bool:=(decide (97≤c.toNat)&&decide (c.toNat≤122))||(decide (65≤c.toNat)&&decide (c.toNat≤90))
def Jg (c:UInt8):Bool:=JI c||c.toNat==95||(decide (48≤c.toNat)&&decide (c.toNat≤57))
def Q2:List UInt8→Bool
 | []=>false
 |c :: t=>decide ((c :: t).length≤40)&&JI c&&t.all Jg
def YS:List (List UInt8):=[[109,101,115,115,97,103,101],[101,110,117,109],[115,101,114,118,105,99,101],[117,110,105,111,110],[109,97,112],[108,105,115,116],[114,101,113,117,105,114,101,100],[111,112,116,105,111,110,97,108],[112,108,97,105,110],[100,101,102,97,117,108,116],[114,101,115,101,114,118,101,100],
 [105,109,112,111,114,116],[115,112,97,99,101],[114,112,99],[115,116,114,101,97,109],[114,101,116,117,114,110,115],[111,112,101,110],[116,114,117,101],[102,97,108,115,101],[110,97,110],[105,110,102]]
def Zr (s:List UInt8):Bool:=YS.any fun w=>s==w
def XO (s:List UInt8):Bool:=Q2 s && !Zr s
def Qn:List UInt8→List (List UInt8)
 | []=>[[]]
 |c :: t=>if c=46 then [] :: Qn t else match Qn t with
  | []=>[[c]]
  |p :: ps=>(c :: p) :: ps
def Kf (s:List UInt8):Bool:=decide (s.length≤120)&&(Qn s).all Q2 && !(Qn s).any Zr

theorem Kz:∀s:List UInt8,Qn s≠[]
 | []=>by simp[Qn]
 |c :: t=>by
  unfold Qn;split
  ·simp
  ·split<;>simp

theorem Fg (a:List UInt8):∀s:List UInt8,(∀c∈a,c≠46)→Qn (a++s)=match Qn s with
  | []=>[a]
  |p :: ps=>(a++p) :: ps:=by
 induction a with
 |nil=>intro s _;cases h:Qn s with
  |nil=>exact absurd h (Kz s)
  |cons p ps=>simp[h]
 |cons c a ih=>
  intro s h;have hc:c≠46:=h c (by simp);rw[QUJ,Qn,QUB hc,ih s fun x hx=>h x (by simp[hx])];cases hs:Qn s with
  |nil=>exact absurd hs (Kz s)
  |cons p ps=>rfl

theorem W4 {s:List UInt8}(h:∀c∈s,c≠46):Qn s=[s]:=by
 have:=Fg s [] h
 simpa [Qn]using this

theorem GM {a t:List UInt8}(h:∀c∈a,c≠46):Qn (a++46 :: t)=a :: Qn t:=by
 rw[Fg a _ h,Qn,QUQ rfl];simp

theorem GN {a t:List UInt8}(h:∀c∈t,c≠46):Qn (a++46 :: t)=Qn a++[t]:=by
 induction a with
 |nil=>
  show Qn (46 :: t)=[[]]++[t];rw[show Qn (46 :: t)=[] :: Qn t from by rw[Qn,QUQ rfl],W4 h];rfl
 |cons c a ih=>
  rw[QUJ,Qn,Qn,ih];split
  ·rfl
  ·cases hs:Qn a with
   |nil=>exact absurd hs (Kz a)
   |cons p ps=>rfl

theorem UC (s:List UInt8):(Qn s).length=s.count 46+1:=by
 induction s with
 |nil=>rfl
 |cons c t ih=>
  unfold Qn;split
  ·rename_i h;subst h;simp[ih]
  ·rename_i h;rw[List.count_cons_of_ne (by simpa using h)];cases hs:Qn t with
   |nil=>exact absurd hs (Kz t)
   |cons p ps=>rw[hs]at ih;simpa using ih

def Jc (g:PG):Bool:=decide (g.ops.length≤64)
def JE (e:PE):Bool:=decide (1≤e.items.length)&&decide (e.items.length≤64)&&decide (e.free.length≤16)
def Hu (P:PL):Bool:=decide (P.progs.length≤64)&&decide (P.enums.length≤64)&&P.progs.all Jc&&P.enums.all JE
def KA (g:PG):Bool:=Kf g.name&&g.ops.all fun o=>XO o.name
def K1 (e:PE):Bool:=Kf e.name&&e.items.all fun o=>XO o.name
def BG (P:PL):Bool:=P.progs.all KA&&P.enums.all K1
def Zk {α:Type}(f:α→Int)(x y:α):Bool:=decide (f x<f y)
def XD {α:Type}(f:α→List UInt8)(x y:α):Bool:=Op.bytesLess (f x) (f y)
def Jp (g:PG):Bool:=XV g.ops (Zk PO.num)
def JQ (e:PE):Bool:=XV e.items (Zk PI.num)
def UD (P:PL):Bool:=XV P.progs (XD PG.name)&&XV P.enums (XD PE.name)&&P.progs.all Jp&&P.enums.all JQ
def KB (P:PL)(g:PG):Bool:=(P.enums.all fun e=>!(e.name==g.name))&&Ky g.ops PO.name
def WA (e:PE):Bool:=Ky e.items PI.name
def BH (P:PL):Bool:=P.progs.all (KB P)&&P.enums.all WA
def Zs (o:PO):Bool:=decide (o.num≥1)&&decide (o.num≤65535)
def GP (x:PS):Bool:=decide (x.lo≥0)&&decide (x.hi≤2147483647)&&decide (x.lo≤x.hi)
def Ul (x y:PS):Bool:=decide (y.lo > x.hi)
def kept (l:List PS)(n:Int):Bool:=l.any fun x=>decide (x.lo≤n)&&decide (n≤x.hi)
def Ym (e:PE)(x:PI):Bool:=decide (x.num≤2147483647) && !kept e.free x.num
def UE (e:PE):Bool:=match e.items with
 | []=>true
 |x :: _=>x.num==0
def Jq (e:PE):Bool:=e.free.all GP&&XV e.free Ul&&UE e&&e.items.all (Ym e)
def GQ (P:PL):Bool:=P.progs.all (fun g=>g.ops.all Zs)&&P.enums.all Jq

def Zf (x:PS):AV:=.agg x.cells
def Zv (x:List UInt8):AV:=.str x

theorem JR {α:Type}(p:α→Bool)(l:List α):decide (Q0 p l 0≥0)=l.any p:=by
 rcases Kx p l 0 with⟨h1,h2⟩|⟨k,o,h1,_,h3⟩
 ·rw[h1];have:l.any p=false:=by
   rw[List.any_eq_false];intro x hx;exact fun h=>by have:=QWe.1 h2 x hx;exact this h
  rw[this];rfl
 ·rw[h1];have:l.any p=true:=QWf.2 ⟨o,QWg h3,QWh h3⟩;rw[this];exact QWi (by omega)

theorem WB (k n:Nat)(h:k+1<n)(hn:n≤maxLen):IntKind.i64.wrap (((k+1:Nat):Int)-1)=(k:Int):=by
 rw[QF];simp only[maxLen]at hn;omega

section
variable (L:List PG)(hl:L.length≤maxLen)(p:PG→Bool)(c:Nat)(cs:List AV)(m:Qo)

def JxG (k:Nat)(st:St):Prop :=
 ∃f i,st=⟨f,Qc :: m,[]⟩∧k=L.length-i∧Q0 p L 0=Q0 p (L.drop i) i∧f 0=.list (L.map Qi)∧f 1=.fn (.func c) [] (AV.shL cs)∧f 7=.int .i64 (L.length:Nat)∧f 8=.int .i64 (i:Nat)

include hl in
theorem z55 (hc:∀o∈L,Qg Tryz.prog c (Qi o :: AV.shL cs) (Qc :: m) fun y m1=>y=.bool (p o)∧m1=Qc :: m) :
  Qg Tryz.prog 55 [.list (L.map Qi),.fn (.func c) [] cs] m fun y m1=>y=.int .i64 (Q0 p L 0)∧m1=m:=by
 refine k55.go (by simp) ?_;simp only[QVh,Qa,seval];refine Qd (JxG L p c cs m) _ ⟨_,0,rfl,rfl,rfl,(by rfl),(by rfl),(by rfl),(by rfl)⟩ ?_;rintro _ st ⟨f,i,rfl,rfl,hx,h0,h1,h7,h8⟩;simp only[h7,h8,Qa,seval];by_cases hlt:i<L.length
 ·obtain⟨x,hi⟩:∃x,L[i]? = some x:=⟨L[i],QUo hlt⟩;have hcl:=hc x (QUA hi);have hg:(L.map Qi)[i]? = some (Qi x):=by simp[hi]
  have e1:=Qm i _ hlt hl;simp only[Qi,PG.cells]at hcl;simp only[Ql hlt,Qh,QVN,Qb,hg,Qi,PG.cells,h0,h1,h8,eE,seval];refine Xf (fa:=[]) (fb:=AV.shL cs) (by rfl) hcl (by simp only[QUT,QVn,QUK,QUJ,Qa,seval]) ?_;rw[Ze p hi]at hx;cases hp:p x
  ·rw[hp]at hx;simp only[QUG,if_false]at hx;simp only[h8,e1,Qa,seval];exact⟨L.length-(i+1),by omega,_,i+1,rfl,rfl,hx,(by exact h0),(by exact h1),(by exact h7),(by rfl)⟩
  ·rw[hp]at hx;simp only[if_true]at hx;simp only[hx,Qa,seval]
 ·have hx':Q0 p L 0 = -1:=by rw[hx,QUY (by omega)];rfl
  simp only[Qx hlt,hx',Qa,seval]

include hl in
theorem QNF (hc:∀o∈L,Qg Tryz.prog c (Qi o :: AV.shL (AV.shL cs)) (Qc :: Qc :: m) fun y m1=>y=.bool (p o)∧m1=Qc :: Qc :: m) :
  Qg Tryz.prog 207 [.list (L.map Qi),.fn (.func c) [] cs] m fun y m1=>y=.bool (L.any p)∧m1=m:=by
 refine QiB.go (by simp) ?_;simp only[Qa,seval];refine Qj (z55 L hl p c (AV.shL cs) _ hc) (by simp only[QUT,QVn,Qa,seval]<;>rfl) ?_;simp only[JR,Qa,seval]

include hl in
theorem DG (hc:∀o∈L,Qg Tryz.prog c (Qi o :: AV.shL (AV.shL (AV.shL cs))) (Qc :: Qc :: Qc :: m) fun y m1=>y=.bool (p o)∧m1=Qc :: Qc :: Qc :: m) :
  Qg Tryz.prog 137 [.list (L.map Qi),.fn (.func c) [] cs] m fun y m1=>y=.bool (L.any p)∧m1=m:=by
 refine Qd2.go (by simp) ?_;simp only[Qa,seval];refine Qj (QNF L hl p c (AV.shL cs) _ hc) (by simp only[QUT,QVn,Qa,seval]<;>rfl) ?_;simp only[Qa,seval]

end

section
variable (L:List PO)(hl:L.length≤maxLen)(p:PO→Bool)(c:Nat)(cs:List AV)(m:Qo)

def JxO (k:Nat)(st:St):Prop :=
 ∃f i,st=⟨f,Qc :: m,[]⟩∧k=L.length-i∧Q0 p L 0=Q0 p (L.drop i) i∧f 0=.list (L.map Qs)∧f 1=.fn (.func c) [] (AV.shL cs)∧f 7=.int .i64 (L.length:Nat)∧f 8=.int .i64 (i:Nat)

include hl in
theorem QNG (hc:∀o∈L,Qg Tryz.prog c (Qs o :: AV.shL cs) (Qc :: m) fun y m1=>y=.bool (p o)∧m1=Qc :: m) :
  Qg Tryz.prog 196 [.list (L.map Qs),.fn (.func c) [] cs] m fun y m1=>y=.int .i64 (Q0 p L 0)∧m1=m:=by
 refine RK.go (by simp) ?_;simp only[QVh,Qa,seval];refine Qd (JxO L p c cs m) _ ⟨_,0,rfl,rfl,rfl,(by rfl),(by rfl),(by rfl),(by rfl)⟩ ?_;rintro _ st ⟨f,i,rfl,rfl,hx,h0,h1,h7,h8⟩;simp only[h7,h8,Qa,seval];by_cases hlt:i<L.length
 ·obtain⟨x,hi⟩:∃x,L[i]? = some x:=⟨L[i],QUo hlt⟩;have hcl:=hc x (QUA hi);have hg:(L.map Qs)[i]? = some (Qs x):=by simp[hi]
  have e1:=Qm i _ hlt hl;simp only[Qs,PO.cells]at hcl;simp only[Ql hlt,Qh,QVN,Qb,hg,Qs,PO.cells,h0,h1,h8,eE,seval];refine Xf (fa:=[]) (fb:=AV.shL cs) (by rfl) hcl (by simp only[QUT,QVn,QUK,QUJ,Qa,seval]) ?_;rw[Ze p hi]at hx;cases hp:p x
  ·rw[hp]at hx;simp only[QUG,if_false]at hx;simp only[h8,e1,Qa,seval];exact⟨L.length-(i+1),by omega,_,i+1,rfl,rfl,hx,(by exact h0),(by exact h1),(by exact h7),(by rfl)⟩
  ·rw[hp]at hx;simp only[if_true]at hx;simp only[hx,Qa,seval]
 ·have hx':Q0 p L 0 = -1:=by rw[hx,QUY (by omega)];rfl
  simp only[Qx hlt,hx',Qa,seval]

include hl in
theorem QNH (hc:∀o∈L,Qg Tryz.prog c (Qs o :: AV.shL (AV.shL cs)) (Qc :: Qc :: m) fun y m1=>y=.bool (p o)∧m1=Qc :: Qc :: m) :
  Qg Tryz.prog 213 [.list (L.map Qs),.fn (.func c) [] cs] m fun y m1=>y=.bool (L.any p)∧m1=m:=by
 refine Qjj.go (by simp) ?_;simp only[Qa,seval];refine Qj (QNG L hl p c (AV.shL cs) _ hc) (by simp only[QUT,QVn,Qa,seval]<;>rfl) ?_;simp only[JR,Qa,seval]

include hl in
theorem BI (hc:∀o∈L,Qg Tryz.prog c (Qs o :: AV.shL (AV.shL (AV.shL cs))) (Qc :: Qc :: Qc :: m) fun y m1=>y=.bool (p o)∧m1=Qc :: Qc :: Qc :: m) :
  Qg Tryz.prog 143 [.list (L.map Qs),.fn (.func c) [] cs] m fun y m1=>y=.bool (L.any p)∧m1=m:=by
 refine Qer.go (by simp) ?_;simp only[Qa,seval];refine Qj (QNH L hl p c (AV.shL cs) _ hc) (by simp only[QUT,QVn,Qa,seval]<;>rfl) ?_;simp only[Qa,seval]

end

section
variable (L:List PE)(hl:L.length≤maxLen)(p:PE→Bool)(c:Nat)(cs:List AV)(m:Qo)

def JxE (k:Nat)(st:St):Prop :=
 ∃f i,st=⟨f,Qc :: m,[]⟩∧k=L.length-i∧Q0 p L 0=Q0 p (L.drop i) i∧f 0=.list (L.map Qq)∧f 1=.fn (.func c) [] (AV.shL cs)∧f 7=.int .i64 (L.length:Nat)∧f 8=.int .i64 (i:Nat)

include hl in
theorem QNI (hc:∀o∈L,Qg Tryz.prog c (Qq o :: AV.shL cs) (Qc :: m) fun y m1=>y=.bool (p o)∧m1=Qc :: m) :
  Qg Tryz.prog 239 [.list (L.map Qq),.fn (.func c) [] cs] m fun y m1=>y=.int .i64 (Q0 p L 0)∧m1=m:=by
 refine QkU.go (by simp) ?_;simp only[QVh,Qa,seval];refine Qd (JxE L p c cs m) _ ⟨_,0,rfl,rfl,rfl,(by rfl),(by rfl),(by rfl),(by rfl)⟩ ?_;rintro _ st ⟨f,i,rfl,rfl,hx,h0,h1,h7,h8⟩;simp only[h7,h8,Qa,seval];by_cases hlt:i<L.length
 ·obtain⟨x,hi⟩:∃x,L[i]? = some x:=⟨L[i],QUo hlt⟩;have hcl:=hc x (QUA hi);have hg:(L.map Qq)[i]? = some (Qq x):=by simp[hi]
  have e1:=Qm i _ hlt hl;simp only[Qq,PE.cells]at hcl;simp only[Ql hlt,Qh,QVN,Qb,hg,Qq,PE.cells,h0,h1,h8,eE,seval];refine Xf (fa:=[]) (fb:=AV.shL cs) (by rfl) hcl (by simp only[QUT,QVn,QUK,QUJ,Qa,seval]) ?_;rw[Ze p hi]at hx;cases hp:p x
  ·rw[hp]at hx;simp only[QUG,if_false]at hx;simp only[h8,e1,Qa,seval];exact⟨L.length-(i+1),by omega,_,i+1,rfl,rfl,hx,(by exact h0),(by exact h1),(by exact h7),(by rfl)⟩
  ·rw[hp]at hx;simp only[if_true]at hx;simp only[hx,Qa,seval]
 ·have hx':Q0 p L 0 = -1:=by rw[hx,QUY (by omega)];rfl
  simp only[Qx hlt,hx',Qa,seval]

include hl in
theorem QNJ (hc:∀o∈L,Qg Tryz.prog c (Qq o :: AV.shL (AV.shL cs)) (Qc :: Qc :: m) fun y m1=>y=.bool (p o)∧m1=Qc :: Qc :: m) :
  Qg Tryz.prog 208 [.list (L.map Qq),.fn (.func c) [] cs] m fun y m1=>y=.bool (L.any p)∧m1=m:=by
 refine QiG.go (by simp) ?_;simp only[Qa,seval];refine Qj (QNI L hl p c (AV.shL cs) _ hc) (by simp only[QUT,QVn,Qa,seval]<;>rfl) ?_;simp only[JR,Qa,seval]

include hl in
theorem HI (hc:∀o∈L,Qg Tryz.prog c (Qq o :: AV.shL (AV.shL (AV.shL cs))) (Qc :: Qc :: Qc :: m) fun y m1=>y=.bool (p o)∧m1=Qc :: Qc :: Qc :: m) :
  Qg Tryz.prog 139 [.list (L.map Qq),.fn (.func c) [] cs] m fun y m1=>y=.bool (L.any p)∧m1=m:=by
 refine Qec.go (by simp) ?_;simp only[Qa,seval];refine Qj (QNJ L hl p c (AV.shL cs) _ hc) (by simp only[QUT,QVn,Qa,seval]<;>rfl) ?_;simp only[Qa,seval]

end

section
variable (L:List PI)(hl:L.length≤maxLen)(p:PI→Bool)(c:Nat)(cs:List AV)(m:Qo)

def JxI (k:Nat)(st:St):Prop :=
 ∃f i,st=⟨f,Qc :: m,[]⟩∧k=L.length-i∧Q0 p L 0=Q0 p (L.drop i) i∧f 0=.list (L.map Q5)∧f 1=.fn (.func c) [] (AV.shL cs)∧f 7=.int .i64 (L.length:Nat)∧f 8=.int .i64 (i:Nat)

include hl in
theorem QNK (hc:∀o∈L,Qg Tryz.prog c (Q5 o :: AV.shL cs) (Qc :: m) fun y m1=>y=.bool (p o)∧m1=Qc :: m) :
  Qg Tryz.prog 243 [.list (L.map Q5),.fn (.func c) [] cs] m fun y m1=>y=.int .i64 (Q0 p L 0)∧m1=m:=by
 refine Qus.go (by simp) ?_;simp only[QVh,Qa,seval];refine Qd (JxI L p c cs m) _ ⟨_,0,rfl,rfl,rfl,(by rfl),(by rfl),(by rfl),(by rfl)⟩ ?_;rintro _ st ⟨f,i,rfl,rfl,hx,h0,h1,h7,h8⟩;simp only[h7,h8,Qa,seval];by_cases hlt:i<L.length
 ·obtain⟨x,hi⟩:∃x,L[i]? = some x:=⟨L[i],QUo hlt⟩;have hcl:=hc x (QUA hi);have hg:(L.map Q5)[i]? = some (Q5 x):=by simp[hi]
  have e1:=Qm i _ hlt hl;simp only[Q5,PI.cells]at hcl;simp only[Ql hlt,Qh,QVN,Qb,hg,Q5,PI.cells,h0,h1,h8,eE,seval];refine Xf (fa:=[]) (fb:=AV.shL cs) (by rfl) hcl (by simp only[QUT,QVn,QUK,QUJ,Qa,seval]) ?_;rw[Ze p hi]at hx;cases hp:p x
  ·rw[hp]at hx;simp only[QUG,if_false]at hx;simp only[h8,e1,Qa,seval];exact⟨L.length-(i+1),by omega,_,i+1,rfl,rfl,hx,(by exact h0),(by exact h1),(by exact h7),(by rfl)⟩
  ·rw[hp]at hx;simp only[if_true]at hx;simp only[hx,Qa,seval]
 ·have hx':Q0 p L 0 = -1:=by rw[hx,QUY (by omega)];rfl
  simp only[Qx hlt,hx',Qa,seval]

include hl in
theorem QNL (hc:∀o∈L,Qg Tryz.prog c (Q5 o :: AV.shL (AV.shL cs)) (Qc :: Qc :: m) fun y m1=>y=.bool (p o)∧m1=Qc :: Qc :: m) :
  Qg Tryz.prog 215 [.list (L.map Q5),.fn (.func c) [] cs] m fun y m1=>y=.bool (L.any p)∧m1=m:=by
 refine Qtw.go (by simp) ?_;simp only[Qa,seval];refine Qj (QNK L hl p c (AV.shL cs) _ hc) (by simp only[QUT,QVn,Qa,seval]<;>rfl) ?_;simp only[JR,Qa,seval]

include hl in
theorem Cx (hc:∀o∈L,Qg Tryz.prog c (Q5 o :: AV.shL (AV.shL (AV.shL cs))) (Qc :: Qc :: Qc :: m) fun y m1=>y=.bool (p o)∧m1=Qc :: Qc :: Qc :: m) :
  Qg Tryz.prog 147 [.list (L.map Q5),.fn (.func c) [] cs] m fun y m1=>y=.bool (L.any p)∧m1=m:=by
 refine QK1.go (by simp) ?_;simp only[Qa,seval];refine Qj (QNL L hl p c (AV.shL cs) _ hc) (by simp only[QUT,QVn,Qa,seval]<;>rfl) ?_;simp only[Qa,seval]

end

section
variable (L:List PS)(hl:L.length≤maxLen)(p:PS→Bool)(c:Nat)(cs:List AV)(m:Qo)

def JxS (k:Nat)(st:St):Prop :=
 ∃f i,st=⟨f,Qc :: m,[]⟩∧k=L.length-i∧Q0 p L 0=Q0 p (L.drop i) i∧f 0=.list (L.map Zf)∧f 1=.fn (.func c) [] (AV.shL cs)∧f 7=.int .i64 (L.length:Nat)∧f 8=.int .i64 (i:Nat)

include hl in
theorem QNM (hc:∀o∈L,Qg Tryz.prog c (Zf o :: AV.shL cs) (Qc :: m) fun y m1=>y=.bool (p o)∧m1=Qc :: m) :
  Qg Tryz.prog 272 [.list (L.map Zf),.fn (.func c) [] cs] m fun y m1=>y=.int .i64 (Q0 p L 0)∧m1=m:=by
 refine QNc.go (by simp) ?_;simp only[QVh,Qa,seval];refine Qd (JxS L p c cs m) _ ⟨_,0,rfl,rfl,rfl,(by rfl),(by rfl),(by rfl),(by rfl)⟩ ?_;rintro _ st ⟨f,i,rfl,rfl,hx,h0,h1,h7,h8⟩;simp only[h7,h8,Qa,seval];by_cases hlt:i<L.length
 ·obtain⟨x,hi⟩:∃x,L[i]? = some x:=⟨L[i],QUo hlt⟩;have hcl:=hc x (QUA hi);have hg:(L.map Zf)[i]? = some (Zf x):=by simp[hi]
  have e1:=Qm i _ hlt hl;simp only[Zf,PS.cells]at hcl;simp only[Ql hlt,Qh,QVN,Qb,hg,Zf,PS.cells,h0,h1,h8,eE,seval];refine Xf (fa:=[]) (fb:=AV.shL cs) (by rfl) hcl (by simp only[QUT,QVn,QUK,QUJ,Qa,seval]) ?_;rw[Ze p hi]at hx;cases hp:p x
  ·rw[hp]at hx;simp only[QUG,if_false]at hx;simp only[h8,e1,Qa,seval];exact⟨L.length-(i+1),by omega,_,i+1,rfl,rfl,hx,(by exact h0),(by exact h1),(by exact h7),(by rfl)⟩
  ·rw[hp]at hx;simp only[if_true]at hx;simp only[hx,Qa,seval]
 ·have hx':Q0 p L 0 = -1:=by rw[hx,QUY (by omega)];rfl
  simp only[Qx hlt,hx',Qa,seval]

include hl in
theorem QNN (hc:∀o∈L,Qg Tryz.prog c (Zf o :: AV.shL (AV.shL cs)) (Qc :: Qc :: m) fun y m1=>y=.bool (p o)∧m1=Qc :: Qc :: m) :
  Qg Tryz.prog 244 [.list (L.map Zf),.fn (.func c) [] cs] m fun y m1=>y=.bool (L.any p)∧m1=m:=by
 refine QMH.go (by simp) ?_;simp only[Qa,seval];refine Qj (QNM L hl p c (AV.shL cs) _ hc) (by simp only[QUT,QVn,Qa,seval]<;>rfl) ?_;simp only[JR,Qa,seval]

end

section
variable (L:List (List UInt8))(hl:L.length≤maxLen)(p:(List UInt8)→Bool)(c:Nat)(cs:List AV)(m:Qo)

def JxR (k:Nat)(st:St):Prop :=
 ∃f i,st=⟨f,Qc :: m,[]⟩∧k=L.length-i∧Q0 p L 0=Q0 p (L.drop i) i∧f 0=.list (L.map Zv)∧f 1=.fn (.func c) [] (AV.shL cs)∧f 7=.int .i64 (L.length:Nat)∧f 8=.int .i64 (i:Nat)

include hl in
theorem QNO (hc:∀o∈L,Qg Tryz.prog c (Zv o :: AV.shL cs) (Qc :: m) fun y m1=>y=.bool (p o)∧m1=Qc :: m) :
  Qg Tryz.prog 240 [.list (L.map Zv),.fn (.func c) [] cs] m fun y m1=>y=.int .i64 (Q0 p L 0)∧m1=m:=by
 refine Qk6.go (by simp) ?_;simp only[QVh,Qa,seval];refine Qd (JxR L p c cs m) _ ⟨_,0,rfl,rfl,rfl,(by rfl),(by rfl),(by rfl),(by rfl)⟩ ?_;rintro _ st ⟨f,i,rfl,rfl,hx,h0,h1,h7,h8⟩;simp only[h7,h8,Qa,seval];by_cases hlt:i<L.length
 ·obtain⟨x,hi⟩:∃x,L[i]? = some x:=⟨L[i],QUo hlt⟩;have hcl:=hc x (QUA hi);have hg:(L.map Zv)[i]? = some (Zv x):=by simp[hi]
  have e1:=Qm i _ hlt hl;simp only[Zv]at hcl;simp only[Ql hlt,Qh,QVN,Qb,hg,Zv,h0,h1,h8,eE,seval];refine Xf (fa:=[]) (fb:=AV.shL cs) (by rfl) hcl (by simp only[QUT,QVn,QUK,QUJ,Qa,seval]) ?_;rw[Ze p hi]at hx;cases hp:p x
  ·rw[hp]at hx;simp only[QUG,if_false]at hx;simp only[h8,e1,Qa,seval];exact⟨L.length-(i+1),by omega,_,i+1,rfl,rfl,hx,(by exact h0),(by exact h1),(by exact h7),(by rfl)⟩
  ·rw[hp]at hx;simp only[if_true]at hx;simp only[hx,Qa,seval]
 ·have hx':Q0 p L 0 = -1:=by rw[hx,QUY (by omega)];rfl
  simp only[Qx hlt,hx',Qa,seval]

include hl in
theorem QNP (hc:∀o∈L,Qg Tryz.prog c (Zv o :: AV.shL (AV.shL cs)) (Qc :: Qc :: m) fun y m1=>y=.bool (p o)∧m1=Qc :: Qc :: m) :
  Qg Tryz.prog 210 [.list (L.map Zv),.fn (.func c) [] cs] m fun y m1=>y=.bool (L.any p)∧m1=m:=by
 refine QiX.go (by simp) ?_;simp only[Qa,seval];refine Qj (QNO L hl p c (AV.shL cs) _ hc) (by simp only[QUT,QVn,Qa,seval]<;>rfl) ?_;simp only[JR,Qa,seval]

end

section
variable (L:List PG)(hl:L.length≤maxLen)(lt:PG→PG→Bool)(c:Nat)(cs:List AV)(m:Qo)

def AxG (k:Nat)(st:St):Prop :=
 ∃f i,st=⟨f,Qc :: m,[]⟩∧k=L.length-(i+1)∧QB (Xg L lt) (i+1)=true∧f 0=.list (L.map Qi)∧f 1=.fn (.func c) [] (AV.shL cs)∧f 5=.int .i64 ((i+1:Nat):Int)

include hl in
theorem QNQ (hc:∀x∈L,∀y∈L,Qg Tryz.prog c (Qi x :: Qi y :: AV.shL cs) (Qc :: m) fun r m1=>r=.bool (lt x y)∧m1=Qc :: m) :
  Qg Tryz.prog 149 [.list (L.map Qi),.fn (.func c) [] cs] m fun y m1=>y=.bool (XV L lt)∧m1=m:=by
 refine QeM.go (by simp) ?_;simp only[Qa,seval];refine Qd (AxG L lt c cs m) _ ⟨_,0,rfl,rfl,rfl,(by rfl),(by rfl),(by rfl)⟩ ?_;rintro _ st ⟨f,i,rfl,rfl,hx,h0,h1,h5⟩;simp only[QVh,h0,h5,Qa,seval];by_cases hlt:i+1<L.length
 ·obtain⟨x,hi⟩:∃x,L[i]? = some x:=⟨L[i]'(by omega),QUo (by omega)⟩;obtain⟨y,hj⟩:∃y,L[i+1]? = some y:=⟨L[i+1],QUo hlt⟩;have hcl:=hc x (QUA hi) y (QUA hj);have hg:(L.map Qi)[i]? = some (Qi x):=by simp[hi]
  have hh:(L.map Qi)[i+1]? = some (Qi y):=by simp[hj]
  have e1:=Qm (i+1) _ hlt hl;have e2:=WB i _ hlt hl;simp only[Qi,PG.cells]at hcl;simp only[Ql hlt,e2,Qh,QVN,Qb,hg,hh,Qi,PG.cells,h0,h1,h5,eE,seval];refine Xf (fa:=[]) (fb:=AV.shL cs) (by rfl) hcl (by simp only[QUT,QVn,QUK,QUJ,Qa,seval]) ?_;have hs:QB (Xg L lt) (i+2)=lt x y:=by
   show(QB (Xg L lt) (i+1)&&Xg L lt (i+1))=_;rw[hx,Z6 hi hj,QVZ]
  cases hp:lt x y
  ·rw[hp]at hs;have hf:XV L lt=false:=by
    rw[QWd];intro h';rw[QJ.2 fun k hk=>QJ.1 h' k (by omega)]at hs;cases hs
   simp only[hf,Qa,seval]
  ·rw[hp]at hs;simp only[h5,e1,Qa,seval];exact⟨L.length-(i+2),by omega,_,i+1,rfl,rfl,hs,(by exact h0),(by exact h1),(by rfl)⟩
 ·have hf:XV L lt=true:=QJ.2 fun k hk=>QJ.1 hx k (by omega)
  simp only[Qx hlt,hf,Qa,seval]

end

section
variable (L:List PO)(hl:L.length≤maxLen)(lt:PO→PO→Bool)(c:Nat)(cs:List AV)(m:Qo)

def AxO (k:Nat)(st:St):Prop :=
 ∃f i,st=⟨f,Qc :: m,[]⟩∧k=L.length-(i+1)∧QB (Xg L lt) (i+1)=true∧f 0=.list (L.map Qs)∧f 1=.fn (.func c) [] (AV.shL cs)∧f 5=.int .i64 ((i+1:Nat):Int)

include hl in
theorem QNR (hc:∀x∈L,∀y∈L,Qg Tryz.prog c (Qs x :: Qs y :: AV.shL cs) (Qc :: m) fun r m1=>r=.bool (lt x y)∧m1=Qc :: m) :
  Qg Tryz.prog 154 [.list (L.map Qs),.fn (.func c) [] cs] m fun y m1=>y=.bool (XV L lt)∧m1=m:=by
 refine Qfd.go (by simp) ?_;simp only[Qa,seval];refine Qd (AxO L lt c cs m) _ ⟨_,0,rfl,rfl,rfl,(by rfl),(by rfl),(by rfl)⟩ ?_;rintro _ st ⟨f,i,rfl,rfl,hx,h0,h1,h5⟩;simp only[QVh,h0,h5,Qa,seval];by_cases hlt:i+1<L.length
 ·obtain⟨x,hi⟩:∃x,L[i]? = some x:=⟨L[i]'(by omega),QUo (by omega)⟩;obtain⟨y,hj⟩:∃y,L[i+1]? = some y:=⟨L[i+1],QUo hlt⟩;have hcl:=hc x (QUA hi) y (QUA hj);have hg:(L.map Qs)[i]? = some (Qs x):=by simp[hi]
  have hh:(L.map Qs)[i+1]? = some (Qs y):=by simp[hj]
  have e1:=Qm (i+1) _ hlt hl;have e2:=WB i _ hlt hl;simp only[Qs,PO.cells]at hcl;simp only[Ql hlt,e2,Qh,QVN,Qb,hg,hh,Qs,PO.cells,h0,h1,h5,eE,seval];refine Xf (fa:=[]) (fb:=AV.shL cs) (by rfl) hcl (by simp only[QUT,QVn,QUK,QUJ,Qa,seval]) ?_;have hs:QB (Xg L lt) (i+2)=lt x y:=by
   show(QB (Xg L lt) (i+1)&&Xg L lt (i+1))=_;rw[hx,Z6 hi hj,QVZ]
  cases hp:lt x y
  ·rw[hp]at hs;have hf:XV L lt=false:=by
    rw[QWd];intro h';rw[QJ.2 fun k hk=>QJ.1 h' k (by omega)]at hs;cases hs
   simp only[hf,Qa,seval]
  ·rw[hp]at hs;simp only[h5,e1,Qa,seval];exact⟨L.length-(i+2),by omega,_,i+1,rfl,rfl,hs,(by exact h0),(by exact h1),(by rfl)⟩
 ·have hf:XV L lt=true:=QJ.2 fun k hk=>QJ.1 hx k (by omega)
  simp only[Qx hlt,hf,Qa,seval]

end

section
variable (L:List PE)(hl:L.length≤maxLen)(lt:PE→PE→Bool)(c:Nat)(cs:List AV)(m:Qo)

def AxE (k:Nat)(st:St):Prop :=
 ∃f i,st=⟨f,Qc :: m,[]⟩∧k=L.length-(i+1)∧QB (Xg L lt) (i+1)=true∧f 0=.list (L.map Qq)∧f 1=.fn (.func c) [] (AV.shL cs)∧f 5=.int .i64 ((i+1:Nat):Int)

include hl in
theorem QNS (hc:∀x∈L,∀y∈L,Qg Tryz.prog c (Qq x :: Qq y :: AV.shL cs) (Qc :: m) fun r m1=>r=.bool (lt x y)∧m1=Qc :: m) :
  Qg Tryz.prog 151 [.list (L.map Qq),.fn (.func c) [] cs] m fun y m1=>y=.bool (XV L lt)∧m1=m:=by
 refine QeX.go (by simp) ?_;simp only[Qa,seval];refine Qd (AxE L lt c cs m) _ ⟨_,0,rfl,rfl,rfl,(by rfl),(by rfl),(by rfl)⟩ ?_;rintro _ st ⟨f,i,rfl,rfl,hx,h0,h1,h5⟩;simp only[QVh,h0,h5,Qa,seval];by_cases hlt:i+1<L.length
 ·obtain⟨x,hi⟩:∃x,L[i]? = some x:=⟨L[i]'(by omega),QUo (by omega)⟩;obtain⟨y,hj⟩:∃y,L[i+1]? = some y:=⟨L[i+1],QUo hlt⟩;have hcl:=hc x (QUA hi) y (QUA hj);have hg:(L.map Qq)[i]? = some (Qq x):=by simp[hi]
  have hh:(L.map Qq)[i+1]? = some (Qq y):=by simp[hj]
  have e1:=Qm (i+1) _ hlt hl;have e2:=WB i _ hlt hl;simp only[Qq,PE.cells]at hcl;simp only[Ql hlt,e2,Qh,QVN,Qb,hg,hh,Qq,PE.cells,h0,h1,h5,eE,seval];refine Xf (fa:=[]) (fb:=AV.shL cs) (by rfl) hcl (by simp only[QUT,QVn,QUK,QUJ,Qa,seval]) ?_;have hs:QB (Xg L lt) (i+2)=lt x y:=by
   show(QB (Xg L lt) (i+1)&&Xg L lt (i+1))=_;rw[hx,Z6 hi hj,QVZ]
  cases hp:lt x y
  ·rw[hp]at hs;have hf:XV L lt=false:=by
    rw[QWd];intro h';rw[QJ.2 fun k hk=>QJ.1 h' k (by omega)]at hs;cases hs
   simp only[hf,Qa,seval]
  ·rw[hp]at hs;simp only[h5,e1,Qa,seval];exact⟨L.length-(i+2),by omega,_,i+1,rfl,rfl,hs,(by exact h0),(by exact h1),(by rfl)⟩
 ·have hf:XV L lt=true:=QJ.2 fun k hk=>QJ.1 hx k (by omega)
  simp only[Qx hlt,hf,Qa,seval]

end

section
variable (L:List PI)(hl:L.length≤maxLen)(lt:PI→PI→Bool)(c:Nat)(cs:List AV)(m:Qo)

def AxI (k:Nat)(st:St):Prop :=
 ∃f i,st=⟨f,Qc :: m,[]⟩∧k=L.length-(i+1)∧QB (Xg L lt) (i+1)=true∧f 0=.list (L.map Q5)∧f 1=.fn (.func c) [] (AV.shL cs)∧f 5=.int .i64 ((i+1:Nat):Int)

include hl in
theorem QNT (hc:∀x∈L,∀y∈L,Qg Tryz.prog c (Q5 x :: Q5 y :: AV.shL cs) (Qc :: m) fun r m1=>r=.bool (lt x y)∧m1=Qc :: m) :
  Qg Tryz.prog 157 [.list (L.map Q5),.fn (.func c) [] cs] m fun y m1=>y=.bool (XV L lt)∧m1=m:=by
 refine QLg.go (by simp) ?_;simp only[Qa,seval];refine Qd (AxI L lt c cs m) _ ⟨_,0,rfl,rfl,rfl,(by rfl),(by rfl),(by rfl)⟩ ?_;rintro _ st ⟨f,i,rfl,rfl,hx,h0,h1,h5⟩;simp only[QVh,h0,h5,Qa,seval];by_cases hlt:i+1<L.length
 ·obtain⟨x,hi⟩:∃x,L[i]? = some x:=⟨L[i]'(by omega),QUo (by omega)⟩;obtain⟨y,hj⟩:∃y,L[i+1]? = some y:=⟨L[i+1],QUo hlt⟩;have hcl:=hc x (QUA hi) y (QUA hj);have hg:(L.map Q5)[i]? = some (Q5 x):=by simp[hi]
  have hh:(L.map Q5)[i+1]? = some (Q5 y):=by simp[hj]
  have e1:=Qm (i+1) _ hlt hl;have e2:=WB i _ hlt hl;simp only[Q5,PI.cells]at hcl;simp only[Ql hlt,e2,Qh,QVN,Qb,hg,hh,Q5,PI.cells,h0,h1,h5,eE,seval];refine Xf (fa:=[]) (fb:=AV.shL cs) (by rfl) hcl (by simp only[QUT,QVn,QUK,QUJ,Qa,seval]) ?_;have hs:QB (Xg L lt) (i+2)=lt x y:=by
   show(QB (Xg L lt) (i+1)&&Xg L lt (i+1))=_;rw[hx,Z6 hi hj,QVZ]
  cases hp:lt x y
  ·rw[hp]at hs;have hf:XV L lt=false:=by
    rw[QWd];intro h';rw[QJ.2 fun k hk=>QJ.1 h' k (by omega)]at hs;cases hs
   simp only[hf,Qa,seval]
  ·rw[hp]at hs;simp only[h5,e1,Qa,seval];exact⟨L.length-(i+2),by omega,_,i+1,rfl,rfl,hs,(by exact h0),(by exact h1),(by rfl)⟩
 ·have hf:XV L lt=true:=QJ.2 fun k hk=>QJ.1 hx k (by omega)
  simp only[Qx hlt,hf,Qa,seval]

end

def cl (c:Nat):Int:=if 97≤c∧c≤122 then 1 else if 65≤c∧c≤90 then 2 else if 48≤c∧c≤57 then 3 else if c=95 then 4 else 0

theorem QNU (c:Nat):Qk Tryz.prog 242 [.int .i32 (c:Nat)] (.int .i64 (cl c)):=by
 refine Qlx.fn (by simp) ?_;simp only[Qa,seval]
 repeat' (first|(refine Xr (fun h=>?_) (fun h=>?_)<;>simp only[h,Qa,seval])|(refine X3 (fun h=>?_) (fun h=>?_)<;>simp only[h,Qp,Qa,seval])|(refine X4 (fun h=>?_) (fun h=>?_)<;>simp only[h,Qp,eE,seval]))
 all_goals((try simp only[QUs,QWj,QUt,QV4,ne_eq]at *)<;>unfold cl<;>(repeat' split)<;>first|rfl|(exfalso;omega))

theorem Cy {s:List UInt8}{i:Nat}{c:UInt8}(h:s[i]? = some c):(c.toNat<128→Xp s i=(c.toNat,1))∧(128≤c.toNat→128≤(Xp s i).1):=by
 have g0:(⟨⟨s⟩⟩:ByteArray).get! (i+0)=c:=by
  show(⟨s⟩:Array UInt8)[i+0]! = c;simp[h]
 constructor
 ·intro hc;simp only[Xp,Utf8.decode,g0];rw[QUQ hc]
 ·intro hc;simp only[Xp,Utf8.decode,g0];rw[QUB (by omega)]
  (repeat' split)<;>simp only[ge_iff_le,QUL,QUs,Utf8.runeError]at *<;>omega

def pq (s:List UInt8)(j:Nat):Bool:=match s[j]? with
 |some c=>if j=0 then JI c else Jg c
 |none=>true
theorem W5 {s:List UInt8}{j:Nat}{c:UInt8}(h:s[j]? = some c):pq s j=if j=0 then JI c else Jg c:=by
 unfold pq;rw[h]

theorem BJ {c:UInt8}(h:JI c=true):Jg c=true:=by unfold Jg;rw[h];rfl

theorem KT (s:List UInt8):Q2 s=(decide (1≤s.length)&&decide (s.length≤40)&&QB (pq s) s.length):=by
 cases s with
 |nil=>rfl
 |cons c t=>
  have h1:decide (1≤(c :: t).length)=true:=by simp
  rw[h1,QVZ];show(decide ((c :: t).length≤40)&&JI c&&t.all Jg)=_;rw[QU7];congr 1
  rw[QVg,QUL,QJ,QUz]
  constructor
  ·rintro⟨h2,h3⟩ i hi;cases i with
   |zero=>rw[W5 (c:=c) rfl,QUQ rfl];exact h2
   |succ i=>
    have hlt:i<t.length:=by simpa using hi
    rw[W5 (c:=t[i]) (by simp[QUo hlt]),QUB (by omega)];exact h3 _ (QVe _)
  ·intro h;refine⟨?_,fun x hx=>?_⟩
   ·have:=h 0 (by simp)
    rwa [W5 (c:=c) rfl,QUQ rfl]at this
   ·obtain⟨i,hi⟩:=QUy.1 hx;have hlt:=(QUn.1 hi).1;have:=h (i+1) (by simpa using hlt)
    rwa [W5 (c:=x) (by simpa using hi),QUB (by omega)]at this

theorem QGz {s:List UInt8}{i:Nat}{c:UInt8}(h:s[i]? = some c)(r:Nat)(hr:(c.toNat<128→r=c.toNat)∧(128≤c.toNat→128≤r)) :
  (cl r==0||((i:Int)==0&&(cl r != 1&&cl r != 2)))=!pq s i:=by
 rw[W5 h];obtain⟨h1,h2⟩:=hr;have hc:=c.toNat_lt;unfold cl JI Jg JI;generalize c.toNat=x at *;by_cases hx:x<128
 ·have e:=h1 hx;subst e;by_cases hi:i=0
  ·subst hi;rw[QUQ rfl]
   (repeat' split)<;>simp<;>omega
  ·rw[QUB hi];have hz:((i:Int)==0)=false:=by simp;omega
   rw[hz]
   (repeat' split)<;>simp<;>omega
 ·have:=h2 (by omega);have e:(if 97≤r∧r≤122 then(1:Int)else if 65≤r∧r≤90 then 2 else if 48≤r∧r≤57 then 3 else if r=95 then 4 else 0)=0:=by
   rw[QUB (by omega),QUB (by omega),QUB (by omega),QUB (by omega)]
  rw[e];split<;>simp<;>omega

def PaI (s:List UInt8)(k:Nat)(st:St):Prop :=
 ∃f fr i,st=⟨f,[fr],[]⟩∧k=s.length-i∧i≤s.length∧QB (pq s) i=true∧f 0=.str s∧f 7=.ptr 0 7 0∧fr 7=.iter (.str s) i

theorem Qv5 (s:List UInt8):Qk Tryz.prog 214 [.str s] (.bool (Q2 s)):=by
 refine Qjv.fn (by simp) ?_;simp only[Qa,seval];refine D1 rfl rfl ?_;simp only[Qa,seval];refine Qd (PaI s) s.length ⟨_,_,0,rfl,rfl,QUv _,rfl,(by rfl),(by rfl),(by rfl)⟩ ?_;rintro _ st ⟨f,fr,i,rfl,rfl,hi,hx,h0,h7,m7⟩;simp only[Qa,seval];refine D2 (by exact h7) m7 (fun hlt=>?_) (fun hge=>?_)
 ·obtain⟨c,hc⟩:∃c,s[i]? = some c:=⟨s[i],QUo hlt⟩;obtain⟨u1,u2⟩:=Cy hc;have hcl:=QNU (Xp s i).1;have hq:=QGz hc (Xp s i).1 ⟨fun h=>by rw[u1 h],u2⟩;have hw:pq s i=true→(Xp s i).2=1:=by
   intro h;rw[u1];rw[W5 hc]at h;have hp:Jg c=true:=by
    split at h
    ·exact BJ h
    ·exact h
   unfold Jg JI at hp;simp at hp;omega
  generalize Xp s i=cw at hcl hq hw;obtain⟨r,w⟩:=cw;simp only[Qa,seval];refine aC hcl ?_;have hstep:QB (pq s) (i+1)=pq s i:=by rw[QB,hx,QVZ]
  have hend:pq s i=false→Q2 s=false:=by
   intro h;rw[KT,Cw hlt h,QWk]
  simp only at hq hw;generalize cl r=k at hq;cases hp:pq s i
  ·rw[hp]at hq;have he:=hend hp;simp only[he,Qa,seval];cases a1:(k==0)
   ·cases a2:((i:Int)==0)
    ·simp[a1,a2]at hq
    ·cases a3:(k != 1)
     ·simp[a1,a2,a3]at hq
     ·cases a4:(k != 2)
      ·simp[a1,a2,a3,a4]at hq
      ·simp only[a2,a3,a4,Qa,seval]
   ·simp only[Qa,seval]
  ·rw[hp]at hq;have hw:=hw hp;subst hw;simp only[Qa,seval];cases a1:(k==0)
   ·cases a2:((i:Int)==0)
    ·simp only[a2,Qa,seval];exact⟨s.length-(i+1),by omega,_,_,i+1,rfl,rfl,by omega,by rw[hstep,hp],(by exact h0),(by exact h7),(by rfl)⟩
    ·cases a3:(k != 1)
     ·simp only[a2,a3,Qa,seval];exact⟨s.length-(i+1),by omega,_,_,i+1,rfl,rfl,by omega,by rw[hstep,hp],(by exact h0),(by exact h7),(by rfl)⟩
     ·cases a4:(k != 2)
      ·simp only[a2,a3,a4,Qa,seval];exact⟨s.length-(i+1),by omega,_,_,i+1,rfl,rfl,by omega,by rw[hstep,hp],(by exact h0),(by exact h7),(by rfl)⟩
      ·simp[a1,a2,a3,a4]at hq
   ·simp[a1]at hq
 ·have hii:i=s.length:=by omega
  subst hii;have e1:decide (((s.length:Nat):Int)≥1)=decide (1≤s.length):=by rw[decide_eq_decide];omega
  have e2:decide (((s.length:Nat):Int)≤40)=decide (s.length≤40):=by rw[decide_eq_decide];omega
  have e3:Q2 s=(decide (1≤s.length)&&decide (s.length≤40)):=by rw[KT,hx,QVz]
  simp only[h0,e1,e3,Qa,seval];cases a1:decide (1≤s.length)<;>simp only[QVZ,QVQ,h0,e2,Qa,seval]

theorem QNV (s:List UInt8):Qk Tryz.prog 212 [.str s] (.bool (Zr s)):=by
 refine RM.fn (by simp) ?_;simp only[QH,Qa,seval];have e:Zr s=YS.any fun w=>s==w:=rfl
 simp only[YS,List.any_cons,List.any_nil,QWl]at e
 repeat' (first|(refine Xr (fun h=>?_) (fun h=>?_)<;>simp only[h,QH,Qa,seval])|(refine X3 (fun h=>?_) (fun h=>?_)<;>simp only[h,Qp,QH,eE,seval])|(refine X4 (fun h=>?_) (fun h=>?_)<;>simp only[h,Qp,QH,eE,seval]))
 all_goals(simp only[*,QV2,QWm,QWl]at e;simp only[e])

theorem QNW (s:List UInt8):Qk Tryz.prog 270 [.str s,.str [46]] (.int .i64 (s.count 46:Nat)):=by
 refine Qme.fn (by simp) ?_;have b0:(((1:Nat):Int)==0)=false:=rfl;have b1:(((1:Nat):Int)==1)=true:=rfl;have b2:([(46:UInt8)])[Int.toNat 0]? = some 46:=rfl;simp only[QUC,QVi,QU3,Qa,seval];refine N0 rfl rfl ?_;simp only[Gl,Lib.countByte,Qa,seval]
 try rfl

theorem QNX (s:List UInt8):Qk Tryz.prog 295 [.str s,.int .u8 46] (.int .i64 (Lib.indexByte s 46)):=by
 refine QmK.fn (by simp) ?_;simp only[Qa,seval];refine N0 rfl rfl ?_;simp only[Gl,QUG,Qa,seval]
 try rfl

theorem QNY (s:List UInt8):Qk Tryz.prog 287 [.str s,.str [46]] (.int .i64 (Lib.indexByte s 46)):=by
 refine Qms.fn (by simp) ?_;have b0:(((1:Nat):Int)==0)=false:=rfl;have b1:(((1:Nat):Int)==1)=true:=rfl;have b2:([(46:UInt8)])[Int.toNat 0]? = some 46:=rfl;have hk:=QNX s;simp only[Cr,M5,M6,M7,M8,M9,Pa,Pb,Pd,Pe,Cr,RP,QUC,QVi,QU3,QH,Qa,seval];cases h:(([46]:List UInt8)==s)
 ·simp only[Qa,seval];refine aC hk ?_;simp only[Qa,seval]
 ·have hs:s=[46]:=by simpa using (QUt.1 h).symm
  subst hs;simp only[Qa,seval]
  try rfl

theorem QNZ (s:List UInt8):Qk Tryz.prog 271 [.str s,.str [46]] (.int .i64 (Lib.indexByte s 46)):=by
 refine Qmj.fn (by simp) ?_;simp only[Qa,seval];refine aC (QNY s) ?_;simp only[Qa,seval]

theorem Pv {t:List UInt8}{o:Nat}(h:Lib.indexByte t 46=(o:Int)):o<t.length∧t=t.take o++46 :: t.drop (o+1)∧∀c∈t.take o,c≠46:=by
 obtain⟨h1,h2⟩:=Lib.indexByte_some h;have hlt:=(QUn.1 h1).1;refine⟨hlt,?_,?_⟩
 ·have h3:t[o]=46:=(QUn.1 h1).2;rw[←h3,←QU5 hlt,QVC]
 ·intro c hc e;subst e;obtain⟨k,hk⟩:=QUy.1 hc;rw[QU0]at hk;split at hk
  ·exact h2 k ‹_› hk
  ·cases hk

theorem R3 {t:List UInt8}(h:Lib.indexByte t 46 = -1):Qn t=[t]:=by
 refine W4 fun c hc e=>?_
 subst e;obtain⟨k,hk⟩:=QUy.1 hc;exact Lib.indexByte_none h k hk

theorem Pw {t:List UInt8}{o:Nat}(h:Lib.indexByte t 46=(o:Int)):Qn t=t.take o :: Qn (t.drop (o+1)):=by
 obtain⟨_,h2,h3⟩:=Pv h
 conv=>lhs;rw[h2]
 exact GM h3

theorem Qv6 (t:List UInt8):Lib.indexByte t 46 = -1∨∃o:Nat,Lib.indexByte t 46=(o:Int):=by
 have:=Lib.indexByte_ge t 46;by_cases h:Lib.indexByte t 46 = -1
 ·exact .inl h
 ·obtain⟨o,ho⟩:=QV1 (a:=Lib.indexByte t 46) (by omega);exact .inr ⟨o,ho⟩

def SpI (s:List UInt8)(n:Nat)(k:Nat)(st:St):Prop :=
 ∃f fr t done,st=⟨f,[fr],[]⟩∧k=(Qn t).length∧Qn s=done++Qn t∧n=done.length+(Qn t).length∧t.length≤s.length∧
  f 0=.str t∧f 1=.str [46]∧f 2=.int .i64 0∧f 3=.int .i64 ((n-1:Nat):Int)∧f 9=.vec 0 31 1 0 n false∧f 10=.int .i64 (done.length:Nat)∧fr 31=.vec 1 1 (done.map Zv++List.replicate (Qn t).length (.str []))

theorem R4 (done:List (List UInt8))(x:List UInt8)(n:Nat)(h:0<n):(done.map Zv++List.replicate n (AV.str [])).set done.length (.str x)=(done++[x]).map Zv++List.replicate (n-1) (AV.str []):=by
 obtain⟨k,rfl⟩:∃k,n=k+1:=⟨n-1,by omega⟩;rw[List.set_append_right _ _ (by simp)];simp[Zv,List.replicate_succ]

theorem QN0 (s:List UInt8)(hs:s.length≤17592186044000):Qk Tryz.prog 241 [.str s,.str [46],.int .i64 0,.int .i64 (-1)] (.list ((Qn s).map Zv)):=by
 have hl:=UC s;have hc:s.count 46≤s.length:=List.count_le_length;have hm:(Qn s).length≤s.length+1:=by omega
 have b0:((-1:Int)==0)=false:=rfl;have b1:decide ((-1:Int)<0)=true:=rfl;have e1:IntKind.i64.wrap ((s.count 46:Nat)+1:Int)=((Qn s).length:Nat):=by rw[QF];omega
 have e2:IntKind.i64.wrap ((s.length:Nat)+1:Int)=((s.length+1:Nat):Int):=by rw[QF];omega
 have e3':(((s.length+1:Nat):Int)<((Qn s).length:Nat))=False:=eq_false (by omega);have e4:IntKind.i64.wrap (((Qn s).length:Nat)-1:Int)=(((Qn s).length-1:Nat):Int):=by rw[QF];omega
 have hz:JM 1 [AV.str []]=.str []:=rfl;refine Qlk.fn (by simp) ?_;simp only[b0,QH,Qa,seval];have b2:(([46]:List UInt8)==[])=false:=rfl;simp only[b2,Qa,seval];refine aC (QNW s) ?_;simp only[e1,e2,e3',Qa,seval];refine U3 (n:=(Qn s).length) (k:=(Qn s).length) rfl rfl (QUm _) (by omega) (by omega) rfl ?_;simp only[e4,hz,Qa,seval];refine Qd (SpI s (Qn s).length) _ ⟨_,_,s,[],rfl,rfl,rfl,by simp,QUm _,(by rfl),(by rfl),(by rfl),(by rfl),(by rfl),(by rfl),(by rfl)⟩ ?_;rintro _ st ⟨f,fr,t,done,rfl,rfl,hp,hn,ht,h0,h1,h2,h3,h9,h10,m31⟩;simp only[h3,h10,Qa,seval];have hpos:0<(Qn t).length:=QVH.2 (Kz t);have ia:Qb [fr] 1 none (.vec 0 31 1 0 (Qn s).length false) ((done.length:Nat):Int)=some (.vptr 0 31 1 done.length 0):=by
  have e:Am.Qf [fr] 0 31=.vec 1 1 (done.map Zv++List.replicate (Qn t).length (.str [])):=m31;simp only[Qb,e,Qh,if_true,QVN];simp;omega
 have ist:∀x:List UInt8,QX [fr] (.vptr 0 31 1 done.length 0) [.str x]=some [QI fr 31 (.vec 1 1 ((done++[x]).map Zv++List.replicate ((Qn t).length-1) (.str [])))]:=by
  intro x;have e:Am.Qf [fr] 0 31=.vec 1 1 (done.map Zv++List.replicate (Qn t).length (.str [])):=m31;have hy:(done.map Zv++List.replicate (Qn t).length (.str []))[done.length]? = some (.str []):=by
   rw[QVM (by simp)];simp[hpos]
  have hx:ZN (.str []) 0 [.str x]=.str x:=rfl;simp only[QX,e,hy,if_true,←R4 done x _ hpos];simp[AV.cells,AV.rfL,AV.rf,Am.put,hx]
 have ew:IntKind.i64.wrap ((done.length:Nat)+1:Int)=((done.length+1:Nat):Int):=by rw[QF];omega
 rcases Qv6 t with hd|⟨o,ho⟩
 ·have hp1:=R3 hd;have hl1:(Qn t).length=1:=by rw[hp1];rfl
  have d1:decide (((done.length:Nat):Int)<(((Qn s).length-1:Nat):Int))=false:=QWb (by omega);have hi:=ist t;have hrow:(done++[t]).map Zv++List.replicate ((Qn t).length-1) (AV.str [])=(Qn s).map Zv:=by
   rw[hl1,hp,hp1];simp
  have hlen:done.length+1=(Qn s).length:=by omega
  rw[hrow]at hi;rw[hlen]at ew;have hle:((Qn s).length≤(Qn s).length)=True:=eq_true (QUm _);have ht:(((Qn s).map Zv).drop 0).take (Qn s).length=(Qn s).map Zv:=by rw[QU4];exact QUV (by simp)
  simp only[d1,ia,hi,h0,h9,h10,ew,eE,seval];simp only[Qh,if_true,QVN,QUv,hle,true_and,and_true,QVF,QVc,QWl,XC,QVw,Zm,QWc];have el:Am.Qf [QI fr 31 (Ob.vec 1 1 ((Qn s).map Zv))] 0 31=.vec 1 1 ((Qn s).map Zv):=QS _ _ _;simp only[AV.still,el,QVZ,bne_self_eq_false,QUG,if_false,QU3,QVh,hle,and_self,if_true,ht,Option.bind_some,AV.un,QWc,QVw]
 ·have hp1:=Pw ho;obtain⟨ho1,ho2,ho3⟩:=Pv ho;have hl1:(Qn t).length=(Qn (t.drop (o+1))).length+1:=by rw[hp1];simp
  have hpos2:0<(Qn (t.drop (o+1))).length:=QVH.2 (Kz _);have d1:decide (((done.length:Nat):Int)<(((Qn s).length-1:Nat):Int))=true:=QWi (by omega);have d2:decide ((o:Int)<0)=false:=QWb (by omega);have w1:IntKind.i64.wrap ((o:Int)+0)=(o:Int):=by rw[QF];omega
  have w2:IntKind.i64.wrap ((o:Int)+1)=((o+1:Nat):Int):=by rw[QF];omega
  have hi:=ist (t.take o);simp only[d1,h0,h1,Qa,seval];refine aC (QNZ t) ?_;have hle1:(0≤o∧o≤t.length)=True:=eq_true ⟨QUv _,by omega⟩;have hle2:(o+1≤t.length∧t.length≤t.length)=True:=eq_true ⟨by omega,QUm _⟩;have ht2:(t.drop (o+1)).take (t.length-(o+1))=t.drop (o+1):=QUV (by simp);simp only[ho,d2,w1,w2,Qh,QVN,hle1,hle2,ht2,QVF,h0,h1,h2,h9,h10,eE,seval];simp only[ia,hi,ew,Qa,seval];have hlen:(done++[t.take o]).length=done.length+1:=by simp
  have hk:(Qn t).length-1=(Qn (t.drop (o+1))).length:=by omega
  exact⟨(Qn (t.drop (o+1))).length,by omega,_,_,t.drop (o+1),done++[t.take o],rfl,rfl,by rw[hp,hp1];simp,by rw[hlen];omega,by simp;omega,(by rfl),(by exact h1),(by exact h2),(by exact h3),(by exact h9),by rw[hlen]<;>first|rfl|simp only[eE,seval],by rw[←hk]<;>exact QS _ _ _⟩

def BK (c:UInt8):Bool:=decide (97≤c.toNat)&&decide (c.toNat≤122)
def BL (c:UInt8):Bool:=decide (65≤c.toNat)&&decide (c.toNat≤90)

theorem Qv7 (c:UInt8):Qk Tryz.prog 200 [.int .u8 (c.toNat:Nat)] (.bool (BK c)):=by
 refine QLQ.fn (by simp) ?_;have e1:decide ((c.toNat:Int)≥97)=decide (97≤c.toNat):=by rw[decide_eq_decide];omega
 have e2:decide ((c.toNat:Int)≤122)=decide (c.toNat≤122):=by rw[decide_eq_decide];omega
 simp only[e1,BK,Qa,seval];cases h:decide (97≤c.toNat)<;>simp only[e2,QVZ,QVQ,Qa,seval]

theorem Qv8 (c:UInt8):Qk Tryz.prog 201 [.int .u8 (c.toNat:Nat)] (.bool (BL c)):=by
 refine QLT.fn (by simp) ?_;have e1:decide ((c.toNat:Int)≥65)=decide (65≤c.toNat):=by rw[decide_eq_decide];omega
 have e2:decide ((c.toNat:Int)≤90)=decide (c.toNat≤90):=by rw[decide_eq_decide];omega
 simp only[e1,BL,Qa,seval];cases h:decide (65≤c.toNat)<;>simp only[e2,QVZ,QVQ,Qa,seval]

theorem R5 (c:UInt8):Jg c=(BK c||BL c || !((c.toNat:Int) != 95) || !(decide ((c.toNat:Int)<48)||decide ((c.toNat:Int) > 57))):=by
 unfold Jg JI BK BL;generalize c.toNat=x;rw[QVg];simp only[QUr,QUL,QUs,QUt,QVk,bne_eq_false_iff_eq,QVf,QWj];omega

def PrI (s:List UInt8)(k:Nat)(st:St):Prop :=
 ∃f i,st=⟨f,[Qc],[]⟩∧k=s.length-i∧1≤i∧QB (pq s) i=true∧f 0=.str s∧f 3=.int .i64 (i:Nat)

theorem R6 (s:List UInt8):Qk Tryz.prog 123 [.str s] (.bool (Q2 s)):=by
 refine QKu.fn (by simp) ?_;simp only[Qa,seval];by_cases hl:s.length=0
 ·have d0:((s.length:Int)==0)=true:=by rw[hl];rfl
  have e:Q2 s=false:=by rw[KT,hl];rfl
  simp only[d0,e,Qa,seval]
 have d0:((s.length:Int)==0)=false:=by rw[QV4];omega
 by_cases hm:s.length≤40
 case neg=>
  have d1:decide ((s.length:Int) > 40)=true:=QWi (by omega);have e:Q2 s=false:=by rw[KT,QWb hm,QWk,QVQ]
  simp only[d0,d1,e,Qa,seval]
 have d1:decide ((s.length:Int) > 40)=false:=QWb (by omega);have hp:Q2 s=QB (pq s) s.length:=by rw[KT,QWi hm,QWi (by omega:1≤s.length)];rfl
 obtain⟨c,hc⟩:∃c,s[0]? = some c:=⟨s[0]'(by omega),QUo (by omega)⟩;have hq0:QB (pq s) 1=(BK c||BL c):=by
  show(true&&pq s 0)=_;rw[W5 hc,QUQ rfl];rfl
 have h1:=Qv7 c;have h2:=Qv8 c;have hn:QB (pq s) 1=false→Q2 s=false:=fun h=>by
  rw[hp,QWd];intro h';rw[QJ.2 fun k hk=>QJ.1 h' k (by omega)]at h;cases h
 have z1:Int.toNat 0=0:=rfl;have go:QB (pq s) 1=true→∀(f:Fr),f 0=.str s→f 3=.int .i64 1→∀Q:Exit→St→Prop,(∀f,QB (pq s) s.length=true→Q (.exit 0) ⟨f,[Qc],[]⟩)→(∀f,f 2=.bool false→QB (pq s) s.length=false→Q .ret ⟨f,[Qc],[]⟩)→QG Tryz.prog (.loop Pf) ⟨f,[Qc],[]⟩ Q:=by
  intro hq1 f h0 h3 Q hx hr;refine Qd (PrI s) _ ⟨_,1,rfl,rfl,QUm _,hq1,h0,h3⟩ ?_;clear h0 h3 hc hq0 h1 h2 hn;rintro _ st ⟨f,i,rfl,rfl,h1i,hx1,h0,h3⟩;simp only[h0,h3,Qa,seval];by_cases hlt:i<s.length
  ·obtain⟨c,hc⟩:∃c,s[i]? = some c:=⟨s[i],QUo hlt⟩;have e1:=Qm i _ hlt (by simp only[maxLen];omega);have hs1:=Qv7 c;have hs2:=Qv8 c;have hstep:QB (pq s) (i+1)=Jg c:=by
    rw[QB,hx1,QVZ,W5 hc,QUB (by omega)]
   have hend:Jg c=false→QB (pq s) s.length=false:=fun h=>by
    rw[QWd];intro h';rw[QJ.2 fun k hk=>QJ.1 h' k (by omega)]at hstep;rw[h]at hstep;cases hstep
   have fin:∀f':Fr,Jg c=true→f' 0=.str s→f' 3=.int .i64 ((i+1:Nat):Int)→∃k,k<s.length-i∧PrI s k ⟨f',[Qc],[]⟩:=by
    intro f' hp h0 h3;exact⟨s.length-(i+1),by omega,f',i+1,rfl,rfl,by omega,by rw[hstep,hp],h0,h3⟩
   have hpc:=R5 c;simp only[Ql hlt,Qh,QVN,hc,h0,h3,Qa,seval];refine aC hs1 ?_;cases a1:BK c
   ·simp only[Qh,QVN,hc,h0,h3,QVt,Qa,seval];refine aC hs2 ?_;cases a2:BL c
    ·cases a3:((c.toNat:Int) != 95)
     ·rw[a1,a2,a3]at hpc;simp only[a3,Qh,QVN,hc,h0,h3,e1,QVt,Qa,seval];exact fin _ (by rw[hpc];rfl) (by exact h0) (by rfl)
     ·cases a4:decide ((c.toNat:Int)<48)
      ·cases a5:decide ((c.toNat:Int) > 57)
       ·rw[a1,a2,a3,a4,a5]at hpc;simp only[a3,a4,a5,Qh,QVN,hc,h0,h3,e1,QVt,Qa,seval];exact fin _ (by rw[hpc];rfl) (by exact h0) (by rfl)
       ·rw[a1,a2,a3,a4,a5]at hpc;simp only[a3,a4,a5,Qh,QVN,hc,h0,h3,QVt,Qa,seval];exact hr _ (by rfl) (hend (by rw[hpc];rfl))
      ·rw[a1,a2,a3,a4]at hpc;simp only[a3,a4,Qh,QVN,hc,h0,h3,QVt,Qa,seval];exact hr _ (by rfl) (hend (by rw[hpc];rfl))
    ·rw[a1,a2]at hpc;simp only[h3,e1,QV0,Qa,seval];exact fin _ (by rw[hpc];rfl) (by exact h0) (by rfl)
   ·rw[a1]at hpc;simp only[h3,e1,QV0,Qa,seval];exact fin _ (by rw[hpc];rfl) (by exact h0) (by rfl)
  ·simp only[Qx hlt,Qa,seval];exact hx _ (QJ.2 fun k hk=>QJ.1 hx1 k (by omega))
 simp only[d0,d1,z1,hc,Qa,seval];refine aC h1 ?_;cases a1:BK c
 ·simp only[z1,hc,QVt,Qa,seval];refine aC h2 ?_;cases a2:BL c
  ·rw[a1,a2]at hq0;simp only[hn hq0,QVt,Qa,seval]
  ·rw[a1,a2]at hq0;simp only[QV0,Qa,seval];refine go hq0 _ (by rfl) (by rfl) _ (fun f h=>?_) (fun f h2 h=>?_)
   ·simp only[hp,h,Qa,seval]
   ·simp only[hp,h,h2,Qa,seval]
 ·rw[a1,QV2]at hq0;simp only[QV0,Qa,seval];refine go hq0 _ (by rfl) (by rfl) _ (fun f h=>?_) (fun f h2 h=>?_)
  ·simp only[hp,h,Qa,seval]
  ·simp only[hp,h,h2,Qa,seval]

theorem Qv9 (s:List UInt8):Qk Tryz.prog 122 [.str s] (.bool (Zr s)):=by
 refine QKr.fn (by simp) ?_;simp only[QH,Qa,seval];have e:Zr s=YS.any fun w=>s==w:=rfl
 simp only[YS,List.any_cons,List.any_nil,QWl]at e
 repeat' (first|(refine Xr (fun h=>?_) (fun h=>?_)<;>simp only[h,QH,Qa,seval])|(refine X3 (fun h=>?_) (fun h=>?_)<;>simp only[h,Qp,QH,eE,seval])|(refine X4 (fun h=>?_) (fun h=>?_)<;>simp only[h,Qp,QH,eE,seval]))
 all_goals(simp only[*,QV2,QWm,QWl]at e;simp only[e])

theorem z69 (s:List UInt8):Qk Tryz.prog 69 [.str s] (.bool (XO s)):=by
 refine k69.fn (by simp) ?_;simp only[XO,Qa,seval];refine aC (R6 s) ?_;cases Q2 s
 ·simp only[QVQ,Qa,seval]
 ·simp only[QVZ,Qa,seval];refine aC (Qv9 s) ?_;simp only[Qa,seval]

def FuI (s:List UInt8)(k:Nat)(st:St):Prop :=
 ∃f i p,st=⟨f,[Qc],[]⟩∧k=s.length-i∧i≤s.length∧p.length≤i∧(∀c∈p,c≠(46:UInt8))∧(Qn s).all Q2=(Qn (p++s.drop i)).all Q2∧f 0=.str s∧f 3=.str p∧f 4=.int .i64 (i:Nat)

theorem QN1 (s:List UInt8):Qk Tryz.prog 120 [.str s] (.bool (decide (s.length≤120)&&(Qn s).all Q2)):=by
 refine QKl.fn (by simp) ?_;simp only[Qa,seval];by_cases hm:s.length≤120
 case neg=>
  have d1:decide ((s.length:Int) > 120)=true:=QWi (by omega);simp only[d1,QWb hm,QVQ,Qa,seval]
 have d1:decide ((s.length:Int) > 120)=false:=QWb (by omega);simp only[d1,QWi hm,QVZ,Qa,seval];refine Qd (FuI s) _ ⟨_,0,[],rfl,rfl,QUv _,QUm _,by simp,rfl,(by rfl),(by rfl),(by rfl)⟩ ?_;rintro _ st ⟨f,i,p,rfl,rfl,hi,hpl,hpd,hx,h0,h3,h4⟩;simp only[h0,h4,Qa,seval];by_cases hlt:i<s.length
 ·obtain⟨c,hc⟩:∃c,s[i]? = some c:=⟨s[i],QUo hlt⟩;have e1:=Qm i _ hlt (by simp only[maxLen];omega);have hd:s.drop i=c :: s.drop (i+1):=by
   rw[QU5 hlt];congr 1
   exact(QUn.1 hc).2
  have hts:(s.drop i).take (i+1-i)=[c]:=by
   rw[hd,show i+1-i=1 by omega];rfl
  simp only[Ql hlt,Qh,QVN,hc,h0,h4,Qa,seval];by_cases hdot:c=46
  ·subst hdot;have b0:((((46:UInt8).toNat:Nat):Int) != 46)=false:=rfl;have hs:(Qn s).all Q2=(Q2 p&&(Qn (s.drop (i+1))).all Q2):=by
    rw[hx,hd,GM hpd];rfl
   simp only[h3,Qa,seval];refine aC (R6 p) ?_;cases hp:Q2 p
   ·rw[hp,QVQ]at hs;simp only[hs,QVt,Qa,seval]
   ·rw[hp,QVZ]at hs;simp only[h4,e1,QV0,Qa,seval];exact⟨s.length-(i+1),by omega,_,i+1,[],rfl,rfl,by omega,QUv _,by simp,by rw[hs];rfl,(by exact h0),(by rfl),(by rfl)⟩
  ·have b0:(((c.toNat:Nat):Int) != 46)=true:=by
    rw[QUN];intro h
    apply hdot
    rw[←UInt8.toNat_inj];have:c.toNat=46:=by omega
    rw[this];rfl
   have hle:(i≤i+1∧i+1≤s.length)=True:=eq_true ⟨by omega,by omega⟩;have hsum:(p.length≤9223372036854775806)=True:=eq_true (by omega);simp only[b0,h0,h3,h4,e1,ZA,Zq,Q1,Qh,QVN,hle,hts,QH,hsum,Qa,seval];exact⟨s.length-(i+1),by omega,_,i+1,p++[c],rfl,rfl,by omega,by simp;omega,fun x hx=>by
    rcases QVE.1 hx with h|h
    ·exact hpd x h
    ·simp at h;subst h;exact hdot,by rw[hx,hd];simp,(by exact h0),(by rfl),(by rfl)⟩
 ·have hx':(Qn s).all Q2=Q2 p:=by
   rw[hx,QUY (by omega),QVp,W4 hpd];simp
  simp only[Qx hlt,h3,hx',Qa,seval];refine aC (R6 p) ?_;simp only[Qa,seval]

def Yn (s:List UInt8):Nat→Option Nat
 |0=>none
 |j+1=>if s[j]? = some 46 then some j else Yn s j

theorem UF (s:List UInt8):∀n,match Yn s n with
  |none=>∀k,k<n→s[k]?≠some 46
  |some j=>j<n∧s[j]? = some 46∧∀k,j<k→k<n→s[k]?≠some 46
 |0=>by simp[Yn]
 |n+1=>by
  unfold Yn;split
  ·rename_i h;split at h
   ·cases h
   ·rename_i h';have:=UF s n;rw[h]at this;intro k hk;rcases Nat.lt_succ_iff_lt_or_eq.1 hk with h1|rfl
    ·exact this k h1
    ·exact h'
  ·rename_i j h;split at h
   ·rename_i h';cases h;exact⟨by omega,h',fun k h1 h2=>by omega⟩
   ·rename_i h';have:=UF s n;rw[h]at this;exact⟨by omega,this.2.1,fun k h1 h2=>by
     rcases Nat.lt_succ_iff_lt_or_eq.1 h2 with h3|rfl
     ·exact this.2.2 k h1 h3
     ·exact h'⟩

def ZY (s:List UInt8):List UInt8×List UInt8:=match Yn s s.length with
 |none=>([],s)
 |some j=>(s.take j,s.drop (j+1))

theorem BM (s:List UInt8):((ZY s).1=[]∧(ZY s).2=s∧∀c∈s,c≠46)∨(s=(ZY s).1++46 :: (ZY s).2∧∀c∈(ZY s).2,c≠46):=by
 have h:=UF s s.length;unfold ZY;cases hl:Yn s s.length with
 |none=>
  rw[hl]at h;refine .inl ⟨rfl,rfl,fun c hc e=>?_⟩;subst e;obtain⟨k,hk⟩:=QUy.1 hc;exact h k (QUn.1 hk).1 hk
 |some j=>
  rw[hl]at h;obtain⟨h1,h2,h3⟩:=h;refine .inr ⟨?_,fun c hc e=>?_⟩
  ·have:s[j]=46:=(QUn.1 h2).2;show s=s.take j++46 :: s.drop (j+1);rw[←this,←QU5 h1,QVC]
  ·subst e;obtain⟨k,hk⟩:=QUy.1 hc;rw[QU1]at hk;exact h3 (j+1+k) (by omega) (QUn.1 hk).1 hk

def SdI (s:List UInt8)(k:Nat)(st:St):Prop :=
 ∃f,st=⟨f,[Qc],[]⟩∧k≤s.length∧Yn s s.length=Yn s k∧f 0=.str s∧f 4=.int .i64 ((k:Int)-1)

theorem QN2 (s:List UInt8)(hs:s.length≤120):Qk Tryz.prog 121 [.str s] (.tup [.str (ZY s).1,.str (ZY s).2]):=by
 refine QKo.fn (by simp) ?_;have w0:IntKind.i64.wrap ((s.length:Int)-1)=(s.length:Int)-1:=by rw[QF];omega
 simp only[w0,Qa,seval];refine Qd (SdI s) _ ⟨_,rfl,QUm _,rfl,(by rfl),(by rfl)⟩ ?_;rintro k st ⟨f,rfl,hk,hx,h0,h4⟩;simp only[h4,Qa,seval];cases k with
 |zero=>
  have d0:decide (((0:Nat):Int)-1≥0)=false:=rfl;have e:ZY s=([],s):=by unfold ZY;rw[hx];rfl
  simp only[e,h0,Qa,seval]
 |succ j=>
  have j1:((j+1:Nat):Int)-1=(j:Int):=by omega
  have d0:decide (((j:Nat):Int)≥0)=true:=QWi (by omega);have w1:IntKind.i64.wrap ((j:Int)-1)=(j:Int)-1:=by rw[QF];omega
  have w2:IntKind.i64.wrap ((j:Int)+1)=((j+1:Nat):Int):=by rw[QF];omega
  obtain⟨c,hc⟩:∃c,s[j]? = some c:=⟨s[j]'(by omega),QUo (by omega)⟩;simp only[j1,Qh,QVN,hc,h0,h4,Qa,seval];by_cases hdot:c=46
  ·subst hdot;have b0:((((46:UInt8).toNat:Nat):Int)==46)=true:=rfl;have e:ZY s=(s.take j,s.drop (j+1)):=by
    unfold ZY;rw[hx];show(match (if s[j]? = some 46 then some j else Yn s j)with|none=>([],s)|some j=>(s.take j,s.drop (j+1)))=_;rw[QUQ hc]
   have hle:(0≤j∧j≤s.length)=True:=eq_true ⟨by omega,by omega⟩;have hle2:(j+1≤s.length∧s.length≤s.length)=True:=eq_true ⟨by omega,QUm _⟩;have ht:((s.drop 0).take j)=s.take j:=by simp
   have ht2:((s.drop (j+1)).take (s.length-(j+1)))=s.drop (j+1):=QUV (by simp);simp only[w2,j1,e,ZA,Zq,Q1,QVF,Qh,QVN,hle,hle2,ht2,h0,h4,Qa,seval]
  ·have b0:(((c.toNat:Nat):Int)==46)=false:=by
    rw[QV4];intro h
    apply hdot
    rw[←UInt8.toNat_inj];have:c.toNat=46:=by omega
    rw[this];rfl
   have hne:¬s[j]? = some 46:=fun h=>by rw[hc]at h;cases h;exact hdot rfl
   simp only[b0,j1,w1,h4,Qa,seval];exact⟨j,by omega,_,rfl,by omega,by rw[hx];show(if s[j]? = some 46 then some j else Yn s j)=_;rw[QUB hne],(by exact h0),(by rfl)⟩

def Px (u:List UInt8):Bool:=if u=[]then false else(Qn u).any Zr

def DfI (s:List UInt8)(k:Nat)(st:St):Prop :=
 ∃f u,st=⟨f,[Qc],[]⟩∧k=u.length∧u.length≤120∧(u≠[]→(Qn u).all Q2=true)∧(Qn s).any Zr=Px u∧f 0=.str u

theorem z68 (s:List UInt8):Qk Tryz.prog 68 [.str s] (.bool (Kf s)):=by
 refine k68.fn (by simp) ?_;simp only[Kf,Qa,seval];refine aC (QN1 s) ?_;cases hf:(decide (s.length≤120)&&(Qn s).all Q2)
 ·simp only[QVQ,QVt,Qa,seval]
 simp only[QVZ,QV0,Qa,seval];obtain⟨hl,ha⟩:=QUp.1 hf;have hl:=of_decide_eq_true hl;have hne:s≠[]:=by
  rintro rfl;cases ha
 refine Qd (DfI s) _ ⟨_,s,rfl,rfl,hl,fun _=>ha,by unfold Px;rw[QUB hne],(by rfl)⟩ ?_;rintro _ st ⟨f,u,rfl,rfl,hul,hua,hx,h0⟩;simp only[h0,QH,Qa,seval];by_cases hu:u=[]
 ·subst hu;have b0:(!(([]:List UInt8)==[]))=false:=rfl;have e:(Qn s).any Zr=false:=hx;simp only[b0,e,QVt,Qa,seval]
 ·have b0:(!(u==[]))=true:=by simp[hu]
  simp only[b0,h0,Qa,seval];refine aC (QN2 u hul) ?_;simp only[Qa,seval];refine aC (Qv9 (ZY u).2) ?_;have hw:Px u=(Px (ZY u).1||Zr (ZY u).2):=by
   unfold Px;rw[QUB hu];rcases BM u with⟨h1,h2,h3⟩|⟨h1,h2⟩
   ·rw[h1,h2,QUQ rfl,W4 h3];simp
   ·have hp:Qn u=Qn (ZY u).1++[(ZY u).2]:=by
     conv=>lhs;rw[h1]
     exact GN h2
    have ha':=hua hu;rw[hp,QVD,QUL]at ha';have hn:(ZY u).1≠[]:=by
     intro h;rw[h]at ha';cases ha'.1
    rw[QUB hn,hp];simp
  cases hq:Zr (ZY u).2
  ·rw[hq,QWl]at hw;simp only[Qa,seval];have hlen:(ZY u).1.length<u.length∧((ZY u).1≠[]→(Qn (ZY u).1).all Q2=true):=by
    rcases BM u with⟨h1,h2,h3⟩|⟨h1,h2⟩
    ·rw[h1];exact⟨QVH.2 hu,fun h=>absurd rfl h⟩
    ·have hp:Qn u=Qn (ZY u).1++[(ZY u).2]:=by
      conv=>lhs;rw[h1]
      exact GN h2
     have ha':=hua hu;rw[hp,QVD,QUL]at ha';refine⟨?_,fun _=>ha'.1⟩;have:=congrArg List.length h1;simp at this;omega
   exact⟨(ZY u).1.length,hlen.1,_,(ZY u).1,rfl,rfl,by omega,hlen.2,by rw[hx,hw],(by rfl)⟩
  ·rw[hq,QWm]at hw;have e:(Qn s).any Zr=true:=hx.trans hw;simp only[e,QV0,Qa,seval]

theorem Xs {α:Type}{l:List α}{q:α→Bool}:(l.any fun x=>!q x)=!l.all q:=by
 induction l with
 |nil=>rfl
 |cons x l ih=>simp[ih]

theorem Qwa (s:List UInt8)(hs:s.length≤17592186044000):Qk Tryz.prog 211 [.str s,.str [46]] (.list ((Qn s).map Zv)):=by
 refine Qi2.fn (by simp) ?_;simp only[Qa,seval];refine aC (QN0 s hs) ?_;simp only[Qa,seval]

def IfI (s:List UInt8)(k:Nat)(st:St):Prop :=
 ∃f i,st=⟨f,[Qc],[]⟩∧k=(Qn s).length-i∧((Qn s).take i).all Q2=true∧f 0=.str s∧f 6=.list ((Qn s).map Zv)∧f 7=.int .i64 ((Qn s).length:Nat)∧f 8=.int .i64 (i:Nat)

theorem QN3 (s:List UInt8)(hs:s.length≤17592186044000):Qk Tryz.prog 209 [.str s] (.bool (decide (s.length≤120)&&(Qn s).all Q2)):=by
 have hl:=UC s;have hc:s.count 46≤s.length:=List.count_le_length;refine QiS.fn (by simp) ?_;simp only[Qa,seval];refine aC (Qwa s hs) ?_;simp only[QVh,Qa,seval];refine Qd (IfI s) _ ⟨_,0,rfl,rfl,rfl,(by rfl),(by rfl),(by rfl),(by rfl)⟩ ?_;rintro _ st ⟨f,i,rfl,rfl,hx,h0,h6,h7,h8⟩;simp only[h7,h8,Qa,seval];by_cases hlt:i<(Qn s).length
 ·obtain⟨x,hi⟩:∃x,(Qn s)[i]? = some x:=⟨(Qn s)[i],QUo hlt⟩;have hg:((Qn s).map Zv)[i]? = some (.str x):=by simp[hi,Zv]
  have e1:=Qm i _ hlt (by simp only[maxLen];omega);have ht:=Q6 (q:=Q2) hi;rw[hx,QVZ]at ht;simp only[Ql hlt,Qh,QVN,Qb,hg,h6,h8,eE,seval];refine aC (Qv5 x) ?_;cases hp:Q2 x
  ·have hf:(Qn s).all Q2=false:=by
    rw[QWd];intro h';rw[QUz.1 h' x (QUA hi)]at hp;cases hp
   simp only[hf,QVt,QWk,Qa,seval]
  ·rw[hp]at ht;simp only[h8,e1,QV0,Qa,seval];exact⟨(Qn s).length-(i+1),by omega,_,i+1,rfl,rfl,ht,(by exact h0),(by exact h6),(by exact h7),(by rfl)⟩
 ·rw[QUV (by omega)]at hx;have e:decide ((s.length:Int)≤120)=decide (s.length≤120):=by rw[decide_eq_decide];omega
  simp only[Qx hlt,h0,hx,e,QVz,Qa,seval]

theorem QGA (s:List UInt8)(m:Qo):Qg Tryz.prog 212 [Zv s] m fun y m1=>y=.bool (Zr s)∧m1=m:=by
 refine RM.go (by simp) ?_;simp only[Zv,QH,Qa,seval];have e:Zr s=YS.any fun w=>s==w:=rfl
 simp only[YS,List.any_cons,List.any_nil,QWl]at e
 repeat' (first|(refine Xr (fun h=>?_) (fun h=>?_)<;>simp only[h,QH,Qa,seval])|(refine X3 (fun h=>?_) (fun h=>?_)<;>simp only[h,Qp,QH,eE,seval])|(refine X4 (fun h=>?_) (fun h=>?_)<;>simp only[h,Qp,QH,eE,seval]))
 all_goals(simp only[*,QV2,QWm,QWl]at e;simp only[e])

theorem Qwb (s:List UInt8):Qk Tryz.prog 145 [.str s] (.bool (XO s)):=by
 refine QeB.fn (by simp) ?_;simp only[XO,Qa,seval];refine aC (Qv5 s) ?_;cases Q2 s
 ·simp only[QVQ,Qa,seval]
 ·simp only[QVZ,Qa,seval];refine aC (QNV s) ?_;simp only[Qa,seval]

theorem Qwc (s:List UInt8)(hs:s.length≤17592186044000):Qk Tryz.prog 142 [.str s] (.bool (Kf s)):=by
 have hl:=UC s;have hc:s.count 46≤s.length:=List.count_le_length;refine Qem.fn (by simp) ?_;simp only[Kf,Qa,seval];refine aC (QN3 s hs) ?_;cases hf:(decide (s.length≤120)&&(Qn s).all Q2)
 ·simp only[QVQ,Qa,seval]
 ·simp only[QVZ,Qa,seval];refine aC (Qwa s hs) ?_;simp only[Qa,seval];refine Qj (QNP (Qn s) (by simp only[maxLen];omega) Zr 212 [] _ fun o _=>QGA o _) (by simp only[QUT,QVn,Qa,seval]<;>rfl) ?_;simp only[Qa,seval]

section
variable (m:Qo)

theorem QN4 (g:PG):Qg Tryz.prog 138 [Qi g] m fun y m1=>y=.bool (!Jc g)∧m1=m:=by
 refine Qd7.go (by simp) ?_;have e:decide ((g.ops.length:Int) > 64)=!Jc g:=by unfold Jc;exact(by rw[QVg];simp only[QUs,QVk,QWj];omega)
 simp only[Qi,PG.cells,QVh,e,eE,seval]

theorem QN5 (x:PE):Qg Tryz.prog 140 [Qq x] m fun y m1=>y=.bool (!JE x)∧m1=m:=by
 refine QKV.go (by simp) ?_;have e1:decide ((x.items.length:Int)<1)=!decide (1≤x.items.length):=(by rw[QVg];simp only[QUs,QVk,QWj];omega);have e2:decide ((x.items.length:Int) > 64)=!decide (x.items.length≤64):=(by rw[QVg];simp only[QUs,QVk,QWj];omega);have e3:decide ((x.free.length:Int) > 16)=!decide (x.free.length≤16):=(by rw[QVg];simp only[QUs,QVk,QWj];omega);simp only[Qq,PE.cells,QVh,e1,JE,eE,seval];cases a1:decide (1≤x.items.length)<;>cases a2:decide (x.items.length≤64)<;>cases a3:decide (x.free.length≤16)<;>simp only[a2,a3,QV0,QVt,QVz,QWk,QVh,e2,e3,eE,seval]

theorem QN6 (o:PO):Qg Tryz.prog 144 [Qs o] m fun y m1=>y=.bool (!XO o.name)∧m1=m:=by
 refine Qew.go (by simp) ?_;simp only[Qs,PO.cells,eE,seval];refine aC (Qwb o.name) ?_;simp only[Qa,seval]

theorem QN7 (o:PI):Qg Tryz.prog 148 [Q5 o] m fun y m1=>y=.bool (!XO o.name)∧m1=m:=by
 refine QK4.go (by simp) ?_;simp only[Q5,PI.cells,eE,seval];refine aC (Qwb o.name) ?_;simp only[Qa,seval]

theorem QN8 (g:PG)(hs:g.name.length≤17592186044000)(hl:g.ops.length≤maxLen):Qg Tryz.prog 141 [Qi g] m fun y m1=>y=.bool (!KA g)∧m1=m:=by
 refine Qeh.go (by simp) ?_;simp only[Qi,PG.cells,KA,eE,seval];refine aC (Qwc g.name hs) ?_;cases Kf g.name
 ·simp only[QVQ,QVt,Qa,seval]
 ·simp only[QVZ,QV0,eE,seval];refine Qj (BI g.ops hl (fun o=>!XO o.name) 144 [] _ fun o _=>QN6 _ o) (by simp only[QUT,QVn,Qa,seval]<;>rfl) ?_;simp only[Xs,Qa,seval]

theorem QN9 (x:PE)(hs:x.name.length≤17592186044000)(hl:x.items.length≤maxLen):Qg Tryz.prog 146 [Qq x] m fun y m1=>y=.bool (!K1 x)∧m1=m:=by
 refine QKY.go (by simp) ?_;simp only[Qq,PE.cells,K1,eE,seval];refine aC (Qwc x.name hs) ?_;cases Kf x.name
 ·simp only[QVQ,QVt,Qa,seval]
 ·simp only[QVZ,QV0,eE,seval];refine Qj (Cx x.items hl (fun o=>!XO o.name) 148 [] _ fun o _=>QN7 _ o) (by simp only[QUT,QVn,Qa,seval]<;>rfl) ?_;simp only[Xs,Qa,seval]

theorem QOa (x y:PG):Qg Tryz.prog 150 [Qi x,Qi y] m fun r m1=>r=.bool ((XD PG.name) x y)∧m1=m:=by
 refine QK7.go (by simp) ?_;simp only[Qi,PG.cells,QH,XD,eE,seval]

theorem QOb (x y:PE):Qg Tryz.prog 152 [Qq x,Qq y] m fun r m1=>r=.bool ((XD PE.name) x y)∧m1=m:=by
 refine QLa.go (by simp) ?_;simp only[Qq,PE.cells,QH,XD,eE,seval]

theorem QOc (x y:PO):Qg Tryz.prog 155 [Qs x,Qs y] m fun r m1=>r=.bool ((Zk PO.num) x y)∧m1=m:=by
 refine Qfi.go (by simp) ?_;simp only[Qs,PO.cells,Zk,eE,seval]

theorem QOd (x y:PI):Qg Tryz.prog 158 [Q5 x,Q5 y] m fun r m1=>r=.bool ((Zk PI.num) x y)∧m1=m:=by
 refine QLj.go (by simp) ?_;simp only[Q5,PI.cells,Zk,eE,seval]

theorem QOe (g:PG)(hl:g.ops.length≤maxLen):Qg Tryz.prog 153 [Qi g] m fun y m1=>y=.bool (!Jp g)∧m1=m:=by
 refine Qe2.go (by simp) ?_;simp only[Qi,PG.cells,Jp,eE,seval];refine Qj (QNR g.ops hl (Zk PO.num) 155 [] _ fun x _ y _=>QOc _ x y) (by simp only[QUT,QVn,Qa,seval]<;>rfl) ?_;simp only[Qa,seval]

theorem QOf (x:PE)(hl:x.items.length≤maxLen):Qg Tryz.prog 156 [Qq x] m fun y m1=>y=.bool (!JQ x)∧m1=m:=by
 refine QLd.go (by simp) ?_;simp only[Qq,PE.cells,JQ,eE,seval];refine Qj (QNT x.items hl (Zk PI.num) 158 [] _ fun x _ y _=>QOd _ x y) (by simp only[QUT,QVn,Qa,seval]<;>rfl) ?_;simp only[Qa,seval]

end

section
variable {M:Nat}(P:PL)(hP:P.ok M)(hM:M≤17592186044000)
include hP hM

omit hM in
theorem z82:Qk Tryz.prog 82 [P.av] (.bool (!Hu P)):=by
 have e0:P.av=.agg [.list (P.progs.map Qi),.list (P.enums.map Qq)]:=rfl;have e1:decide ((if (P.progs.length:Int)<(P.enums.length:Int)then(P.enums.length:Int)else(P.progs.length:Int)) > 64)=!(decide (P.progs.length≤64)&&decide (P.enums.length≤64)):=by
  rw[Bool.not_and];split<;>exact(by rw[QVg];simp only[QUs,QVk,QWj,QUr];omega)
 refine k82.fn (by simp) ?_;simp only[e0,QVh,e1,Hu,eE,seval];cases(decide (P.progs.length≤64)&&decide (P.enums.length≤64))
 ·simp only[QVt,QVQ,Qa,seval]
 simp only[QV0,QVZ,eE,seval];refine Qj (DG P.progs hP.len1 (fun g=>!Jc g) 138 [] _ fun o _=>QN4 _ o) (by simp only[QUT,QVn,Qa,seval]<;>rfl) ?_;simp only[Xs,Qa,seval];cases P.progs.all Jc
 ·simp only[QVt,QVQ,Qa,seval]
 simp only[QV0,QVZ,eE,seval];refine Qj (HI P.enums hP.len2 (fun g=>!JE g) 140 [] _ fun o _=>QN5 _ o) (by simp only[QUT,QVn,Qa,seval]<;>rfl) ?_;simp only[Xs,Qa,seval]

omit hM in
theorem QOg (hN1:∀g∈P.progs,g.name.length≤17592186044000)(hN2:∀g∈P.enums,g.name.length≤17592186044000):Qk Tryz.prog 83 [P.av] (.bool (!BG P)):=by
 have e0:P.av=.agg [.list (P.progs.map Qi),.list (P.enums.map Qq)]:=rfl;refine k83.fn (by simp) ?_;simp only[e0,BG,eE,seval];refine Qj (DG P.progs hP.len1 (fun g=>!KA g) 141 [] _ fun o ho=>QN8 _ o (hN1 o ho) (hP.progs o ho).len) (by simp only[QUT,QVn,Qa,seval]<;>rfl) ?_;simp only[Xs,Qa,seval];cases P.progs.all KA
 ·simp only[QVt,QVQ,Qa,seval]
 simp only[QV0,QVZ,eE,seval];refine Qj (HI P.enums hP.len2 (fun g=>!K1 g) 146 [] _ fun o ho=>QN9 _ o (hN2 o ho) (hP.enums o ho).len1) (by simp only[QUT,QVn,Qa,seval]<;>rfl) ?_;simp only[Xs,Qa,seval]

omit hM in
theorem z84:Qk Tryz.prog 84 [P.av] (.bool (!UD P)):=by
 have e0:P.av=.agg [.list (P.progs.map Qi),.list (P.enums.map Qq)]:=rfl;refine k84.fn (by simp) ?_;simp only[e0,UD,eE,seval];refine Qj (QNQ P.progs hP.len1 (XD PG.name) 150 [] _ fun x _ y _=>QOa _ x y) (by simp only[QUT,QVn,Qa,seval]<;>rfl) ?_;simp only[Qa,seval];cases XV P.progs (XD PG.name)
 ·simp only[QVt,QVQ,Qa,seval]
 simp only[QV0,QVZ,eE,seval];refine Qj (QNS P.enums hP.len2 (XD PE.name) 152 [] _ fun x _ y _=>QOb _ x y) (by simp only[QUT,QVn,Qa,seval]<;>rfl) ?_;simp only[Qa,seval];cases XV P.enums (XD PE.name)
 ·simp only[QVt,QVQ,Qa,seval]
 simp only[QV0,QVZ,eE,seval];refine Qj (DG P.progs hP.len1 (fun g=>!Jp g) 153 [] _ fun o ho=>QOe _ o (hP.progs o ho).len) (by simp only[QUT,QVn,Qa,seval]<;>rfl) ?_;simp only[Xs,Qa,seval];cases P.progs.all Jp
 ·simp only[QVt,QVQ,Qa,seval]
 simp only[QV0,QVZ,eE,seval];refine Qj (HI P.enums hP.len2 (fun g=>!JQ g) 156 [] _ fun o ho=>QOf _ o (hP.enums o ho).len1) (by simp only[QUT,QVn,Qa,seval]<;>rfl) ?_;simp only[Xs,Qa,seval]

end

theorem TT (n c:Nat):AV.shN n (.fn (.func c) [] [])=.fn (.func c) [] []:=by
 induction n with
 |zero=>rfl
 |succ n ih=>rw[AV.shN,ih];rfl

theorem QOh (nm:PO→List UInt8)(c:Nat)(hn:∀x,Qk Tryz.prog c [Qs x] (.str (nm x)))(y x:PO)(fr:Nat→Ob)(m:Qo)(h3:fr 3=.cells [.fn (.func c) [] []])(h6:fr 6=.cells x.cells) :
  Qg Tryz.prog 216 [Qs y,.ptr 3 3 0,.ptr 3 6 0] (Qc :: Qc :: Qc :: fr :: m) fun r m1=>r=.bool (nm y==nm x)∧m1=Qc :: Qc :: Qc :: fr :: m:=by
 have hy:=hn y;have hx:=hn x;have g3:∀n,AV.shN n (.fn (.func c) [] [])=.fn (.func c) [] []:=fun n=>TT n c
 simp only[Qs,PO.cells]at hy hx h6;refine QjA.go (by simp) ?_;simp only[Qs,PO.cells,h3,g3,eE,seval];refine Ka (fa:=[]) (fb:=[]) (by rfl) hy rfl rfl rfl (.inl rfl) ?_;simp only[h3,h6,g3,eE,seval];refine Ka (fa:=[]) (fb:=[]) (by rfl) hx rfl rfl rfl (.inl rfl) ?_;simp only[QH,Qa,seval]

section
variable (L:List PO)(hl:L.length≤maxLen)(nm:PO→List UInt8)(c:Nat)(m:Qo)

def ReO (k:Nat)(st:St):Prop :=
 ∃f fr i,st=⟨f,fr :: m,[]⟩∧k=L.length-i∧QB (uniq L nm) i=true∧f 0=.list (L.map Qs)∧f 3=.ptr 0 3 0∧f 7=.list (L.map Qs)∧f 8=.int .i64 (L.length:Nat)∧f 9=.int .i64 (i:Nat)∧fr 3=.cells [.fn (.func c) [] []]∧∀s∈[6],(fr s).isRow=false

include hl in
theorem QOi (hn:∀x,Qk Tryz.prog c [Qs x] (.str (nm x))) :
  Qg Tryz.prog 161 [.list (L.map Qs),.fn (.func c) [] []] m fun y m1=>y=.bool (!Ky L nm)∧m1=m:=by
 refine Qfz.go (by simp) ?_;simp only[QVh,eE,seval];refine Qd (ReO L nm c m) _ ⟨_,_,0,rfl,rfl,rfl,(by rfl),(by rfl),(by rfl),(by rfl),(by rfl),(by rfl),by simp<;>rfl⟩ ?_;rintro _ st ⟨f0,fr0,i,rfl,rfl,hx,h00,h30,h70,h80,h90,m30,r6⟩;refine QK (a:=_) [6] r6 ?_;intro f fr hf hm hn6;have h0:f 0=.list (L.map Qs):=by rw[hf,h00]<;>rfl
 have h3:f 3=.ptr 0 3 0:=by rw[hf,h30]<;>rfl
 have h7:f 7=.list (L.map Qs):=by rw[hf,h70]<;>rfl
 have h8:f 8=.int .i64 (L.length:Nat):=by rw[hf,h80]<;>rfl
 have h9:f 9=.int .i64 (i:Nat):=by rw[hf,h90]<;>rfl
 have m3:fr 3=.cells [.fn (.func c) [] []]:=by rw[hm 3 (by decide),m30]<;>rfl
 have n6:=hn6 6 (by decide);clear hf hm hn6 h00 h30 h70 h80 h90 m30 r6;simp only[h8,h9,Qa,seval];by_cases hlt:i<L.length
 ·obtain⟨x,hi⟩:∃x,L[i]? = some x:=⟨L[i],QUo hlt⟩;have hg:(L.map Qs)[i]? = some (Qs x):=by simp[hi]
  have e1:=Qm i _ hlt hl;have hle:(i≤L.length)=True:=eq_true (by omega);have ht:((L.map Qs).drop 0).take (i-0)=(L.take i).map Qs:=by simp
  have hstep:QB (uniq L nm) (i+1)=!(L.take i).any fun y=>nm y==nm x:=by
   rw[QB,hx,QVZ,U5 hi,DE]
  have hcl:=fun(fr:Nat→Ob) (h3:fr 3=.cells [.fn (.func c) [] []]) (h6:fr 6=.cells x.cells)=>BI (L.take i) (by simp;omega) (fun y=>nm y==nm x) 216 [.ptr 0 3 0,.ptr 0 6 0] (fr :: m) fun y _=>QOh nm c hn y x fr m h3 h6
  simp only[Ql hlt,Qh,QVN,Qb,hg,Qs,PO.cells,n6,h0,h7,h9,ZA,Zq,Q1,QVW,QVh,QUv,QUm,hle,true_or,QVF,←List.map_take,eE,seval];refine Qj (hcl _ (by exact m3) (by rfl)) (by simp only[QUT,QVn,h3,Qa,seval]<;>rfl) ?_;cases hp:(L.take i).any fun y=>nm y==nm x
  ·rw[hp]at hstep;simp only[h9,e1,Qa,seval];exact⟨L.length-(i+1),by omega,_,_,i+1,rfl,rfl,hstep,(by exact h0),(by exact h3),(by exact h7),(by exact h8),(by rfl),(by exact m3),by simp<;>rfl⟩
  ·rw[hp]at hstep;have hf:Ky L nm=false:=by
    rw[QWd];intro h';rw[QJ.2 fun k hk=>QJ.1 h' k (by omega)]at hstep;cases hstep
   simp only[hf,QVt,Qa,seval]
 ·have hf:Ky L nm=true:=QJ.2 fun k hk=>QJ.1 hx k (by omega)
  simp only[Qx hlt,hf,QV0,Qa,seval]

end

theorem QOj (nm:PI→List UInt8)(c:Nat)(hn:∀x,Qk Tryz.prog c [Q5 x] (.str (nm x)))(y x:PI)(fr:Nat→Ob)(m:Qo)(h3:fr 3=.cells [.fn (.func c) [] []])(h6:fr 6=.cells x.cells) :
  Qg Tryz.prog 217 [Q5 y,.ptr 3 3 0,.ptr 3 6 0] (Qc :: Qc :: Qc :: fr :: m) fun r m1=>r=.bool (nm y==nm x)∧m1=Qc :: Qc :: Qc :: fr :: m:=by
 have hy:=hn y;have hx:=hn x;have g3:∀n,AV.shN n (.fn (.func c) [] [])=.fn (.func c) [] []:=fun n=>TT n c
 simp only[Q5,PI.cells]at hy hx h6;refine QL9.go (by simp) ?_;simp only[Q5,PI.cells,h3,g3,eE,seval];refine Ka (fa:=[]) (fb:=[]) (by rfl) hy rfl rfl rfl (.inl rfl) ?_;simp only[h3,h6,g3,eE,seval];refine Ka (fa:=[]) (fb:=[]) (by rfl) hx rfl rfl rfl (.inl rfl) ?_;simp only[QH,Qa,seval]

section
variable (L:List PI)(hl:L.length≤maxLen)(nm:PI→List UInt8)(c:Nat)(m:Qo)

def ReI (k:Nat)(st:St):Prop :=
 ∃f fr i,st=⟨f,fr :: m,[]⟩∧k=L.length-i∧QB (uniq L nm) i=true∧f 0=.list (L.map Q5)∧f 3=.ptr 0 3 0∧f 7=.list (L.map Q5)∧f 8=.int .i64 (L.length:Nat)∧f 9=.int .i64 (i:Nat)∧fr 3=.cells [.fn (.func c) [] []]∧∀s∈[6],(fr s).isRow=false

include hl in
theorem QOk (hn:∀x,Qk Tryz.prog c [Q5 x] (.str (nm x))) :
  Qg Tryz.prog 164 [.list (L.map Q5),.fn (.func c) [] []] m fun y m1=>y=.bool (!Ky L nm)∧m1=m:=by
 refine QLs.go (by simp) ?_;simp only[QVh,eE,seval];refine Qd (ReI L nm c m) _ ⟨_,_,0,rfl,rfl,rfl,(by rfl),(by rfl),(by rfl),(by rfl),(by rfl),(by rfl),by simp<;>rfl⟩ ?_;rintro _ st ⟨f0,fr0,i,rfl,rfl,hx,h00,h30,h70,h80,h90,m30,r6⟩;refine QK (a:=_) [6] r6 ?_;intro f fr hf hm hn6;have h0:f 0=.list (L.map Q5):=by rw[hf,h00]<;>rfl
 have h3:f 3=.ptr 0 3 0:=by rw[hf,h30]<;>rfl
 have h7:f 7=.list (L.map Q5):=by rw[hf,h70]<;>rfl
 have h8:f 8=.int .i64 (L.length:Nat):=by rw[hf,h80]<;>rfl
 have h9:f 9=.int .i64 (i:Nat):=by rw[hf,h90]<;>rfl
 have m3:fr 3=.cells [.fn (.func c) [] []]:=by rw[hm 3 (by decide),m30]<;>rfl
 have n6:=hn6 6 (by decide);clear hf hm hn6 h00 h30 h70 h80 h90 m30 r6;simp only[h8,h9,Qa,seval];by_cases hlt:i<L.length
 ·obtain⟨x,hi⟩:∃x,L[i]? = some x:=⟨L[i],QUo hlt⟩;have hg:(L.map Q5)[i]? = some (Q5 x):=by simp[hi]
  have e1:=Qm i _ hlt hl;have hle:(i≤L.length)=True:=eq_true (by omega);have ht:((L.map Q5).drop 0).take (i-0)=(L.take i).map Q5:=by simp
  have hstep:QB (uniq L nm) (i+1)=!(L.take i).any fun y=>nm y==nm x:=by
   rw[QB,hx,QVZ,U5 hi,DE]
  have hcl:=fun(fr:Nat→Ob) (h3:fr 3=.cells [.fn (.func c) [] []]) (h6:fr 6=.cells x.cells)=>Cx (L.take i) (by simp;omega) (fun y=>nm y==nm x) 217 [.ptr 0 3 0,.ptr 0 6 0] (fr :: m) fun y _=>QOj nm c hn y x fr m h3 h6
  simp only[Ql hlt,Qh,QVN,Qb,hg,Q5,PI.cells,n6,h0,h7,h9,ZA,Zq,Q1,QVW,QVh,QUv,QUm,hle,true_or,QVF,←List.map_take,eE,seval];refine Qj (hcl _ (by exact m3) (by rfl)) (by simp only[QUT,QVn,h3,Qa,seval]<;>rfl) ?_;cases hp:(L.take i).any fun y=>nm y==nm x
  ·rw[hp]at hstep;simp only[h9,e1,Qa,seval];exact⟨L.length-(i+1),by omega,_,_,i+1,rfl,rfl,hstep,(by exact h0),(by exact h3),(by exact h7),(by exact h8),(by rfl),(by exact m3),by simp<;>rfl⟩
  ·rw[hp]at hstep;have hf:Ky L nm=false:=by
    rw[QWd];intro h';rw[QJ.2 fun k hk=>QJ.1 h' k (by omega)]at hstep;cases hstep
   simp only[hf,QVt,Qa,seval]
 ·have hf:Ky L nm=true:=QJ.2 fun k hk=>QJ.1 hx k (by omega)
  simp only[Qx hlt,hf,QV0,Qa,seval]

end

theorem QOl (o:PO):Qk Tryz.prog 162 [Qs o] (.str o.name):=by
 refine QfE.fn (by simp) ?_;simp only[Qs,PO.cells,eE,seval]

theorem QOm (o:PI):Qk Tryz.prog 165 [Q5 o] (.str o.name):=by
 refine QLv.fn (by simp) ?_;simp only[Q5,PI.cells,eE,seval]

theorem QOn (x:PE)(g:PG)(fr:Nat→Ob)(m:Qo)(h2:fr 2=.cells g.cells):Qg Tryz.prog 160 [Qq x,.ptr 3 2 0] (Qc :: Qc :: Qc :: fr :: m) fun y m1=>y=.bool (x.name==g.name)∧m1=Qc :: Qc :: Qc :: fr :: m:=by
 simp only[PG.cells]at h2;refine QLm.go (by simp) ?_;simp only[Qq,PE.cells,h2,QH,eE,seval]

theorem QOo (x:PE)(hl:x.items.length≤maxLen)(m:Qo):Qg Tryz.prog 163 [Qq x] m fun y m1=>y=.bool (!WA x)∧m1=m:=by
 refine QLp.go (by simp) ?_;simp only[Qq,PE.cells,WA,eE,seval];refine Qj (QOk x.items hl PI.name 165 _ QOm) (by simp only[QUT,QVn,Qa,seval]<;>rfl) ?_;simp only[Qa,seval]

section
variable {M:Nat}(P:PL)(hP:P.ok M)
include hP

theorem QOp (g:PG)(hl:g.ops.length≤maxLen)(fr:Nat→Ob)(h1:fr 1=.cells [.list (P.progs.map Qi),.list (P.enums.map Qq)]) :
  Qg Tryz.prog 159 [Qi g,.ptr 3 1 0] [Qc,Qc,Qc,fr] fun y m1=>y=.bool (!KB P g)∧m1=[Qc,Qc,Qc,fr]:=by
 have e:KB P g=(!(P.enums.any fun e=>e.name==g.name)&&Ky g.ops PO.name):=by rw[KB,DE]
 refine Qfn.go (by simp) ?_;simp only[Qi,PG.cells,h1,e,eE,seval];refine Qj (HI P.enums hP.len2 (fun e=>e.name==g.name) 160 [.ptr 0 2 0] _ fun o _=>QOn o g _ _ (by rfl)) (by simp only[QUT,QVn,Qa,seval]<;>rfl) ?_;cases P.enums.any fun e=>e.name==g.name
 ·simp only[QVt,QVZ,eE,seval];refine Qj (QOi g.ops hl PO.name 162 _ QOl) (by simp only[QUT,QVn,Qa,seval]<;>rfl) ?_;simp only[Qa,seval]
 ·simp only[QV0,QVQ,QVt,Qa,seval]

theorem z85:Qk Tryz.prog 85 [P.av] (.bool (!BH P)):=by
 have e0:P.av=.agg [.list (P.progs.map Qi),.list (P.enums.map Qq)]:=rfl;refine k85.fn (by simp) ?_;simp only[e0,BH,eE,seval];refine Qj (DG P.progs hP.len1 (fun g=>!KB P g) 159 [.ptr 0 1 0] _ fun o ho=>QOp P hP o (hP.progs o ho).len _ (by rfl)) (by simp only[QUT,QVn,Qa,seval]<;>rfl) ?_;simp only[Xs,Qa,seval];cases P.progs.all (KB P)
 ·simp only[QVt,QVQ,Qa,seval]
 simp only[QV0,QVZ,eE,seval];refine Qj (HI P.enums hP.len2 (fun g=>!WA g) 163 [] _ fun o ho=>QOo o (hP.enums o ho).len1 _) (by simp only[QUT,QVn,Qa,seval]<;>rfl) ?_;simp only[Xs,Qa,seval]

end

theorem QOq (x:PS)(n:Int)(fr:Nat→Ob)(m:Qo)(h3:fr 3=.cells [.int .i64 n]):Qg Tryz.prog 245 [Zf x,.ptr 2 3 0] (Qc :: Qc :: fr :: m) fun y m1=>y=.bool (decide (x.lo≤n)&&decide (n≤x.hi))∧m1=Qc :: Qc :: fr :: m:=by
 refine QMK.go (by simp) ?_;simp only[Zf,PS.cells,h3,eE,seval];cases h:decide (x.lo≤n)<;>simp only[h3,QVZ,QVQ,eE,seval]

theorem QOr (L:List PS)(hl:L.length≤maxLen)(n:Int):Qk Tryz.prog 219 [.list (L.map Zf),.int .i64 n] (.bool (kept L n)):=by
 refine QMf.fn (by simp) ?_;simp only[eE,seval];refine Qj (QNN L hl (fun x=>decide (x.lo≤n)&&decide (n≤x.hi)) 245 [.ptr 0 3 0] _ fun o _=>QOq o n _ _ (by rfl)) (by simp only[QUT,QVn,Qa,seval]<;>rfl) ?_;simp only[kept,Qa,seval]

theorem QOs (o:PO)(m:Qo):Qg Tryz.prog 167 [Qs o] m fun y m1=>y=.bool (!Zs o)∧m1=m:=by
 refine QfO.go (by simp) ?_;have e1:decide (o.num<1)=!decide (o.num≥1):=(by rw[QVg];simp only[QUs,QVk,QWj];omega);have e2:decide (o.num > 65535)=!decide (o.num≤65535):=(by rw[QVg];simp only[QUs,QVk,QWj];omega);simp only[Qs,PO.cells,Zs,e1,eE,seval];cases decide (o.num≥1)<;>simp only[QV0,QVt,QVZ,QVQ,e2,eE,seval]

theorem QOt (g:PG)(hl:g.ops.length≤maxLen)(m:Qo):Qg Tryz.prog 166 [Qi g] m fun y m1=>y=.bool (!g.ops.all Zs)∧m1=m:=by
 refine QfJ.go (by simp) ?_;simp only[Qi,PG.cells,eE,seval];refine Qj (BI g.ops hl (fun o=>!Zs o) 167 [] _ fun o _=>QOs o _) (by simp only[QUT,QVn,Qa,seval]<;>rfl) ?_;simp only[Xs,Qa,seval]

theorem QOu (o:PI)(x:PE)(hl:x.free.length≤maxLen)(fr:Nat→Ob)(m:Qo)(h1:fr 1=.cells x.cells):Qg Tryz.prog 218 [Q5 o,.ptr 3 1 0] (Qc :: Qc :: Qc :: fr :: m) fun y m1=>y=.bool (!Ym x o)∧m1=Qc :: Qc :: Qc :: fr :: m:=by
 have hr:Qk Tryz.prog 219 [.list (x.free.map fun n=>AV.agg n.cells),.int .i64 o.num] (.bool (kept x.free o.num)):=QOr x.free hl o.num;simp only[PE.cells]at h1;refine QMc.go (by simp) ?_;have e2:decide (o.num > 2147483647)=!decide (o.num≤2147483647):=(by rw[QVg];simp only[QUs,QVk,QWj];omega);simp only[Q5,PI.cells,Ym,e2,eE,seval];cases decide (o.num≤2147483647)
 ·simp only[QVt,QVQ,Qa,seval]
 ·simp only[QV0,QVZ,h1,eE,seval];refine aC hr ?_;simp only[Bool.not_not,Qa,seval]

def K4 (l:List PS)(i:Nat):Bool:=Ht l GP i&&Xg l Ul i
theorem Vl (l:List PS):QB (K4 l) l.length=(l.all GP&&XV l Ul):=by
 unfold K4 XV;rw[HG,HH]

def OuI (x:PE)(m:Qo)(k:Nat)(st:St):Prop :=
 ∃f fr i,st=⟨f,fr :: m,[]⟩∧k=x.free.length-i∧QB (K4 x.free) i=true∧f 1=.ptr 0 1 0∧f 6=.list (x.free.map Zf)∧f 7=.int .i64 (x.free.length:Nat)∧f 8=.int .i64 (i:Nat)∧fr 1=.cells x.cells∧∀s∈[4],(fr s).isRow=false

theorem QOv (x:PE)(h0:x.items≠[])(hl1:x.items.length≤maxLen)(hl:x.free.length≤maxLen)(m:Qo):Qg Tryz.prog 168 [Qq x] m fun y m1=>y=.bool (!Jq x)∧m1=m:=by
 have hsp:=Vl x.free;have z1:Int.toNat 0=0:=rfl;have z0:(0≤(0:Int))=True:=by simp
 refine QLy.go (by simp) ?_;simp only[Qq,PE.cells,QVh,eE,seval];refine Qd (OuI x m) _ ⟨_,_,0,rfl,rfl,rfl,(by rfl),(by rfl),(by rfl),(by rfl),(by rfl),by simp<;>rfl⟩ ?_;rintro _ st ⟨f0,fr0,i,rfl,rfl,hx,h10,h60,h70,h80,m10,r4⟩;refine QK (a:=_) [4] r4 ?_;intro f fr hf hm hn4;have h1:f 1=.ptr 0 1 0:=by rw[hf,h10]<;>rfl
 have h6:f 6=.list (x.free.map Zf):=by rw[hf,h60]<;>rfl
 have h7:f 7=.int .i64 (x.free.length:Nat):=by rw[hf,h70]<;>rfl
 have h8:f 8=.int .i64 (i:Nat):=by rw[hf,h80]<;>rfl
 have m1:fr 1=.cells x.cells:=by rw[hm 1 (by decide),m10]<;>rfl
 have n4:=hn4 4 (by decide);clear hf hm hn4 h10 h60 h70 h80 m10 r4;simp only[PE.cells]at m1;simp only[h7,h8,Qa,seval];by_cases hlt:i<x.free.length
 ·obtain⟨y,hi⟩:∃y,x.free[i]? = some y:=⟨x.free[i],QUo hlt⟩;have hg:(x.free.map Zf)[i]? = some (Zf y):=by simp[hi]
  have e1:=Qm i _ hlt hl;have hstep:QB (K4 x.free) (i+1)=(GP y&&Xg x.free Ul i):=by
   rw[QB,hx,QVZ,K4,Yu hi]
  have hend:QB (K4 x.free) (i+1)=false→Jq x=false:=by
   intro h;unfold Jq;rw[←hsp];have:QB (K4 x.free) x.free.length=false:=by
    rw[QWd];intro h';rw[QJ.2 fun k hk=>QJ.1 h' k (by omega)]at h;cases h
   rw[this];rfl
  have fin:∀(f':Fr) (fr':Nat→Ob),QB (K4 x.free) (i+1)=true→f' 1=.ptr 0 1 0→f' 6=.list (x.free.map Zf)→f' 7=.int .i64 (x.free.length:Nat)→f' 8=.int .i64 ((i+1:Nat):Int)→fr' 1=.cells x.cells→(∀s∈[4],(fr' s).isRow=false)→∃k,k<x.free.length-i∧OuI x m k ⟨f',fr' :: m,[]⟩:=by
   intro f' fr' a b c d e g h;exact⟨x.free.length-(i+1),by omega,f',fr',i+1,rfl,rfl,a,b,c,d,e,g,h⟩
  have s1:GP y=(!decide (y.lo<0) && !decide (y.hi > 2147483647) && !decide (y.hi<y.lo)):=by
   unfold GP;exact(by rw[QVg];simp only[QUs,QVk,QWj,QUL];omega)
  rw[s1]at hstep;simp only[Ql hlt,Qh,QVN,Qb,hg,Zf,PS.cells,n4,h6,h8,eE,seval];cases a1:decide (y.lo<0)
  case true=>
   rw[a1,QV0,QVQ,QVQ,QVQ]at hstep;simp only[hend hstep,QVt,Qa,seval]
  cases a2:decide (y.hi > 2147483647)
  case true=>
   rw[a1,a2,QV0,QWk,QVQ,QVQ]at hstep;simp only[a2,hend hstep,QVt,eE,seval]
  cases a3:decide (y.hi<y.lo)
  case true=>
   rw[a1,a2,a3,QV0,QWk,QVQ]at hstep;simp only[a2,a3,hend hstep,QVt,eE,seval]
  rw[a1,a2,a3]at hstep;simp only[QVt,QVZ]at hstep;cases i with
  |zero=>
   have d0:decide (((0:Nat):Int) > 0)=false:=rfl;rw[YR]at hstep;simp only[a2,a3,h8,eE,seval];exact fin _ _ hstep (by exact h1) (by exact h6) (by exact h7) (by rfl) (by exact m1) (by simp<;>rfl)
  |succ j=>
   have d0:decide (((j+1:Nat):Int) > 0)=true:=QWi (by omega);obtain⟨z,hj⟩:∃z,x.free[j]? = some z:=⟨x.free[j]'(by omega),QUo (by omega)⟩;have hgj:(x.free.map fun n=>AV.agg n.cells)[j]? = some (.agg z.cells):=by simp[hj]
   simp only[PS.cells]at hgj;rw[Z6 hj hi]at hstep;have w:=WB j _ hlt hl;have s2:Ul z y=!decide (y.lo≤z.hi):=by unfold Ul;exact(by rw[QVg];simp only[QUs,QVk,QWj];omega)
   rw[s2]at hstep;simp only[a2,a3,d0,w,Qh,QVN,Qb,hgj,PS.cells,h1,m1,eE,seval];cases a4:decide (y.lo≤z.hi)
   ·rw[a4]at hstep;simp only[h8,e1,Qa,seval];exact fin _ _ hstep (by exact h1) (by exact h6) (by exact h7) (by rfl) (by exact m1) (by simp<;>rfl)
   ·rw[a4]at hstep;simp only[hend hstep,QVt,Qa,seval]
 ·have hfr:QB (K4 x.free) x.free.length=true:=QJ.2 fun k hk=>QJ.1 hx k (by omega)
  obtain⟨it,Qe,hits⟩:∃it Qe,x.items=it :: Qe:=by
   cases h:x.items with
   |nil=>exact absurd h h0
   |cons a b=>exact⟨a,b,rfl⟩
  have hr:Jq x=(it.num==0&&x.items.all (Ym x)):=by
   unfold Jq;rw[←hsp,hfr,QVZ,UE,hits]
  have hg0:(x.items.map fun n=>AV.agg n.cells)[0]? = some (.agg it.cells):=by simp[hits]
  have hne:(it.num != 0)=!(it.num==0):=rfl;simp only[PI.cells]at hg0;simp only[Qx hlt,Qb,z0,z1,hg0,PI.cells,hr,hne,QUC,QVi,h1,m1,eE,seval];cases it.num==0
  ·simp only[QVt,QVQ,Qa,seval]
  ·simp only[QV0,QVZ,m1,h1,eE,seval];refine Qj (Cx x.items hl1 (fun o=>!Ym x o) 218 [.ptr 0 1 0] _ fun o _=>QOu o x hl _ _ (by exact m1)) (by simp only[QUT,QVn,h1,Qa,seval]<;>rfl) ?_;simp only[Xs,Qa,seval]

theorem z86 {M:Nat}(P:PL)(hP:P.ok M)(hi:∀e∈P.enums,e.items≠[]):Qk Tryz.prog 86 [P.av] (.bool (!GQ P)):=by
 have e0:P.av=.agg [.list (P.progs.map Qi),.list (P.enums.map Qq)]:=rfl;refine k86.fn (by simp) ?_;simp only[e0,GQ,eE,seval];refine Qj (DG P.progs hP.len1 (fun g=>!g.ops.all Zs) 166 [] _ fun o ho=>QOt o (hP.progs o ho).len _) (by simp only[QUT,QVn,Qa,seval]<;>rfl) ?_;simp only[Xs,Qa,seval];cases P.progs.all fun g=>g.ops.all Zs
 ·simp only[QVt,QVQ,Qa,seval]
 simp only[QV0,QVZ,eE,seval];refine Qj (HI P.enums hP.len2 (fun g=>!Jq g) 168 [] _ fun o ho=>QOv o (hi o ho) (hP.enums o ho).len1 (hP.enums o ho).len2 _) (by simp only[QUT,QVn,Qa,seval]<;>rfl) ?_;simp only[Xs,Qa,seval]

end Go.Proofs.YtdhlbgejhcejcaaGreatDoor.Va

namespace Go.Proofs.YtdhlbgejhcejcaaGreatDoor.Va
open Go Am Rc Bt

def bt (s:List UInt8)(i lo hi:Nat):Bool :=
 match s[i]? with
 |some b=>decide (lo≤b.toNat)&&decide (b.toNat≤hi)
 |none=>false
def tl (s:List UInt8):Nat→Nat→Bool
 |_,0=>true
 |i,n+1=>bt s i 128 191&&tl s (i+1) n
def Fh (s:List UInt8)(i b:Nat):Nat :=
 if b<128 then 1
 else if 194≤b∧b≤223∧tl s (i+1) 1=true then 2
 else if b=224∧bt s (i+1) 160 191=true∧tl s (i+2) 1=true then 3
 else if b=237∧bt s (i+1) 128 159=true∧tl s (i+2) 1=true then 3
 else if 225≤b∧b≤239∧b≠237∧tl s (i+1) 2=true then 3
 else if b=240∧bt s (i+1) 144 191=true∧tl s (i+2) 2=true then 4
 else if 241≤b∧b≤243∧tl s (i+1) 3=true then 4
 else if b=244∧bt s (i+1) 128 143=true∧tl s (i+2) 2=true then 4
 else 0
def sz (s:List UInt8)(i:Nat):Nat :=
 match s[i]? with
 |none=>0
 |some c=>Fh s i c.toNat
def W6 (s:List UInt8):Nat→Nat→Int
 |0,_=>-1
 |k+1,i=>if i<s.length then(if sz s i=0 then(i:Int)else W6 s k (i+sz s i))else -1
def UG (s:List UInt8):Bool:=decide (W6 s s.length 0<0)

theorem QOw (c:UInt8)(n:Nat):decide ((c.toNat:Int)≥(n:Int))=decide (n≤c.toNat):=by simp
theorem QOx (c:UInt8)(n:Nat):decide ((c.toNat:Int)≤(n:Int))=decide (c.toNat≤n):=by simp

theorem BN (s:List UInt8)(i lo hi:Nat):Qk Tryz.prog 268 [.str s,.int .i64 (i:Nat),.int .u8 (lo:Nat),.int .u8 (hi:Nat)] (.bool (bt s i lo hi)):=by
 refine QM9.fn (by simp) ?_;by_cases hlt:i<s.length
 ·obtain⟨c,hc⟩:∃c,s[i]? = some c:=⟨s[i],QUo hlt⟩;have hb:bt s i lo hi=(decide (lo≤c.toNat)&&decide (c.toNat≤hi)):=by simp only[bt,hc]
  simp only[Ql hlt,Qh,QVN,hc,QOw,Qa,seval];by_cases h1:lo≤c.toNat
  ·have d1:decide (lo≤c.toNat)=true:=by simpa using h1
   simp only[d1,Qh,QVN,hc,hb,QOx,QVZ,Qa,seval]
  ·have d1:decide (lo≤c.toNat)=false:=by simpa using h1
   simp only[d1,hb,QVQ,Qa,seval]
 ·have hb:bt s i lo hi=false:=by simp only[bt,QVK (Nat.le_of_not_lt hlt)]
  simp only[Qx hlt,hb,Qa,seval]

def QGB (s:List UInt8)(i n:Nat)(k:Nat)(st:St):Prop :=
 ∃f j,st=⟨f,[Qc],[]⟩∧k=n-j∧j≤n∧tl s i n=tl s (i+j) (n-j)∧f 0=.str s∧f 1=.int .i64 (i:Nat)∧f 2=.int .i64 (n:Nat)∧f 7=.int .i64 (j:Nat)

theorem JF (a b:Nat)(h:a+b≤maxLen):IntKind.i64.wrap ((a:Int)+(b:Int))=((a+b:Nat):Int):=by
 simp only[maxLen]at h;rw[QF];omega

theorem HJ (s:List UInt8)(i n:Nat)(hi:i+n≤maxLen):Qk Tryz.prog 267 [.str s,.int .i64 (i:Nat),.int .i64 (n:Nat)] (.bool (tl s i n)):=by
 refine QM6.fn (by simp) ?_;simp only[Qa,seval];refine Qd (QGB s i n) _ ⟨_,0,rfl,rfl,QUv _,rfl,rfl,rfl,rfl,rfl⟩ ?_;rintro _ st ⟨f,j,rfl,rfl,hj,ht,h0,h1,h2,h7⟩;simp only[h2,h7,Qa,seval];by_cases hlt:j<n
 ·have e0:=JF i j (by omega);have e1:=Qm j _ hlt (by omega);simp only[Ql hlt,h0,h1,h7,e0,Qa,seval];refine aC (BN s (i+j) 128 191) ?_;have hs:tl s i n=(bt s (i+j) 128 191&&tl s (i+(j+1)) (n-(j+1))):=by
   rw[ht];obtain⟨m,hm⟩:∃m,n-j=m+1:=⟨n-j-1,by omega⟩;rw[hm,show n-(j+1)=m by omega];rfl
  cases hb:bt s (i+j) 128 191
  ·rw[hb]at hs;simp only[hs,QVQ,Qa,seval]
  ·rw[hb,QVZ]at hs;simp only[h7,e1,Qa,seval];exact⟨n-(j+1),by omega,_,j+1,rfl,rfl,by omega,hs,(by exact h0),(by exact h1),(by exact h2),(by rfl)⟩
 ·have hs:tl s i n=true:=by
   rw[ht,show n-j=0 by omega];rfl
  simp only[Qx hlt,hs,Qa,seval]

def BO (s:List UInt8)(i:Nat)(c:UInt8)(D:Nat)(cond:Prop)(g:List Am.Item):Prop :=
 ∀Q:St→Prop,(∀f' B,(B=true↔cond)→f' 0=.str s→f' 1=.int .i64 (i:Nat)→f' 5=.int .u8 (c.toNat:Nat)→f' D=.bool B→Q ⟨f',[Qc],[]⟩)→
  ∀f,f 0=.str s→f 1=.int .i64 (i:Nat)→f 5=.int .u8 (c.toNat:Nat)→QE Tryz.prog g ⟨f,[Qc],[]⟩ Q

section
variable {s:List UInt8}{i:Nat}{c:UInt8}(hi:i<s.length)(hs:s.length+8≤maxLen)
include hi hs

theorem QOy:BO s i c 12 (194≤c.toNat∧c.toNat≤223∧tl s (i+1) 1=true) Bw:=by
 intro Q hQ f h0 h1 h5;have e1:IntKind.i64.wrap ((i:Int)+1)=((i+1:Nat):Int):=JF i 1 (by omega);have e2:IntKind.i64.wrap ((i:Int)+2)=((i+2:Nat):Int):=JF i 2 (by omega);simp only[Bw,h5,Qa,seval]
 repeat' (first|(refine Xr (fun h=>?_) (fun h=>?_)<;>simp only[h,h0,h1,h5,e1,e2,eE,seval])|(refine X3 (fun h=>?_) (fun h=>?_)<;>simp only[h,Qp,h0,h1,h5,e1,Qa,seval])|(refine X4 (fun h=>?_) (fun h=>?_)<;>simp only[h,Qp,h0,h1,h5,e1,e2,eE,seval])|((with_reducible apply Xx (k:=267));(case hy=>rfl);(case h1=>rfl);(case hk=>exact HJ s (i+1) 1 (by omega));(case h2=>rfl);(case h3=>first|exact .inl rfl|exact .inr rfl);simp only[Qa,seval]))
 all_goals(refine hQ _ _ ?_ (by exact h0) (by exact h1) (by exact h5) rfl)
 all_goals simp only[QUs,QWj]at *
 all_goals
  constructor
  ·intro hh
   first
    |cases hh
    |(refine⟨by omega,?_⟩;first|exact hh|(refine⟨by omega,?_⟩;first|exact hh|(refine⟨by omega,?_⟩;exact hh))|exact⟨by assumption,hh⟩)
  ·intro hh
   first
    |exact hh.2.2.2
    |exact hh.2.2
    |(exfalso;omega)
    |(exfalso;simp_all;done)

theorem QOz:BO s i c 25 (c.toNat=224∧bt s (i+1) 160 191=true∧tl s (i+2) 1=true) Bx:=by
 intro Q hQ f h0 h1 h5;have e1:IntKind.i64.wrap ((i:Int)+1)=((i+1:Nat):Int):=JF i 1 (by omega);have e2:IntKind.i64.wrap ((i:Int)+2)=((i+2:Nat):Int):=JF i 2 (by omega);simp only[Bx,h5,Qa,seval]
 repeat' (first|(refine Xr (fun h=>?_) (fun h=>?_)<;>simp only[h,h0,h1,h5,e1,e2,eE,seval])|(refine X3 (fun h=>?_) (fun h=>?_)<;>simp only[h,Qp,h0,h1,e1,e2,Qa,seval])|(refine X4 (fun h=>?_) (fun h=>?_)<;>simp only[h,Qp,h0,h1,h5,e1,e2,eE,seval])|((with_reducible apply Xx (k:=268));(case hy=>rfl);(case h1=>rfl);(case hk=>exact BN s (i+1) 160 191);(case h2=>rfl);(case h3=>first|exact .inl rfl|exact .inr rfl);simp only[Qa,seval])|((with_reducible apply Xx (k:=267));(case hy=>rfl);(case h1=>rfl);(case hk=>exact HJ s (i+2) 1 (by omega));(case h2=>rfl);(case h3=>first|exact .inl rfl|exact .inr rfl);simp only[Qa,seval]))
 all_goals(refine hQ _ _ ?_ (by exact h0) (by exact h1) (by exact h5) rfl)
 all_goals simp only[QUt,QV4,ne_eq]at *
 all_goals
  constructor
  ·intro hh
   first
    |cases hh
    |(refine⟨by omega,?_⟩;first|exact hh|(refine⟨by omega,?_⟩;first|exact hh|(refine⟨by omega,?_⟩;exact hh))|exact⟨by assumption,hh⟩)
  ·intro hh
   first
    |exact hh.2.2.2
    |exact hh.2.2
    |(exfalso;omega)
    |(exfalso;simp_all;done)

theorem QOA:BO s i c 40 (c.toNat=237∧bt s (i+1) 128 159=true∧tl s (i+2) 1=true) Bz:=by
 intro Q hQ f h0 h1 h5;have e1:IntKind.i64.wrap ((i:Int)+1)=((i+1:Nat):Int):=JF i 1 (by omega);have e2:IntKind.i64.wrap ((i:Int)+2)=((i+2:Nat):Int):=JF i 2 (by omega);simp only[Bz,h5,Qa,seval]
 repeat' (first|(refine Xr (fun h=>?_) (fun h=>?_)<;>simp only[h,h0,h1,h5,e1,e2,eE,seval])|(refine X3 (fun h=>?_) (fun h=>?_)<;>simp only[h,Qp,h0,h1,e1,e2,Qa,seval])|(refine X4 (fun h=>?_) (fun h=>?_)<;>simp only[h,Qp,h0,h1,h5,e1,e2,eE,seval])|((with_reducible apply Xx (k:=268));(case hy=>rfl);(case h1=>rfl);(case hk=>exact BN s (i+1) 128 159);(case h2=>rfl);(case h3=>first|exact .inl rfl|exact .inr rfl);simp only[Qa,seval])|((with_reducible apply Xx (k:=267));(case hy=>rfl);(case h1=>rfl);(case hk=>exact HJ s (i+2) 1 (by omega));(case h2=>rfl);(case h3=>first|exact .inl rfl|exact .inr rfl);simp only[Qa,seval]))
 all_goals(refine hQ _ _ ?_ (by exact h0) (by exact h1) (by exact h5) rfl)
 all_goals simp only[QUt,QV4,ne_eq]at *
 all_goals
  constructor
  ·intro hh
   first
    |cases hh
    |(refine⟨by omega,?_⟩;first|exact hh|(refine⟨by omega,?_⟩;first|exact hh|(refine⟨by omega,?_⟩;exact hh))|exact⟨by assumption,hh⟩)
  ·intro hh
   first
    |exact hh.2.2.2
    |exact hh.2.2
    |(exfalso;omega)
    |(exfalso;simp_all;done)

theorem QGC:BO s i c 55 (225≤c.toNat∧c.toNat≤239∧c.toNat≠237∧tl s (i+1) 2=true) DA:=by
 intro Q hQ f h0 h1 h5;have e1:IntKind.i64.wrap ((i:Int)+1)=((i+1:Nat):Int):=JF i 1 (by omega);have e2:IntKind.i64.wrap ((i:Int)+2)=((i+2:Nat):Int):=JF i 2 (by omega);simp only[DA,h5,Qa,seval]
 repeat' (first|(refine Xr (fun h=>?_) (fun h=>?_)<;>simp only[h,h0,h1,h5,e1,e2,eE,seval])|(refine X3 (fun h=>?_) (fun h=>?_)<;>simp only[h,Qp,h0,h1,h5,e1,Qa,seval])|(refine X4 (fun h=>?_) (fun h=>?_)<;>simp only[h,Qp,h0,h1,h5,e1,e2,eE,seval])|((with_reducible apply Xx (k:=267));(case hy=>rfl);(case h1=>rfl);(case hk=>exact HJ s (i+1) 2 (by omega));(case h2=>rfl);(case h3=>first|exact .inl rfl|exact .inr rfl);simp only[Qa,seval]))
 all_goals(refine hQ _ _ ?_ (by exact h0) (by exact h1) (by exact h5) rfl)
 all_goals simp only[QUs,QWj,QUN,bne_eq_false_iff_eq,ne_eq]at *
 all_goals
  constructor
  ·intro hh
   first
    |cases hh
    |(refine⟨by omega,?_⟩;first|exact hh|(refine⟨by omega,?_⟩;first|exact hh|(refine⟨by omega,?_⟩;exact hh))|exact⟨by assumption,hh⟩)
  ·intro hh
   first
    |exact hh.2.2.2
    |exact hh.2.2
    |(exfalso;omega)
    |(exfalso;simp_all;done)

theorem QGD:BO s i c 72 (c.toNat=240∧bt s (i+1) 144 191=true∧tl s (i+2) 2=true) DB:=by
 intro Q hQ f h0 h1 h5;have e1:IntKind.i64.wrap ((i:Int)+1)=((i+1:Nat):Int):=JF i 1 (by omega);have e2:IntKind.i64.wrap ((i:Int)+2)=((i+2:Nat):Int):=JF i 2 (by omega);simp only[DB,h5,Qa,seval]
 repeat' (first|(refine Xr (fun h=>?_) (fun h=>?_)<;>simp only[h,h0,h1,h5,e1,e2,eE,seval])|(refine X3 (fun h=>?_) (fun h=>?_)<;>simp only[h,Qp,h0,h1,e1,e2,Qa,seval])|(refine X4 (fun h=>?_) (fun h=>?_)<;>simp only[h,Qp,h0,h1,h5,e1,e2,eE,seval])|((with_reducible apply Xx (k:=268));(case hy=>rfl);(case h1=>rfl);(case hk=>exact BN s (i+1) 144 191);(case h2=>rfl);(case h3=>first|exact .inl rfl|exact .inr rfl);simp only[Qa,seval])|((with_reducible apply Xx (k:=267));(case hy=>rfl);(case h1=>rfl);(case hk=>exact HJ s (i+2) 2 (by omega));(case h2=>rfl);(case h3=>first|exact .inl rfl|exact .inr rfl);simp only[Qa,seval]))
 all_goals(refine hQ _ _ ?_ (by exact h0) (by exact h1) (by exact h5) rfl)
 all_goals simp only[QUt,QV4,ne_eq]at *
 all_goals
  constructor
  ·intro hh
   first
    |cases hh
    |(refine⟨by omega,?_⟩;first|exact hh|(refine⟨by omega,?_⟩;first|exact hh|(refine⟨by omega,?_⟩;exact hh))|exact⟨by assumption,hh⟩)
  ·intro hh
   first
    |exact hh.2.2.2
    |exact hh.2.2
    |(exfalso;omega)
    |(exfalso;simp_all;done)

theorem QGE:BO s i c 87 (241≤c.toNat∧c.toNat≤243∧tl s (i+1) 3=true) DC:=by
 intro Q hQ f h0 h1 h5;have e1:IntKind.i64.wrap ((i:Int)+1)=((i+1:Nat):Int):=JF i 1 (by omega);have e2:IntKind.i64.wrap ((i:Int)+2)=((i+2:Nat):Int):=JF i 2 (by omega);simp only[DC,h5,Qa,seval]
 repeat' (first|(refine Xr (fun h=>?_) (fun h=>?_)<;>simp only[h,h0,h1,h5,e1,e2,eE,seval])|(refine X3 (fun h=>?_) (fun h=>?_)<;>simp only[h,Qp,h0,h1,h5,e1,Qa,seval])|(refine X4 (fun h=>?_) (fun h=>?_)<;>simp only[h,Qp,h0,h1,h5,e1,e2,eE,seval])|((with_reducible apply Xx (k:=267));(case hy=>rfl);(case h1=>rfl);(case hk=>exact HJ s (i+1) 3 (by omega));(case h2=>rfl);(case h3=>first|exact .inl rfl|exact .inr rfl);simp only[Qa,seval]))
 all_goals(refine hQ _ _ ?_ (by exact h0) (by exact h1) (by exact h5) rfl)
 all_goals simp only[QUs,QWj]at *
 all_goals
  constructor
  ·intro hh
   first
    |cases hh
    |(refine⟨by omega,?_⟩;first|exact hh|(refine⟨by omega,?_⟩;first|exact hh|(refine⟨by omega,?_⟩;exact hh))|exact⟨by assumption,hh⟩)
  ·intro hh
   first
    |exact hh.2.2.2
    |exact hh.2.2
    |(exfalso;omega)
    |(exfalso;simp_all;done)

theorem QGF:BO s i c 100 (c.toNat=244∧bt s (i+1) 128 143=true∧tl s (i+2) 2=true) DD:=by
 intro Q hQ f h0 h1 h5;have e1:IntKind.i64.wrap ((i:Int)+1)=((i+1:Nat):Int):=JF i 1 (by omega);have e2:IntKind.i64.wrap ((i:Int)+2)=((i+2:Nat):Int):=JF i 2 (by omega);simp only[DD,h5,Qa,seval]
 repeat' (first|(refine Xr (fun h=>?_) (fun h=>?_)<;>simp only[h,h0,h1,h5,e1,e2,eE,seval])|(refine X3 (fun h=>?_) (fun h=>?_)<;>simp only[h,Qp,h0,h1,e1,e2,Qa,seval])|(refine X4 (fun h=>?_) (fun h=>?_)<;>simp only[h,Qp,h0,h1,h5,e1,e2,eE,seval])|((with_reducible apply Xx (k:=268));(case hy=>rfl);(case h1=>rfl);(case hk=>exact BN s (i+1) 128 143);(case h2=>rfl);(case h3=>first|exact .inl rfl|exact .inr rfl);simp only[Qa,seval])|((with_reducible apply Xx (k:=267));(case hy=>rfl);(case h1=>rfl);(case hk=>exact HJ s (i+2) 2 (by omega));(case h2=>rfl);(case h3=>first|exact .inl rfl|exact .inr rfl);simp only[Qa,seval]))
 all_goals(refine hQ _ _ ?_ (by exact h0) (by exact h1) (by exact h5) rfl)
 all_goals simp only[QUt,QV4,ne_eq]at *
 all_goals
  constructor
  ·intro hh
   first
    |cases hh
    |(refine⟨by omega,?_⟩;first|exact hh|(refine⟨by omega,?_⟩;first|exact hh|(refine⟨by omega,?_⟩;exact hh))|exact⟨by assumption,hh⟩)
  ·intro hh
   first
    |exact hh.2.2.2
    |exact hh.2.2
    |(exfalso;omega)
    |(exfalso;simp_all;done)

end

theorem QOB (s:List UInt8)(i:Nat)(hi:i<s.length)(hs:s.length+8≤maxLen):Qk Tryz.prog 237 [.str s,.int .i64 (i:Nat)] (.int .i64 (sz s i:Nat)):=by
 refine QMz.fn (by simp) ?_;obtain⟨c,hc⟩:∃c,s[i]? = some c:=⟨s[i],QUo hi⟩;have hz:sz s i=Fh s i c.toNat:=by simp only[sz,hc]
 unfold Fh at hz;simp only[Pl,Pm,Pn,Po,Pp,Pq,Pr,Ve,Vf,Vg,Vh,Vi,Quf,Qug,Qh,QVN,hc,Qa,seval];refine Xr (fun h=>?_) (fun h=>?_)
 ·have h:c.toNat<128:=by simp at h;omega
  rw[hz,QUQ h];simp only[Qa,seval]
  try rfl
 have h:¬c.toNat<128:=by simp at h;omega
 rw[hz,QUB h];simp only[Qa,seval];refine QOy hi hs _ (fun f B hB h0 h1 h5 hd=>?_) _ (by rfl) (by rfl) (by rfl);by_cases hB1:B=true
 ·rw[QUQ (hB.1 hB1)];subst hB1;simp only[hd,Qa,seval]
  try rfl
 rw[QUB (fun hh=>hB1 (hB.2 hh))];have hB2:B=false:=by simpa using hB1
 subst hB2;simp only[hd,Qa,seval];refine QOz hi hs _ (fun f B hB h0 h1 h5 hd=>?_) _ (by exact h0) (by exact h1) (by exact h5);by_cases hB1:B=true
 ·rw[QUQ (hB.1 hB1)];subst hB1;simp only[hd,Qa,seval]
  try rfl
 rw[QUB (fun hh=>hB1 (hB.2 hh))];have hB2:B=false:=by simpa using hB1
 subst hB2;simp only[hd,Qa,seval];refine QOA hi hs _ (fun f B hB h0 h1 h5 hd=>?_) _ (by exact h0) (by exact h1) (by exact h5);by_cases hB1:B=true
 ·rw[QUQ (hB.1 hB1)];subst hB1;simp only[hd,Qa,seval]
  try rfl
 rw[QUB (fun hh=>hB1 (hB.2 hh))];have hB2:B=false:=by simpa using hB1
 subst hB2;simp only[hd,Qa,seval];refine QGC hi hs _ (fun f B hB h0 h1 h5 hd=>?_) _ (by exact h0) (by exact h1) (by exact h5);by_cases hB1:B=true
 ·rw[QUQ (hB.1 hB1)];subst hB1;simp only[hd,Qa,seval]
  try rfl
 rw[QUB (fun hh=>hB1 (hB.2 hh))];have hB2:B=false:=by simpa using hB1
 subst hB2;simp only[hd,Qa,seval];refine QGD hi hs _ (fun f B hB h0 h1 h5 hd=>?_) _ (by exact h0) (by exact h1) (by exact h5);by_cases hB1:B=true
 ·rw[QUQ (hB.1 hB1)];subst hB1;simp only[hd,Qa,seval]
  try rfl
 rw[QUB (fun hh=>hB1 (hB.2 hh))];have hB2:B=false:=by simpa using hB1
 subst hB2;simp only[hd,Qa,seval];refine QGE hi hs _ (fun f B hB h0 h1 h5 hd=>?_) _ (by exact h0) (by exact h1) (by exact h5);by_cases hB1:B=true
 ·rw[QUQ (hB.1 hB1)];subst hB1;simp only[hd,Qa,seval]
  try rfl
 rw[QUB (fun hh=>hB1 (hB.2 hh))];have hB2:B=false:=by simpa using hB1
 subst hB2;simp only[hd,Qa,seval];refine QGF hi hs _ (fun f B hB h0 h1 h5 hd=>?_) _ (by exact h0) (by exact h1) (by exact h5);by_cases hB1:B=true
 ·rw[QUQ (hB.1 hB1)];subst hB1;simp only[hd,Qa,seval]
  try rfl
 rw[QUB (fun hh=>hB1 (hB.2 hh))];have hB2:B=false:=by simpa using hB1
 subst hB2;simp only[hd,Qa,seval]
 try rfl

theorem TU (s:List UInt8)(i:Nat)(hi:i<s.length)(_h:sz s i≠0):i+sz s i≤s.length:=by
 have tl1:∀n j,tl s j n=true→n≠0→j+n≤s.length:=by
  intro n
  induction n with
  |zero=>intro j _ h;exact absurd rfl h
  |succ n ih=>
   intro j hj _;simp only[tl,QUL]at hj;have hb:j<s.length:=by
    have h1:=hj.1;unfold bt at h1;split at h1
    ·rename_i b hb;exact(QUn.1 hb).1
    ·cases h1
   by_cases h0:n=0
   ·subst h0;omega
   ·have:=ih (j+1) hj.2 h0;omega
 obtain⟨c,hc⟩:∃c,s[i]? = some c:=⟨s[i],QUo hi⟩;simp only[sz,hc]at _h ⊢;unfold Fh at _h ⊢
 (repeat' split)<;>first
  |omega
  |(rename_i hh;have:=tl1 _ _ hh.2.2 (by decide);omega)
  |(rename_i hh;have:=tl1 _ _ hh.2.2.2 (by decide);omega)
  |simp_all

def QOC (s:List UInt8)(k:Nat)(st:St):Prop :=
 ∃f i,st=⟨f,[Qc],[]⟩∧i≤s.length∧s.length-i≤k∧W6 s s.length 0=W6 s k i∧f 0=.str s∧f 3=.int .i64 (i:Nat)

theorem QOD (s:List UInt8)(hs:s.length+8≤maxLen):Qk Tryz.prog 203 [.str s] (.int .i64 (W6 s s.length 0)):=by
 refine QLY.fn (by simp) ?_;simp only[Qa,seval];refine Qd (QOC s) s.length ⟨_,0,rfl,QUv _,QUm _,rfl,rfl,rfl⟩ ?_;rintro k st ⟨f,i,rfl,hi,hk,hb,h0,h3⟩;simp only[h0,h3,Qa,seval];by_cases hlt:i<s.length
 ·simp only[Ql hlt,h0,h3,Qa,seval];refine aC (QOB s i hlt hs) ?_;obtain⟨k,rfl⟩:∃n,k=n+1:=⟨k-1,by omega⟩;have hbk:W6 s (k+1) i=if sz s i=0 then(i:Int)else W6 s k (i+sz s i):=by
   show(if i<s.length then _ else _)=_;rw[QUQ hlt]
  by_cases hz:sz s i=0
  ·have b0:((sz s i:Int)==0)=true:=by simp[hz]
   simp only[b0,h3,hb,hbk,QUQ hz,Qa,seval]
  ·have b0:((sz s i:Int)==0)=false:=by simp;omega
   have hle:=TU s i hlt hz;have e0:=JF i (sz s i) (by omega);simp only[b0,h3,e0,Qa,seval];exact⟨k,by omega,_,i+sz s i,rfl,hle,by omega,by rw[hb,hbk,QUB hz],(by exact h0),(by rfl)⟩
 ·have hbk:W6 s k i = -1:=by
   cases k with
   |zero=>rfl
   |succ k=>
    show(if i<s.length then _ else _)=_;rw[QUB hlt]
  simp only[Qx hlt,hb,hbk,Qa,seval]

theorem Cz (s:List UInt8)(hs:s.length+8≤maxLen):Qk Tryz.prog 127 [.str s] (.bool (UG s)):=by
 refine QKG.fn (by simp) ?_;simp only[Qa,seval];refine aC (QOD s hs) ?_;simp only[Qa,seval]
 try rfl

def K2 (s:List UInt8)(i:Nat):Bool:=(s.drop i).take 3==[239,191,189]

theorem QOE (s t:List UInt8):Qk Tryz.prog 288 [.str s,.str t] (.bool (s.take t.length==t)):=by
 refine QNu.fn (by simp) ?_;by_cases h:t.length≤s.length
 ·have d0:decide ((s.length:Int)≥(t.length:Int))=true:=by simp;omega
  have s1:(0≤t.length∧t.length≤s.length)=True:=by simp;omega
  simp only[d0,Qh,s1,QVN,QH,QVF,QU4,Qa,seval]
 ·have d0:decide ((s.length:Int)≥(t.length:Int))=false:=by simp;omega
  have e0:(s.take t.length==t)=false:=by
   rw[QV4];intro hh;have:=congrArg List.length hh;simp at this;omega
  simp only[d0,e0,Qa,seval]

theorem QOF (s t:List UInt8):Qk Tryz.prog 273 [.str s,.str t] (.bool (s.take t.length==t)):=by
 refine QNf.fn (by simp) ?_;simp only[Qa,seval];refine aC (QOE s t) ?_;simp only[Qa,seval]

theorem QOG (s:List UInt8)(i:Nat)(hi:i≤s.length)(c:Nat):Qk Tryz.prog 246 [.str s,.int .i64 (i:Nat),.int .i32 (c:Nat)] (.bool (decide (c=65533) && !K2 s i)):=by
 refine QMN.fn (by simp) ?_;by_cases hc:c=65533
 ·have b0:((c:Int)==65533)=true:=by simp[hc]
  have s1:(i≤s.length∧s.length≤s.length)=True:=by simp;omega
  simp only[b0,Qh,s1,QVN,Qa,seval];refine aC (QOF (List.take (s.length-i) (List.drop i s)) [239,191,189]) ?_;have ht:List.take (s.length-i) (List.drop i s)=List.drop i s:=QUV (by simp);simp only[ht,K2,hc,Qa,seval]
 ·have b0:((c:Int)==65533)=false:=by simp;omega
  simp only[b0,hc,Qa,seval];simp

end Go.Proofs.YtdhlbgejhcejcaaGreatDoor.Va

namespace Go.Proofs.YtdhlbgejhcejcaaGreatDoor.Vp

def JS:Nat→Nat→List UInt8
 |0,u=>[UInt8.ofNat u]
 |k+1,u=>if u<128 then [UInt8.ofNat u]else UInt8.ofNat (u % 128+128) :: JS k (u / 128)

def put (u:Nat):List UInt8:=JS 9 u

def Vm:Nat→Nat→List UInt8→Nat×Nat×Nat
 |_,_,[]=>(0,0,4)
 |i,acc,c :: t=>
  if i=9∧1<c.toNat then(0,0,6)
  else if c.toNat<128 then(acc+c.toNat*128 ^ i,i+1,0)
  else Vm (i+1) (acc+(c.toNat-128)*128 ^ i) t

def take (s:List UInt8):Nat×Nat×Nat:=Vm 0 0 s

theorem toNat_ofNat (n:Nat)(h:n<256):(UInt8.ofNat n).toNat=n:=by
 simp[UInt8.toNat_ofNat'];omega

theorem R7 (k u:Nat):1≤(JS k u).length∧(JS k u).length≤k+1:=by
 induction k generalizing u with
 |zero=>simp[JS]
 |succ k ih=>
  unfold JS;split
  ·simp
  ·have:=ih (u / 128);simp;omega

theorem put_len (u:Nat):1≤(put u).length∧(put u).length≤10:=R7 9 u

theorem GR (k u:Nat)(h:u<128):JS k u=[UInt8.ofNat u]:=by
 cases k<;>simp[JS,h]

theorem BP (k u:Nat)(h:¬u<128):JS (k+1) u=UInt8.ofNat (u % 128+128) :: JS k (u / 128):=by
 simp[JS,h]

def UH (i:Nat):Nat:=2 ^ (64-7*i)

theorem Fj (i u:Nat)(hi:i<9)(h:u<UH i):u / 128<UH (i+1):=by
 unfold UH at *;have e:64-7*i=(64-7*(i+1))+7:=by omega
 rw[e,Nat.pow_add]at h;omega

theorem Qap (k i acc u:Nat)(t:List UInt8)(hk:k+i=9)(hu:u<UH i) :
  Vm i acc (JS k u++t)=(acc+u*128 ^ i,i+(JS k u).length,0):=by
 induction k generalizing i acc u with
 |zero=>
  obtain rfl:i=9:=by omega
  have hu2:u<2:=by simpa [UH]using hu
  have hc:=toNat_ofNat u (by omega);simp only[JS,QUJ,QUK,Vm,hc];rw[QUB (by omega),QUQ (by omega)];rfl
 |succ k ih=>
  by_cases h:u<128
  ·have hc:=toNat_ofNat u (by omega);rw[GR _ _ h];simp only[QUJ,QUK,Vm,hc];rw[QUB (by omega),QUQ h];rfl
  ·have hc:=toNat_ofNat (u % 128+128) (by omega);rw[BP _ _ h];simp only[QUJ,Vm,hc];rw[QUB (by omega),QUB (by omega),ih (i+1) _ (u / 128) (by omega) (Fj i u (by omega) hu)];have e:acc+(u % 128+128-128)*128 ^ i+u / 128*128 ^ (i+1)=acc+u*128 ^ i:=by
    rw[Nat.pow_succ,Nat.add_sub_cancel,QUk,Nat.mul_comm (128 ^ i) 128,←Nat.mul_assoc,←QUW];congr 2;omega
   rw[e];simp only[QUC,Prod.mk.injEq,true_and,and_true];omega

theorem BQ (u:Nat)(t:List UInt8)(h:u<2 ^ 64):take (put u++t)=(u,(put u).length,0):=by
 have:=Qap 9 0 0 u t rfl (by simpa [UH]using h)
 simpa [take,put]using this

end Go.Proofs.YtdhlbgejhcejcaaGreatDoor.Vp

namespace Go.Proofs.YtdhlbgejhcejcaaGreatDoor.Va
open Go Am Rc Bt Vp

theorem JJ (s:List UInt8)(j:Nat)(c:UInt8)(h:s[j]? = some c):(⟨⟨s⟩⟩:ByteArray).get! j=c:=by
 show(⟨s⟩:Array UInt8)[j]! = c;simp[h]

theorem DH (a:UInt8)(n:Nat)(hn:n<256):(a==UInt8.ofNat n)=decide (a.toNat=n):=by
 rw[QVg,QUt,QUs]
 constructor
 ·rintro rfl;rw[toNat_ofNat _ hn]
 ·intro h;rw[←UInt8.toNat_inj,toNat_ofNat _ hn,h]

set_option maxHeartbeats 4000000 in
theorem QOH (s:List UInt8)(i:Nat)(a b c d:UInt8)(t:List UInt8)(hr:s.drop i=a :: b :: c :: d :: t):(decide ((Xp s i).1=65533) && !K2 s i)=decide (sz s i=0)∧(sz s i≠0→(Xp s i).2=sz s i):=by
 have hsz:∀j,(s[i+j]? = (a :: b :: c :: d :: t)[j]?):=fun j=>by rw[←hr,QU1]
 have hn:ByteArray.size ⟨⟨s⟩⟩=s.length:=rfl;have hl:s.length=i+(a :: b :: c :: d :: t).length:=by
  have h:=congrArg List.length hr;simp at h ⊢;omega
 have h0:=hsz 0;have h1:=hsz 1;have h2:=hsz 2;have h3:=hsz 3;simp only[QUS]at h0;have g0:=JJ s i a h0;have g1:=JJ s (i+1) b h1;have g2:=JJ s (i+2) c h2;have g3:=JJ s (i+3) d h3;have l1:(i+1<s.length)=True:=by simp at hl ⊢;omega
 have l2:(i+2<s.length)=True:=by simp at hl ⊢;omega
 have l3:(i+3<s.length)=True:=by simp at hl ⊢;omega
 have wa:=a.toNat_lt;have wb:=b.toNat_lt;have wc:=c.toNat_lt;have wd:=d.toNat_lt;have hrep:K2 s i=(decide (a.toNat=239)&&(decide (b.toNat=191)&&decide (c.toNat=189))):=by
  rw[←DH a 239 (by decide),←DH b 191 (by decide),←DH c 189 (by decide)];simp[K2,hr]
 simp only[QVs,QVo]at h0 h1 h2 h3;generalize hD:Xp s i=D;generalize hS:sz s i=S;rw[hrep];simp only[Xp,Utf8.decode,Utf8.valid,Utf8.runeError,hn,l1,l2,l3,QUS,g0,g1,g2,g3,sz,h0,Fh,tl,bt,QUk,seval,h1,h2,h3,decide_true,QVZ,QVz,QUL,QUr,QUs,QUt,ge_iff_le]at hD hS;clear hsz hr hl h0 h1 h2 h3 g0 g1 g2 g3 l1 l2 l3 hrep hn;generalize a.toNat=x at *;generalize b.toNat=y at *;generalize c.toNat=z at *;generalize d.toNat=u at *
 (repeat' split at hD)<;>subst hD<;>(repeat' split at hS)<;>subst hS<;>refine⟨?_,?_⟩<;>(try rw[QVg])<;>(try simp only[QUL,QUs,QVk,QWn,QWj])<;>first|omega|(intro _;rfl)|(simp;done)|(simp;omega)

theorem R8 (s:List UInt8)(i:Nat)(hi:i<s.length):(decide ((Xp s i).1=65533) && !K2 s i)=decide (sz s i=0)∧(sz s i≠0→(Xp s i).2=sz s i):=by
 have hsz:∀j,(s[i+j]? = (s.drop i)[j]?):=fun j=>by rw[QU1]
 have hn:ByteArray.size ⟨⟨s⟩⟩=s.length:=rfl;have hl:s.length=i+(s.drop i).length:=by simp;omega
 generalize hr:s.drop i=r at hsz hl;have h0:=hsz 0;have h1:=hsz 1;have h2:=hsz 2;have h3:=hsz 3;simp only[QUS]at h0
 match r,hl with
 | [],hl=>simp at hl;omega
 | [a],hl=>
  have g0:=JJ s i a h0;have l1:(i+1<s.length)=False:=by simp at hl ⊢;omega
  have l2:(i+2<s.length)=False:=by simp at hl ⊢;omega
  have l3:(i+3<s.length)=False:=by simp at hl ⊢;omega
  have wa:=a.toNat_lt;have hrep:K2 s i=false:=by simp[K2,hr]
  simp only[QVs,List.getElem?_nil,QVo]at h0 h1 h2 h3;simp only[Xp,Utf8.decode,Utf8.runeError,hn,l1,l2,l3,QUS,g0,sz,h0,Fh,tl,bt,QUk,seval,h1,h2,h3,hrep,decide_false,QVQ,QWk,QVz,QUG,and_false]
  (repeat' split)<;>refine⟨?_,?_⟩<;>(try rw[QVg])<;>(try simp only[QUs,QVt,QVz])<;>first|omega|(intro _;rfl)|(intro _;omega)|(simp;done)|(simp;omega)
 | [a,b],hl=>
  have g0:=JJ s i a h0;have g1:=JJ s (i+1) b h1;have l1:(i+1<s.length)=True:=by simp at hl ⊢;omega
  have l2:(i+2<s.length)=False:=by simp at hl ⊢;omega
  have l3:(i+3<s.length)=False:=by simp at hl ⊢;omega
  have wa:=a.toNat_lt;have wb:=b.toNat_lt;have hrep:K2 s i=false:=by simp[K2,hr]
  simp only[QVs,List.getElem?_nil,QVo]at h0 h1 h2 h3;simp only[Xp,Utf8.decode,Utf8.runeError,hn,l1,l2,l3,QUS,g0,g1,sz,h0,Fh,tl,bt,QUk,seval,h1,h2,h3,hrep,decide_false,decide_true,QVQ,QWk,QVZ,QVz,QUG,and_false,QUL,QUs,QUt,ge_iff_le]
  (repeat' split)<;>refine⟨?_,?_⟩<;>(try rw[QVg])<;>(try simp only[QUs,QVt,QVz])<;>first|omega|(intro _;rfl)|(intro _;omega)|(simp;done)|(simp;omega)
 | [a,b,c],hl=>
  have g0:=JJ s i a h0;have g1:=JJ s (i+1) b h1;have g2:=JJ s (i+2) c h2;have l1:(i+1<s.length)=True:=by simp at hl ⊢;omega
  have l2:(i+2<s.length)=True:=by simp at hl ⊢;omega
  have l3:(i+3<s.length)=False:=by simp at hl ⊢;omega
  have wa:=a.toNat_lt;have wb:=b.toNat_lt;have wc:=c.toNat_lt;have hrep:K2 s i=(decide (a.toNat=239)&&(decide (b.toNat=191)&&decide (c.toNat=189))):=by
   rw[←DH a 239 (by decide),←DH b 191 (by decide),←DH c 189 (by decide)];simp[K2,hr]
  simp only[QVs,List.getElem?_nil,QVo]at h0 h1 h2 h3;simp only[Xp,Utf8.decode,Utf8.valid,Utf8.runeError,hn,l1,l2,l3,QUS,g0,g1,g2,sz,h0,Fh,tl,bt,QUk,seval,h1,h2,h3,hrep,decide_false,decide_true,QVQ,QWk,QVZ,QVz,QUG,and_false,QUL,QUr,QUs,QUt,ge_iff_le]
  (repeat' split)<;>refine⟨?_,?_⟩<;>(try rw[QVg])<;>(try simp only[QUL,QUs,QVk,QWj,QWn])<;>first|omega|(intro _;rfl)|(intro _;omega)|(simp;done)|(simp;omega)
 |a :: b :: c :: d :: t,hl=>exact QOH s i a b c d t hr

def QOI (s:List UInt8)(k:Nat)(st:St):Prop :=
 ∃f fr i,st=⟨f,[fr],[]⟩∧i≤s.length∧s.length-i≤k∧W6 s s.length 0=W6 s k i∧f 0=.str s∧f 6=.ptr 0 6 0∧fr 6=.iter (.str s) i

theorem QOJ (s:List UInt8):Qk Tryz.prog 220 [.str s] (.int .i64 (W6 s s.length 0)):=by
 refine QjL.fn (by simp) ?_;simp only[Qa,seval];refine D1 rfl rfl ?_;simp only[Qa,seval];refine Qd (QOI s) s.length ⟨_,_,0,rfl,QUv _,QUm _,rfl,(by rfl),(by rfl),(by rfl)⟩ ?_;rintro k st ⟨f,fr,i,rfl,hi,hk,hb,h0,h6,m6⟩;simp only[Qa,seval];refine D2 (by exact h6) m6 (fun hlt=>?_) (fun hge=>?_)
 ·obtain⟨hd,hw⟩:=R8 s i hlt;obtain⟨k,rfl⟩:∃n,k=n+1:=⟨k-1,by omega⟩;have hbk:W6 s (k+1) i=if sz s i=0 then(i:Int)else W6 s k (i+sz s i):=by
   show(if i<s.length then _ else _)=_;rw[QUQ hlt]
  have hwr:=QOG s i hi (Xp s i).1;rw[hd]at hwr;generalize Xp s i=cw at hw hwr;obtain⟨c,w⟩:=cw;simp only[h0,Qa,seval];refine aC hwr ?_;by_cases hz:sz s i=0
  ·simp only[hz,decide_true,hb,hbk,Qa,seval]
  ·have hw:=hw hz;simp only at hw;have hle:=TU s i hlt hz;simp only[hz,decide_false,Qa,seval];exact⟨k,by omega,_,_,i+sz s i,rfl,hle,by omega,by rw[hb,hbk,QUB hz],(by exact h0),(by exact h6),by rw[←hw]<;>first|rfl|simp only[eE,seval]⟩
 ·have hbk:W6 s k i = -1:=by
   cases k with
   |zero=>rfl
   |succ k=>
    show(if i<s.length then _ else _)=_;rw[QUB (by omega)]
  simp only[hb,hbk,Qa,seval]

theorem R9 (s:List UInt8):Qk Tryz.prog 172 [.str s] (.bool (UG s)):=by
 refine Qgh.fn (by simp) ?_;simp only[Qa,seval];refine aC (QOJ s) ?_;simp only[Qa,seval]
 try rfl

end Go.Proofs.YtdhlbgejhcejcaaGreatDoor.Va

namespace Go.Proofs.YtdhlbgejhcejcaaGreatDoor.Va
open Go Am Rc Bt

def YT (k:Int)(b:Nat):Bool :=
 if k=1 then decide ((b:Int)≤1)else if k=2 then decide (IntKind.i64.wrap (b:Int)≥-2147483648)&&decide (IntKind.i64.wrap (b:Int)≤2147483647)
 else if k=4 then decide ((b:Int)<4294967296)else if k=9 then decide ((b:Int)<2147483648)else true

theorem QOK (k:Int)(b:Nat):Qk Tryz.prog 289 [.int .i64 k,.int .u64 (b:Nat)] (.bool (YT k b)):=by
 have e1:decide ((b:Int)≤4294967295)=decide ((b:Int)<4294967296):=by rw[decide_eq_decide];omega
 have e2:decide ((b:Int)≤2147483647)=decide ((b:Int)<2147483648):=by rw[decide_eq_decide];omega
 refine QmF.fn (by simp) ?_;simp only[Qa,seval];unfold YT;by_cases h1:k=1
 ·subst h1;have b1:((1:Int)==1)=true:=rfl;simp only[b1,Qa,seval]
 ·have b1:(k==1)=false:=by simp[h1]
  by_cases h2:k=2
  ·subst h2;have b2:((2:Int)==2)=true:=rfl;simp only[b1,b2,h1,Qa,seval];cases hd:decide (IntKind.i64.wrap (b:Int)≥-2147483648)<;>simp only[QVZ,QVQ,Qa,seval]
  ·have b2:(k==2)=false:=by simp[h2]
   by_cases h9:k=9
   ·subst h9;have b9:((9:Int)==9)=true:=rfl;simp only[b1,b2,b9,h1,h2,e2,Qa,seval]
   ·have b9:(k==9)=false:=by simp[h9]
    by_cases h4:k=4
    ·subst h4;have b4:((4:Int)==4)=true:=rfl;simp only[b1,b2,b9,b4,h1,h2,e1,Qa,seval]
    ·have b4:(k==4)=false:=by simp[h4]
     simp only[b1,b2,b9,b4,h1,h2,h4,h9,Qa,seval]

end Go.Proofs.YtdhlbgejhcejcaaGreatDoor.Va

namespace Go.Proofs.YtdhlbgejhcejcaaGreatDoor.Ev
open Go Am Rc

def tab:Be:=fun k=>match k with
 |8=>some (r8,o8,100)
 |23=>some (r23,o23,34)
 |10=>some (Fe,o10,40)
 |22=>some (r22,o22,8)
 |16=>some (r16,o16,16)
 |11=>some (JX,o11,16)
 |24=>some (r24,o24,20)
 |49=>some (r49,o49,10)
 |50=>some (r50,o50,14)
 |28=>some (r28,o28,15)
 |29=>some (r29,o29,19)
 |30=>some (r30,o30,32)
 |31=>some (r31,o31,57)
 |35=>some (r35,o35,30)
 |55=>some (r55,o55,19)
 |56=>some (r56,o56,8)
 |57=>some (r57,o57,24)
 |58=>some (r58,o58,77)
 |59=>some (r59,o59,23)
 |60=>some (r60,o60,86)
 |61=>some (r61,o61,54)
 |66=>some (r66,o66,12)
 |67=>some (r67,o67,14)
 |82=>some (r82,o82,21)
 |83=>some (r83,o83,11)
 |84=>some (r84,o84,23)
 |85=>some (r85,o85,12)
 |86=>some (r86,o86,11)
 |87=>some (r87,o87,12)
 |88=>some (r88,o88,41)
 |89=>some (r89,o89,74)
 |90=>some (r90,o90,69)
 |91=>some (r91,o91,9)
 |94=>some (r94,o94,40)
 |95=>some (SX,Vd,8)
 |96=>some (r96,o96,40)
 |97=>some (r97,o97,67)
 |98=>some (r98,o98,27)
 |99=>some (r99,o99,9)
 |101=>some (QcC,QcD,20)
 |102=>some (QcM,QcN,24)
 |103=>some (QcT,QcU,26)
 |104=>some (Qc0,Qc1,19)
 |106=>some (Qc5,Qc6,13)
 |107=>some (Qdf,Qdg,20)
 |108=>some (Qdk,Qdl,14)
 |113=>some (Qdp,Qdq,8)
 |114=>some (Qdx,Qdy,20)
 |116=>some (QdC,QdD,21)
 |117=>some (QdQ,QdR,47)
 |119=>some (QdV,QdW,15)
 |137=>some (Qd0,Qd1,8)
 |138=>some (Qd5,Qd6,7)
 |139=>some (Qea,Qeb,8)
 |141=>some (Qef,Qeg,12)
 |142=>some (Qek,Qel,11)
 |143=>some (Qep,Qeq,8)
 |144=>some (Qeu,Qev,7)
 |145=>some (Qez,QeA,10)
 |149=>some (QeK,QeL,24)
 |151=>some (QeV,QeW,24)
 |153=>some (Qe0,Qe1,7)
 |154=>some (Qfb,Qfc,24)
 |155=>some (Qfg,Qfh,10)
 |159=>some (Qfl,Qfm,13)
 |161=>some (Qfx,Qfy,20)
 |162=>some (QfC,QfD,5)
 |166=>some (QfH,QfI,6)
 |167=>some (QfM,QfN,11)
 |169=>some (QfR,QfS,13)
 |170=>some (Qf5,Qf6,47)
 |171=>some (Qga,Qgb,35)
 |172=>some (Qgf,Qgg,6)
 |173=>some (Qgm,Qgn,22)
 |174=>some (Qgw,Qgx,46)
 |178=>some (QgB,QgC,20)
 |179=>some (QgG,QgH,9)
 |180=>some (QgL,QgM,9)
 |181=>some (QgZ,Qg0,59)
 |182=>some (Qhb,Qhc,19)
 |184=>some (Co,Dy,8)
 |185=>some (Cq,Dz,8)
 |186=>some (Qhf,Qhg,9)
 |187=>some (Qhj,Qhk,10)
 |188=>some (Qhq,Qhr,17)
 |190=>some (Qhu,Qhv,20)
 |191=>some (QhK,QhL,63)
 |192=>some (QhO,QhP,6)
 |193=>some (QhU,QhV,20)
 |196=>some (Qh6,Qh7,19)
 |197=>some (Qib,Qic,8)
 |198=>some (Qii,Qij,18)
 |199=>some (Qiu,Qiv,27)
 |207=>some (Qiz,QiA,9)
 |208=>some (QiE,QiF,9)
 |209=>some (QiQ,QiR,19)
 |210=>some (QiV,QiW,9)
 |211=>some (Qi0,Qi1,8)
 |212=>some (Qjd,Qje,27)
 |213=>some (Qjh,Qji,9)
 |214=>some (Qjt,Qju,36)
 |216=>some (Qjy,Qjz,12)
 |220=>some (QjJ,QjK,16)
 |221=>some (QjO,QjP,9)
 |223=>some (Qj0,Qj1,19)
 |224=>some (Qj7,Qj8,31)
 |227=>some (Qkn,Qko,63)
 |233=>some (Qkv,Qkw,28)
 |234=>some (QkH,QkI,53)
 |239=>some (QkS,QkT,19)
 |240=>some (Qk4,Qk5,19)
 |241=>some (Qli,Qlj,66)
 |242=>some (Qlv,Qlw,27)
 |249=>some (QlI,QlJ,49)
 |252=>some (QlU,QlV,53)
 |265=>some (QlY,QlZ,9)
 |270=>some (Qmc,Qmd,34)
 |271=>some (Qmh,Qmi,8)
 |275=>some (Qmo,Qmp,39)
 |287=>some (Cr,RP,143)
 |289=>some (QmD,QmE,28)
 |295=>some (QmI,QmJ,8)
 |_=>none

theorem Qwe:Gz Tryz.prog tab:=by
 intro k c rs N h;unfold tab at h;split at h
 ·cases h;exact k8
 ·cases h;exact k23
 ·cases h;exact k10
 ·cases h;exact k22
 ·cases h;exact k16
 ·cases h;exact k11
 ·cases h;exact k24
 ·cases h;exact k49
 ·cases h;exact k50
 ·cases h;exact k28
 ·cases h;exact k29
 ·cases h;exact k30
 ·cases h;exact k31
 ·cases h;exact k35
 ·cases h;exact k55
 ·cases h;exact k56
 ·cases h;exact k57
 ·cases h;exact k58
 ·cases h;exact k59
 ·cases h;exact k60
 ·cases h;exact k61
 ·cases h;exact k66
 ·cases h;exact k67
 ·cases h;exact k82
 ·cases h;exact k83
 ·cases h;exact k84
 ·cases h;exact k85
 ·cases h;exact k86
 ·cases h;exact k87
 ·cases h;exact k88
 ·cases h;exact k89
 ·cases h;exact k90
 ·cases h;exact k91
 ·cases h;exact k94
 ·cases h;exact k95
 ·cases h;exact k96
 ·cases h;exact SY
 ·cases h;exact k98
 ·cases h;exact k99
 ·cases h;exact QcE
 ·cases h;exact QcO
 ·cases h;exact QcV
 ·cases h;exact Qc2
 ·cases h;exact Qc7
 ·cases h;exact Qdh
 ·cases h;exact Qdm
 ·cases h;exact Qdr
 ·cases h;exact Qdz
 ·cases h;exact QdE
 ·cases h;exact QdS
 ·cases h;exact QdX
 ·cases h;exact Qd2
 ·cases h;exact Qd7
 ·cases h;exact Qec
 ·cases h;exact Qeh
 ·cases h;exact Qem
 ·cases h;exact Qer
 ·cases h;exact Qew
 ·cases h;exact QeB
 ·cases h;exact QeM
 ·cases h;exact QeX
 ·cases h;exact Qe2
 ·cases h;exact Qfd
 ·cases h;exact Qfi
 ·cases h;exact Qfn
 ·cases h;exact Qfz
 ·cases h;exact QfE
 ·cases h;exact QfJ
 ·cases h;exact QfO
 ·cases h;exact QfT
 ·cases h;exact Qf7
 ·cases h;exact Qgc
 ·cases h;exact Qgh
 ·cases h;exact Qgo
 ·cases h;exact Qgy
 ·cases h;exact QgD
 ·cases h;exact QgI
 ·cases h;exact QgN
 ·cases h;exact Qg1
 ·cases h;exact Qhd
 ·cases h;exact RH
 ·cases h;exact RI
 ·cases h;exact QJR
 ·cases h;exact Qhl
 ·cases h;exact RJ
 ·cases h;exact Qhw
 ·cases h;exact QJS
 ·cases h;exact QhQ
 ·cases h;exact QhW
 ·cases h;exact RK
 ·cases h;exact Qid
 ·cases h;exact RL
 ·cases h;exact Qiw
 ·cases h;exact QiB
 ·cases h;exact QiG
 ·cases h;exact QiS
 ·cases h;exact QiX
 ·cases h;exact Qi2
 ·cases h;exact RM
 ·cases h;exact Qjj
 ·cases h;exact Qjv
 ·cases h;exact QjA
 ·cases h;exact QjL
 ·cases h;exact QjQ
 ·cases h;exact Qj2
 ·cases h;exact Qj9
 ·cases h;exact QJT
 ·cases h;exact Qkx
 ·cases h;exact QJU
 ·cases h;exact QkU
 ·cases h;exact Qk6
 ·cases h;exact Qlk
 ·cases h;exact Qlx
 ·cases h;exact QlK
 ·cases h;exact QJV
 ·cases h;exact Ql0
 ·cases h;exact Qme
 ·cases h;exact Qmj
 ·cases h;exact Qmq
 ·cases h;exact Qms
 ·cases h;exact QmF
 ·cases h;exact QmK
 ·cases h

def nat:K3:=fun _ _ _=>none

theorem nat_ok:Wc Tryz.prog nat:=by
 intro k args m v m' h;cases h

end Go.Proofs.YtdhlbgejhcejcaaGreatDoor.Ev

namespace Go.Proofs.YtdhlbgejhcejcaaGreatDoor.Va
open Go Am Rc Bt

def vo (k:Int)(b:Nat)(t:List UInt8)(l p s r:List AV):AV:=.agg [.int .i64 k,.int .u64 (b:Nat),.str t,.list l,.list p,.list s,.list r]

section
variable (k:Int)(b:Nat)(t:List UInt8)(l p s r:List AV)

def W7:Bool:=(l.length:Int)==0&&(p.length:Int)==0&&(s.length:Int)==0&&(r.length:Int)==0
def BR:Bool:=isk k&&W7 l p s r&&(b:Int)==0&&t==[]
def emp:Bool:=(k==11&&(l.length:Int)==0)||(k==12&&(p.length:Int)==0)||BR k b t l p s r

theorem y81:Qk Tryz.prog 81 [vo k b t l p s r] (.bool (W7 l p s r)):=by
 refine k81.fn (by simp) ?_;simp only[vo,W7,eE,seval];cases h0:((l.length:Int)==0)<;>cases h1:((p.length:Int)==0)<;>cases h2:((s.length:Int)==0)<;>simp only[h1,h2,QVZ,QVQ,eE,seval]

theorem Qwg (hl:l.length≤140737488351232)(hp:p.length≤140737488351232)(hs:s.length≤140737488351232)(hr:r.length≤140737488351232) :
  Qk Tryz.prog 233 [vo k b t l p s r] (.bool (W7 l p s r&&(if Zb k=true then(b:Int)==0 else t==[]))):=by
 refine Qkx.fn (by simp) ?_;have w:IntKind.i64.wrap (IntKind.i64.wrap (IntKind.i64.wrap ((l.length:Int)+(p.length:Int))+(s.length:Int))+(r.length:Int))=(l.length+p.length+s.length+r.length:Nat):=by
  simp only[QF];omega
 simp only[vo,w,eE,seval];by_cases h:l.length+p.length+s.length+r.length=0
 ·have d:decide (((l.length+p.length+s.length+r.length:Nat):Int) > 0)=false:=QWb (by omega);have e:W7 l p s r=true:=by
   unfold W7;simp only[QUL,QUt];omega
  simp only[d,e,QVZ,eE,seval];refine aC (Qv1 k) ?_;cases Zb k
  ·simp only[QUG,QH,eE,seval]
  ·simp only[eE,seval]
 ·have d:decide (((l.length+p.length+s.length+r.length:Nat):Int) > 0)=true:=QWi (by omega);have e:W7 l p s r=false:=by
   unfold W7;rw[QWd];simp only[ne_eq,QUL,QUt];omega
  simp only[d,e,QVQ,Qa,seval]

end

end Go.Proofs.YtdhlbgejhcejcaaGreatDoor.Va

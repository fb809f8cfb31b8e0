/- Parts of the proof, in order. -/
import Derived.Lib.IndexLaws
import Derived.Test.YtafhmlkilcmniaaGreatDoorMPlanAgrees1

namespace Go.Proofs.YtafhmlkilcmniaaGreatDoor.Rc
open Go Am
abbrev Qse:IL:=[B6 2 0,jd 3 0]
abbrev Qsf:IL:=[ja 13 0,jh 14 0 13,ja 4 14]
abbrev Qsg:IL:=[ja 15 4,yk 16 15 1]
abbrev Qsh:IL:=[B6 2 65533,jd 3 0]
abbrev Qsi:IL:=[ja 17 0,HC 18 17 0,ja 5 18]
abbrev Qsj:IL:=[ja 22 6,Cm 23 22 240]
abbrev Qsk:IL:=[ja 24 6,zs 25 24,B7 26 25 31,⟨some 27,.val (.bin .num .shr (.t 26) (.c (.int .u64 31))),none⟩,ja 7 27]
abbrev Qsl:IL:=[ja 28 0,HC 29 28 0,zs 30 29,ja 31 7,⟨some 32,.val (.bin .num .andNot (.t 30) (.t 31)),none⟩,ja 33 7,⟨some 34,.val (.bin .num .and (.c (.int .i32 65533)) (.t 33)),none⟩,B8 35 32 34,ja 2 35,jd 3 1]
abbrev Qsm:IL:=[ja 36 6,HE 37 36 7,RI 38 37,ja 8 38]
abbrev QdW:IL:=[ja 43 4,ja 44 8,jo 45 43 44]
abbrev QdX:IL:=[B6 2 65533,jd 3 1]
abbrev QdY:IL:=[ja 46 0,HC 47 46 1,ja 10 47]
abbrev QdZ:IL:=[ja 48 10,jb 49 0 9,jc 50 49,jo 51 48 50,ja 52 51,ju 53 1 9 52,jz 54 53 52,jw 55 10 52,⟨some 56,.val (.bin .num .lss (.t 54) (.t 55)),(some (52,false))⟩,jt 57 52 56]
abbrev Qd0:IL:=[B6 2 65533,jd 3 1]
abbrev Qd1:IL:=[ja 58 8,zu 59 58 2]
abbrev Qd2:IL:=[ja 60 5,HE 61 60 31,zs 62 61,B7 63 62 6,ja 64 10,HE 65 64 63,zs 66 65,B8 67 63 66,ja 2 67,jd 3 2]
abbrev Qd3:IL:=[ja 68 0,HC 69 68 2,ja 11 69]
abbrev Qd4:IL:=[ja 70 11,⟨some 71,.val (.bin .num .lss (.t 70) (.c (.int .u8 128))),none⟩,ja 72 71,jw 73 11 72,⟨some 74,.val (.bin .num .lss (.c (.int .u8 191)) (.t 73)),(some (72,false))⟩,jt 75 72 74]
abbrev Qd5:IL:=[B6 2 65533,jd 3 1]
abbrev Qd6:IL:=[ja 76 8,zu 77 76 3]
abbrev Qd7:IL:=[ja 78 5,HE 79 78 15,zs 80 79,B7 81 80 12,ja 82 10,HE 83 82 63,zs 84 83,B7 85 84 6,B8 86 81 85,ja 87 11,HE 88 87 63,zs 89 88,B8 90 86 89,ja 2 90,jd 3 3]
abbrev Qd8:IL:=[ja 91 0,HC 92 91 3,ja 12 92]
abbrev Qd9:IL:=[ja 93 12,⟨some 94,.val (.bin .num .lss (.t 93) (.c (.int .u8 128))),none⟩,ja 95 94,jw 96 12 95,⟨some 97,.val (.bin .num .lss (.c (.int .u8 191)) (.t 96)),(some (95,false))⟩,jt 98 95 97]
abbrev Qea:IL:=[B6 2 65533,jd 3 1]
abbrev Qeb:IL:=[ja 99 5,HE 100 99 7,zs 101 100,B7 102 101 18,ja 103 10,HE 104 103 63,zs 105 104,B7 106 105 12,B8 107 102 106,ja 108 11,HE 109 108 63,zs 110 109,B7 111 110 6,B8 112 107 111,ja 113 12,HE 114 113 63,zs 115 114,B8 116 112 115,ja 2 116,jd 3 4]
abbrev Qsn:RC:=jQ Qse (jQ Qsf (.seq (jQ Qsg (.cond (.t 16) (jQ Qsh (.ret)) (.skip))) (jQ Qsi (.seq (.no) (.seq (jQ Qsj (.cond (.t 23) (jQ Qsk (jQ Qsl (.ret))) (.skip))) (jQ Qsm (.seq (.no) (.seq (jQ QdW (.cond (.t 45) (jQ QdX (.ret)) (.skip))) (jQ QdY (.seq (jQ QdZ (.cond (.t 57) (jQ Qd0 (.ret)) (.skip))) (.seq (jQ Qd1 (.cond (.t 59) (jQ Qd2 (.ret)) (.skip))) (jQ Qd3 (.seq (jQ Qd4 (.cond (.t 75) (jQ Qd5 (.ret)) (.skip))) (.seq (jQ Qd6 (.cond (.t 77) (jQ Qd7 (.ret)) (.skip))) (jQ Qd8 (.seq (jQ Qd9 (.cond (.t 98) (jQ Qea (.ret)) (.skip))) (jQ Qeb (.ret))))))))))))))))))
abbrev Qso:List RR:=[.tmp 2,.tmp 3]
theorem QOT:CT 274 117 Qsn Qso:=ck Tryz.func274 Tryz.ntmps274 (by decide +kernel)
abbrev Qsp:IL:=[jg 2]
abbrev Qsq:IL:=[ja 5 0,⟨some 6,.call (.f 206) [(.t 5),(.c (.str [46]))],none⟩,jh 7 1 6,jd 8 0]
abbrev Qsr:IL:=[jo 9 8 7]
abbrev Qss:IL:=[jm 10 1 6 8,jc 11 10,ja 4 11]
abbrev Qst:IL:=[ja 12 4,jr 13 217 12,yb 14 13]
abbrev Qsu:IL:=[jg 2]
abbrev Qsv:IL:=[jn 15 8 1,ja 8 15]
abbrev Qsw:RC:=jQ Qsr (.seq (jX 9 0) (.seq (.block 1 (jQ Qss (jQ Qst (.cond (.t 14) (jQ Qsu (.ret)) (.skip))))) (.reg Qsv)))
abbrev Qsx:IL:=[ja 16 0,jh 17 0 16,zu 18 17 120,ja 2 18]
abbrev Qsy:RC:=jQ Qsp (.seq (jQ Qsq (.block 0 (.loop Qsw))) (jQ Qsx (.ret)))
abbrev Qsz:List RR:=[.tmp 2]
theorem QsA:CT 205 19 Qsy Qsz:=ck Tryz.func205 Tryz.ntmps205 (by decide +kernel)
def SB:IL:=[jf 1 1 0,yd 2]
def SD:IL:=[jb 6 0 1,jc 7 6,⟨some 8,.val (.build [.str [],.int .i64 0,.nils] [(0,1,(.t 7)),(1,1,(.c (.int .i64 (-1))))]),none⟩,jf 9 9 8,ja 3 9]
def SG:IL:=[ja 10 3,jb 11 0 1,jc 12 11,jr 13 153 12,ye 14 97 10 13 8]
def Nh:IL:=[ja 15 3,jb 16 2 1,jc 17 16,jh 18 1 17,yj 19 18 1,ja 20 19,jl 21 2 1 20,jp 22 21 20,yc 23 1 22 20,ym 24 23 64 20,jj 25 20 24,ja 26 25,jl 27 3 1 26,jp 28 27 26,yc 29 1 28 26,ym 30 29 16 26,jj 31 26 30,ye 32 97 15 31 3]
def Ni:IL:=[ja 33 3,jb 34 2 1,jc 35 34,jh 36 1 35,js 37 36 0,ja 38 37,ju 39 2 1 38,jz 40 39 38,⟨some 41,.val (.iaddr 3 none (.t 40) (.c (.int .i64 0))),(some (38,false))⟩,ju 42 1 41 38,jz 43 42 38,zf 44 43 0 38,jt 45 38 44,ye 46 97 33 45 14]
def SH:IL:=[jb 47 2 1,jc 48 47,jh 49 1 48,jd 50 0]
def SJ:IL:=[jo 51 50 49]
def SK:IL:=[ja 52 50,jm 53 3 48 50,je 54 3 53,⟨some 5,.allocN 5 [.str [],.int .i64 0,.nils],none⟩,ja 4 52,ji 3 5 54]
def SL:IL:=[ja 55 3,jb 56 1 5,jc 57 56,yo 58 55,jb 59 1 58,ji 1 59 57]
def Nj:IL:=[ja 60 3,jb 61 1 5,jc 62 61,yj 63 62 0,ja 64 63,jl 65 1 5 64,jp 66 65 64,ym 67 66 2147483647 64,jj 68 64 67,ye 69 97 60 68 6]
def U3:IL:=[ja 70 3,ja 71 4,js 72 71 0,ja 73 72,ju 74 1 5 73,yw 75 0 5 74 73,ju 76 2 1 73,yw 77 0 1 76 73,jw 78 4 73,Ch 79 78 1 73,zv 80 3 77 79 73,ju 81 1 80 73,HB 82 81 73,Cl 83 75 82 73,jt 84 73 83,ye 85 97 70 84 11]
def DS:IL:=[ja 86 3,jb 87 0 5,jc 88 87,jr 89 159 88,ye 90 97 86 89 8]
def DT:IL:=[ja 91 3,jb 92 2 1,jc 93 92,ja 94 4,⟨some 95,.callF (.f 160) [(.t 93),(.t 94),(.f 161)],none⟩,yb 96 95,ye 97 97 91 96 9]
def DU:IL:=[ja 98 3,jb 99 3 1,jc 100 99,jb 101 1 5,jc 102 101,jq 103 162 100 102,yb 104 103,ye 105 97 98 104 21]
def DV:IL:=[ja 106 3,jb 107 2 5,jc 108 107,ye 109 157 106 108 4]
def Cx:IL:=[jn 110 50 1,ja 50 110]
def SP:RC:=.gho (.drop 5) (jQ SJ (.seq (jX 51 0) (.seq (.block 1 (jQ SK (jQ SL (jQ Nj (jD U3 (jQ DS (jQ DT (jQ DU (.reg DV))))))))) (.reg Cx))))
def Cy:IL:=[ja 111 3,yo 112 111,jb 113 1 112,⟨none,.store 1 (.t 113) (.c (.int .i64 (-1))),none⟩]
def Cz:IL:=[ja 114 3,jb 115 3 1,jc 116 115,ys 117 155 114 116 0 2147483647]
def CA:IL:=[ja 118 3,jb 119 4 1,jc 120 119,ye 121 157 118 120 3]
def CB:IL:=[ja 122 3,yo 123 122,jb 124 2 123,jc 125 124,ja 2 125]
def ED:RC:=jQ SB (jQ SD (.gho (.vecc 9 2 1100 3) (jQ SG (jQ Nh (jQ Ni (.seq (jQ SH (.block 0 (.loop SP))) (jQ Cy (jQ Cz (jQ CA (jQ CB (.ret)))))))))))
def EE:List RR:=[.tmp 2]
theorem QsB:CT 102 126 ED EE:=ck Tryz.func102 Tryz.ntmps102 (by decide +kernel)
def SR:IL:=[ja 10 1,jh 11 1 10,jd 12 0]
def SS:IL:=[jo 13 12 11]
def SU:IL:=[ja 14 12,jm 15 2 10 12,je 16 2 15,⟨some 9,.allocN 9 [.int .i64 0,.int .i64 0],none⟩,ja 8 14,ji 2 9 16]
def Nk:IL:=[ja 17 0,jb 18 0 9,jc 19 18,ja 20 2,B4 21 19 20,ja 22 21,jl 23 1 9 22,jp 24 23 22,jk 25 3 22,FQ 26 24 25 22,jj 27 22 26,ja 28 27,jl 29 0 9 28,jp 30 29 28,jl 31 1 9 28,jp 32 31 28,FQ 33 30 32 28,jj 34 28 33,ye 35 97 17 34 6]
def GY:IL:=[ja 36 0,ja 37 8,js 38 37 0,ja 39 38,ju 40 0 9 39,yw 41 0 9 40 39,jw 42 1 39,jw 43 8 39,Ch 44 43 1 39,zv 45 2 42 44 39,ju 46 1 45 39,HB 47 46 39,Cl 48 41 47 39,jt 49 39 48,ye 50 97 36 49 11]
def SX:IL:=[jn 51 12 1,ja 12 51]
def QsC:RC:=.gho (.drop 9) (jQ SS (.seq (jX 13 0) (.seq (.block 1 (jQ SU (jQ Nk (.draw GY)))) (.reg SX))))
def EG:RC:=jQ SR (.block 0 (.loop QsC))
def EH:List RR:=[]
theorem QsD:CT 155 52 EG EH:=ck Tryz.func155 Tryz.ntmps155 (by decide +kernel)
abbrev QsE:IL:=[jf 3 3 1,jg 4]
abbrev QsF:IL:=[ja 5 0,yz 6 220 3,yh 7 219 5 6,ja 4 7]
abbrev QsG:RC:=jQ QsE (jQ QsF (.ret))
abbrev QsH:List RR:=[.tmp 4]
theorem QsI:CT 162 8 QsG QsH:=ck Tryz.func162 Tryz.ntmps162 (by decide +kernel)
abbrev QsJ:IL:=[jg 4]
abbrev QsK:IL:=[ja 5 0,ja 6 1,yh 7 253 5 6,yj 8 7 0,ja 4 8]
abbrev QsL:RC:=jQ QsJ (jQ QsK (.ret))
abbrev QsM:List RR:=[.tmp 4]
theorem QsN:CT 219 9 QsL QsM:=ck Tryz.func219 Tryz.ntmps219 (by decide +kernel)
abbrev QsO:IL:=[jd 4 0]
abbrev QsP:IL:=[ja 6 0,jh 7 1 6,jd 8 0]
abbrev QsQ:IL:=[jo 9 8 7]
abbrev QsR:IL:=[ja 10 8,ja 5 10]
abbrev QsS:IL:=[ja 11 1,ja 12 0,ja 13 5,jm 14 2 12 13,je 15 2 14,zi 16 11 15]
abbrev QsT:IL:=[ja 17 5,ja 4 17]
abbrev QsU:IL:=[jn 18 8 1,ja 8 18]
abbrev QsV:RC:=jQ QsQ (.seq (jX 9 0) (.seq (.block 1 (jQ QsR (jQ QsS (.cond (.t 16) (jQ QsT (.ret)) (.skip))))) (.reg QsU)))
abbrev QsW:IL:=[jd 4 (-1)]
abbrev QsX:RC:=jQ QsO (.seq (jQ QsP (.block 0 (.loop QsV))) (jQ QsW (.ret)))
abbrev QsY:List RR:=[.tmp 4]
theorem QsZ:CT 253 19 QsX QsY:=ck Tryz.func253 Tryz.ntmps253 (by decide +kernel)
abbrev Qs0:IL:=[jf 2 2 0,jg 3]
abbrev Qs1:IL:=[jb 4 0 2,jc 5 4,jc 6 1,⟨some 7,.val (.bin .num .leq (.t 5) (.t 6)),none⟩,ja 8 7,jp 9 1 8,jl 10 1 2 8,jp 11 10 8,FQ 12 9 11 8,jj 13 8 12,ja 3 13]
abbrev Qs2:RC:=jQ Qs0 (jQ Qs1 (.ret))
abbrev Qs3:List RR:=[.tmp 3]
theorem Qs4:CT 220 14 Qs2 Qs3:=ck Tryz.func220 Tryz.ntmps220 (by decide +kernel)
abbrev Qs5:IL:=[jf 1 1 0,GR 2]
abbrev Qs6:IL:=[jb 3 0 1,jc 4 3,ja 2 4]
abbrev Qs7:RC:=jQ Qs5 (jQ Qs6 (.ret))
abbrev Qs8:List RR:=[.tmp 2]
theorem Qs9:CT 161 5 Qs7 Qs8:=ck Tryz.func161 Tryz.ntmps161 (by decide +kernel)
abbrev Qta:IL:=[jf 3 3 0,jf 4 4 1,jf 5 5 2,jg 6]
abbrev Qtb:IL:=[jc 7 3,jc 8 4,zz 9 3 7 8,⟨some 10,.val (.mkfn (.func 218) [] [(.t 5),(.t 3),(.t 4)]),none⟩,yh 11 174 9 10,ja 6 11]
abbrev Qtc:RC:=jQ Qta (jQ Qtb (.ret))
abbrev Qtd:List RR:=[.tmp 6]
theorem Qte:CT 160 12 Qtc Qtd:=ck Tryz.func160 Tryz.ntmps160 (by decide +kernel)
abbrev Qtf:IL:=[jf 4 4 0,jg 5]
abbrev Qtg:IL:=[jc 6 1,jy 7 0 4 3 4,⟨some 8,.call (.t 6) [(.t 7)],none⟩,jc 9 1,jc 10 2,jc 11 3,jm 12 3 10 11,yp 13 3 12,⟨some 14,.call (.t 9) [(.t 13)],none⟩,yv 15 8 14,ja 5 15]
abbrev Qth:RC:=jQ Qtf (jD Qtg (.ret))
abbrev Qti:List RR:=[.tmp 5]
theorem Qtj:CT 218 16 Qth Qti:=ck Tryz.func218 Tryz.ntmps218 (by decide +kernel)
def SY:IL:=[jf 3 3 0,jf 4 4 1,yd 6]
def SZ:IL:=[jb 11 0 4,jc 12 11,⟨some 13,.val (.build [.str [],.int .i64 0,.nils] [(0,1,(.t 12)),(1,1,(.c (.int .i64 (-1))))]),none⟩,jf 14 14 13,ja 7 14]
def S0:IL:=[ja 15 7,jb 16 0 4,jc 17 16,jr 18 153 17,ye 19 97 15 18 8]
def Nl:IL:=[ja 20 7,jb 21 1 4,jc 22 21,jh 23 1 22,zu 24 23 64,ja 25 24,jl 26 2 4 25,jp 27 26 25,yc 28 1 27 25,jl 29 3 4 25,jp 30 29 25,yc 31 1 30 25,⟨some 32,.val (.mnx true (.t 28) (.t 31)),(some (25,true))⟩,ym 33 32 16 25,jj 34 25 33,ye 35 97 20 34 3]
def S1:IL:=[jb 36 1 4,jc 37 36,jh 38 1 37,jd 39 0]
def S2:IL:=[jo 40 39 38]
def S3:IL:=[ja 41 39,ja 8 41]
def S4:IL:=[ja 42 7,je 43 3 3,je 44 5 4,ja 45 8,⟨some 46,.callF (.f 154) [(.t 42),(.t 43),(.t 44),(.t 45)],none⟩]
def S5:IL:=[jn 47 39 1,ja 39 47]
def Nm:RC:=jQ S2 (.seq (jX 40 0) (.seq (.block 1 (jQ S3 (.reg S4))) (.reg S5)))
def S6:IL:=[ja 48 7,jb 49 2 4,jc 50 49,ys 51 155 48 50 1 65535]
def CC:IL:=[jb 52 3 4,jc 53 52,jh 54 1 53,jd 55 0]
def CD:IL:=[jo 56 55 54]
def CE:IL:=[jm 57 1 53 55,jc 58 57,ja 10 58]
def CF:IL:=[ja 59 7,ja 60 10,jr 61 156 60,ye 62 97 59 61 7]
def CG:IL:=[jn 63 55 1,ja 55 63]
def Nn:RC:=jQ CD (.seq (jX 56 2) (.seq (.block 3 (jQ CE (.reg CF))) (.reg CG)))
def CH:IL:=[ja 64 7,jb 65 4 4,jc 66 65,ye 67 157 64 66 1]
def CI:IL:=[ja 68 7,je 69 3 3,je 70 5 4,ja 71 2,yr 72 158 69 70 71,yb 73 72,ye 74 97 68 73 19]
def CJ:IL:=[ja 75 7,yo 76 75,jb 77 2 76,jc 78 77,ja 6 78]
def EI:RC:=jQ SY (jQ SZ (.gho (.vecc 14 2 1100 3) (jQ S0 (jQ Nl (.seq (jQ S1 (.block 0 (.loop Nm))) (jQ S6 (.seq (jQ CC (.block 2 (.loop Nn))) (jQ CH (jQ CI (jQ CJ (.ret)))))))))))
def EJ:List RR:=[.tmp 6]
theorem Qtk:CT 101 79 EI EJ:=ck Tryz.func101 Tryz.ntmps101 (by decide +kernel)
abbrev Qtl:IL:=[jf 3 3 0,jf 4 4 1,jf 5 5 2,jg 6]
abbrev Qtm:IL:=[je 7 5 4,jr 8 151 7,⟨some 9,.val (.mkfn (.func 216) [] [(.t 3),(.t 5)]),none⟩,yh 10 148 8 9,ja 6 10]
abbrev Qtn:RC:=jQ Qtl (jQ Qtm (.ret))
abbrev Qto:List RR:=[.tmp 6]
theorem Qtp:CT 158 11 Qtn Qto:=ck Tryz.func158 Tryz.ntmps158 (by decide +kernel)
abbrev Qtq:IL:=[jg 4]
abbrev Qtr:IL:=[je 8 3 1,ja 9 0,jq 10 150 8 9,ja 7 10,jv 11 7 0,jv 12 7 1,zb 5 5,ji 5 5 11,ja 6 12]
abbrev Qts:IL:=[ja 13 6,ja 14 13,jp 15 2 14,jk 16 0 14,⟨some 17,.val (.mget false (.bool false) (.t 15) (.t 16)),(some (14,true))⟩,yn 18 17 14,jj 19 14 18,ja 4 19]
abbrev Qtt:RC:=jQ Qtq (jQ Qtr (jQ Qts (.ret)))
abbrev Qtu:List RR:=[.tmp 4]
theorem Qtv:CT 216 20 Qtt Qtu:=ck Tryz.func216 Tryz.ntmps216 (by decide +kernel)
abbrev Qtw:IL:=[jf 1 1 0,yd 2]
abbrev Qtx:IL:=[yd 3]
abbrev Qty:IL:=[jb 6 1 1,jc 7 6,jh 8 1 7,jd 9 0]
abbrev Qtz:IL:=[jo 10 9 8]
abbrev QtA:IL:=[jm 11 16 7 9,je 12 16 11,yx 5 5,ji 16 5 12]
abbrev QtB:IL:=[jb 13 2 5,jc 14 13,js 15 14 1,ja 16 15,jl 17 4 5 16,jl 18 0 17 16,jp 19 18 16,yt 20 19 10 16,jj 21 16 20]
abbrev QtC:IL:=[ja 22 3,jb 23 4 5,jb 24 1 23,jc 25 24,FP 26 1 1 0 1 25,yf 27 1 16 9 22 26,ja 3 27]
abbrev QtD:IL:=[jn 28 9 1,ja 9 28]
abbrev QtE:RC:=.gho (.drop 5) (jQ Qtz (.seq (jX 10 0) (.seq (.block 1 (jQ QtA (jQ QtB (.cond (.t 21) (.reg QtC) (.skip))))) (.reg QtD))))
abbrev QtF:IL:=[ja 29 3,ja 2 29]
abbrev QtG:RC:=jQ Qtw (jQ Qtx (.gho (.vec 3 3 1) (.seq (jQ Qty (.block 0 (.loop QtE))) (jQ QtF (.ret)))))
abbrev QtH:List RR:=[.tmp 2]
theorem QtI:CT 151 30 QtG QtH:=ck Tryz.func151 Tryz.ntmps151 (by decide +kernel)
def S7:IL:=[jf 5 5 1,jf 6 6 2]
def S8:IL:=[jb 9 1 6,jc 10 9,ja 11 3,jm 12 16 10 11,je 13 16 12,yx 8 8,ji 16 8 13]
def S9:IL:=[ja 14 0,jb 15 0 8,jc 16 15,yo 17 14,jb 18 1 17,ji 1 18 16]
def No:IL:=[ja 19 0,jb 20 0 8,jc 21 20,yj 22 21 1,ja 23 22,jl 24 0 8 23,jp 25 24 23,ym 26 25 65535 23,jj 27 23 26,ye 28 97 19 27 6]
def GZ:IL:=[ja 29 0,ja 30 3,js 31 30 0,ja 32 31,ju 33 0 8 32,yw 34 0 8 33 32,ju 35 1 6 32,yw 36 0 6 35 32,jw 37 3 32,Ch 38 37 1 32,zv 39 16 36 38 32,ju 40 0 39 32,HB 41 40 32,Cl 42 34 41 32,jt 43 32 42,ye 44 97 29 43 11]
def Np:IL:=[ja 45 0,jb 46 1 8,jc 47 46,jr 48 159 47,ye 49 97 45 48 8]
def Nq:IL:=[ja 50 0,jb 51 1 6,jc 52 51,ja 53 3,⟨some 54,.callF (.f 208) [(.t 52),(.t 53),(.f 209)],none⟩,yb 55 54,ye 56 97 50 55 9]
def Nr:IL:=[ja 57 0,jb 58 2 6,jc 59 58,jb 60 0 8,jc 61 60,jq 62 162 59 61,yb 63 62,ja 64 63,jl 65 3 6 64,jp 66 65 64,jl 67 1 8 64,jp 68 67 64,Ci 69 50 66 68 64,yn 70 69 64,jj 71 64 70,ye 72 97 57 71 21]
def Ns:IL:=[ja 73 0,jb 74 2 8,jc 75 74,yj 76 75 1,ja 77 76,jl 78 2 8 77,jp 79 78 77,ym 80 79 5 77,jj 81 77 80,ja 82 81,jl 83 2 8 82,jp 84 83 82,jl 85 3 8 82,jp 86 85 82,Ci 87 210 84 86 82,jj 88 82 87,ye 89 97 73 88 1]
def Nt:IL:=[ja 90 0,je 91 3 5,je 92 16 8,jq 93 211 91 92,ye 94 97 90 93 12]
def DW:IL:=[ja 95 0,je 96 5 6,ja 97 3,jq 98 212 96 97,ye 99 97 95 98 15]
def DX:IL:=[ja 100 0,je 101 3 5,je 102 16 8,jq 103 213 101 102,ye 104 97 100 103 1]
def DY:IL:=[ja 105 0,jb 106 15 8,jc 107 106,ye 108 157 105 107 2]
def CL:IL:=[ja 109 0,yo 110 109,jb 111 1 110,⟨none,.store 1 (.t 111) (.c (.int .i64 (-1))),none⟩]
def EK:RC:=jQ S7 (jQ S8 (jQ S9 (jQ No (jD GZ (jQ Np (jQ Nq (jQ Nr (jQ Ns (jQ Nt (jQ DW (jQ DX (jQ DY (.reg CL)))))))))))))
def EL:List RR:=[]
theorem QtJ:CT 154 112 EK EL:=ck Tryz.func154 Tryz.ntmps154 (by decide +kernel)
abbrev QtK:IL:=[jf 2 2 0,jf 3 3 1,jg 4]
abbrev QtL:IL:=[jb 7 7 3,jc 8 7,yb 9 8]
abbrev QtM:IL:=[jb 10 8 3,je 11 7 10,jr 12 247 11,ja 4 12]
abbrev QtN:IL:=[jb 13 2 3,jx 14 0 3 13,ya 15 14 2,ja 16 15,ju 17 6 3 16,yw 18 0 3 17 16,⟨some 19,.val (.bin .str .neq (.t 18) (.c (.str []))),(some (16,false))⟩,jt 20 16 19,ja 21 20,ju 22 4 3 21,ju 23 0 22 21,yw 24 0 3 23 21,ju 25 8 3 21,zw 26 0 3 7 25 21,HA 27 248 24 26 21,zh 28 27 21,jt 29 21 28,ja 30 29,ju 31 8 3 30,zw 32 0 3 7 31 30,yq 33 76 32 30,⟨some 34,.val (.fld 1 none (.t 33)),(some (30,false))⟩,ju 35 8 3 30,ju 36 1 35 30,yw 37 0 3 36 30,⟨some 38,.val (.bin .num .neq (.t 34) (.t 37)),(some (30,false))⟩,jt 39 30 38]
abbrev QtO:IL:=[jg 4]
abbrev QtP:IL:=[jb 40 4 3,jb 41 0 40,jc 42 41,ya 43 42 9]
abbrev QtQ:IL:=[yg 4]
abbrev QtR:IL:=[je 45 3 2,jb 46 4 3,jb 47 1 46,jc 48 47,jq 49 244 45 48,ja 44 49,jv 50 44 0,jv 51 44 1,zk 5 5,ji 5 5 50,ja 6 51]
abbrev QtS:IL:=[ja 52 6,ja 53 52,jl 54 2 5 53,jp 55 54 53,⟨some 56,.val (.mkfn (.func 249) [] [(.t 3)]),(some (53,true))⟩,⟨some 57,.callF (.f 174) [(.t 55),(.t 56)],(some (53,true))⟩,jj 58 53 57,ja 4 58]
abbrev QtT:RC:=jQ QtK (.seq (jQ QtL (.cond (.t 9) (jQ QtM (.ret)) (.skip))) (.seq (jD QtN (.cond (.t 39) (jQ QtO (.ret)) (.skip))) (.seq (jQ QtP (.cond (.t 43) (jQ QtQ (.ret)) (.skip))) (jQ QtR (jQ QtS (.ret))))))
abbrev QtU:List RR:=[.tmp 4]
theorem QtV:CT 213 59 QtT QtU:=ck Tryz.func213 Tryz.ntmps213 (by decide +kernel)
abbrev QtW:IL:=[jf 2 2 0,jg 3]
abbrev QtX:IL:=[jb 4 1 2,jc 5 4,⟨some 6,.val (.cvi .u64 (.t 5)),none⟩,jb 7 8 1,jb 8 1 7,jc 9 8,ze 10 6 9,ja 3 10]
abbrev QtY:RC:=jQ QtW (jQ QtX (.ret))
abbrev QtZ:List RR:=[.tmp 3]
theorem Qt0:CT 249 11 QtY QtZ:=ck Tryz.func249 Tryz.ntmps249 (by decide +kernel)
abbrev Qt1:IL:=[jf 2 2 0,jf 3 3 1,zk 4 4,jg 5]
abbrev Qt2:IL:=[jb 7 1 2,jc 8 7,yz 9 262 3,yh 10 106 8 9,ja 6 10]
abbrev Qt3:IL:=[ja 11 6,yk 12 11 0]
abbrev Qt4:IL:=[⟨some 13,.val (.build [.str [],.bool false,.nils,.nils,.nils] []),none⟩,ji 5 4 13,jg 5]
abbrev Qt5:IL:=[jb 14 1 2,jc 15 14,ja 16 6,jm 17 5 15 16,je 18 5 17,ji 5 4 18,yg 5]
abbrev Qt6:RC:=jQ Qt1 (jQ Qt2 (.seq (jQ Qt3 (.cond (.t 12) (jQ Qt4 (.ret)) (.skip))) (jQ Qt5 (.ret))))
abbrev Qt7:List RR:=[.cell 4 (some 5),.tmp 5]
theorem Qt8:CT 244 19 Qt6 Qt7:=ck Tryz.func244 Tryz.ntmps244 (by decide +kernel)
abbrev Qt9:IL:=[jf 2 2 0,jg 3]
abbrev Qua:IL:=[jb 4 0 2,jc 5 4,jc 6 1,yv 7 5 6,ja 3 7]
abbrev Qub:RC:=jQ Qt9 (jQ Qua (.ret))
abbrev Quc:List RR:=[.tmp 3]
theorem Qud:CT 262 8 Qub Quc:=ck Tryz.func262 Tryz.ntmps262 (by decide +kernel)
abbrev QGi:IL:=[jf 1 1 0,yi 2 2]
abbrev QGj:IL:=[jb 3 0 1,jc 4 3,js 5 4 6,ja 6 5,jl 7 1 1 6,jp 8 7 6,zy 9 133 8 6,yt 10 9 0 6,jj 11 6 10]
abbrev QGk:IL:=[jb 12 1 1,⟨none,.store 1 (.t 12) (.c (.int .u64 9221120237041090560)),none⟩]
abbrev QGl:IL:=[je 13 7 1,ji 7 2 13]
abbrev r76:RC:=jQ QGi (.seq (jQ QGj (.cond (.t 11) (.reg QGk) (.skip))) (jQ QGl (.ret)))
abbrev o76:List RR:=[.cell 2 (some 7)]
theorem k76:CT 76 14 r76 o76:=ck Tryz.func76 Tryz.ntmps76 (by decide +kernel)
abbrev Quf:IL:=[jf 1 1 0,jg 2]
abbrev Qug:IL:=[jb 3 0 1,jc 4 3,js 5 4 0,ja 6 5,jl 7 1 1 6,jp 8 7 6,⟨some 9,.val (.bin .num .eql (.t 8) (.c (.int .u64 0))),(some (6,true))⟩,jj 10 6 9,ja 11 10,jl 12 2 1 11,jp 13 12 11,⟨some 14,.val (.bin .str .eql (.t 13) (.c (.str []))),(some (11,true))⟩,jj 15 11 14,ja 16 15,jl 17 3 1 16,jp 18 17 16,yc 19 1 18 16,jl 20 4 1 16,jp 21 20 16,yc 22 1 21 16,zp 23 19 22 16,jl 24 5 1 16,jp 25 24 16,yc 26 1 25 16,zp 27 23 26 16,jl 28 6 1 16,jp 29 28 16,yc 30 1 29 16,zp 31 27 30 16,yt 32 31 0 16,jj 33 16 32,ja 2 33]
abbrev Quh:RC:=jQ Quf (jQ Qug (.ret))
abbrev Qui:List RR:=[.tmp 2]
theorem Quj:CT 247 34 Quh Qui:=ck Tryz.func247 Tryz.ntmps247 (by decide +kernel)
abbrev Quk:IL:=[jf 2 2 0,jg 4]
abbrev Qul:IL:=[jb 7 1 2,jc 8 7,ja 9 1,jm 10 16 8 9,je 11 16 10,yx 5 5,ji 16 5 11]
abbrev Qum:IL:=[jb 12 6 5,jc 13 12,Cf 14 13]
abbrev Qun:IL:=[yg 4]
abbrev Quo:IL:=[jb 15 2 5,jc 16 15,ya 17 16 2,ja 18 17,ju 19 6 5 18,jz 20 19 18,yq 21 159 20 18,zh 22 21 18,jt 23 18 22,ja 24 23,ju 25 1 2 24,jz 26 25 24,⟨some 27,.val (.mkfn (.func 245) [] [(.t 5)]),(some (24,false))⟩,⟨some 28,.callF (.f 242) [(.t 26),(.t 27)],(some (24,false))⟩,jt 29 24 28]
abbrev Qup:IL:=[jg 4]
abbrev Quq:IL:=[jb 30 1 2,jc 31 30,ja 32 1,zz 33 16 31 32,yz 34 246 5,yh 35 242 33 34,ja 6 35]
abbrev Qur:IL:=[ja 36 6,yb 37 36,ja 38 37,ju 39 1 2 38,yw 40 0 2 39 38,jw 41 1 38,Ch 42 41 1 38,zv 43 16 40 42 38,ju 44 6 43 38,HB 45 44 38,ju 46 6 5 38,yw 47 0 5 46 38,⟨some 48,.val (.bin .str .eql (.t 45) (.t 47)),(some (38,false))⟩,jt 49 38 48,ja 4 49]
abbrev Qus:RC:=jQ Quk (jQ Qul (.seq (jQ Qum (.cond (.t 14) (jQ Qun (.ret)) (.skip))) (.seq (jQ Quo (.cond (.t 29) (jQ Qup (.ret)) (.skip))) (jQ Quq (jD Qur (.ret))))))
abbrev Qut:List RR:=[.tmp 4]
theorem Quu:CT 212 50 Qus Qut:=ck Tryz.func212 Tryz.ntmps212 (by decide +kernel)
abbrev Quv:IL:=[jg 4]
abbrev Quw:IL:=[ja 5 0,ja 6 1,yh 7 221 5 6,yj 8 7 0,ja 4 8]
abbrev Qux:RC:=jQ Quv (jQ Quw (.ret))
abbrev Quy:List RR:=[.tmp 4]
theorem Quz:CT 242 9 Qux Quy:=ck Tryz.func242 Tryz.ntmps242 (by decide +kernel)
abbrev QuA:IL:=[jd 4 0]
abbrev QuB:IL:=[ja 6 0,jh 7 1 6,jd 8 0]
abbrev QuC:IL:=[jo 9 8 7]
abbrev QuD:IL:=[ja 10 8,ja 5 10]
abbrev QuE:IL:=[ja 11 1,ja 12 0,ja 13 5,jm 14 16 12 13,je 15 16 14,zi 16 11 15]
abbrev QuF:IL:=[ja 17 5,ja 4 17]
abbrev QuG:IL:=[jn 18 8 1,ja 8 18]
abbrev QuH:RC:=jQ QuC (.seq (jX 9 0) (.seq (.block 1 (jQ QuD (jQ QuE (.cond (.t 16) (jQ QuF (.ret)) (.skip))))) (.reg QuG)))
abbrev QuI:IL:=[jd 4 (-1)]
abbrev QuJ:RC:=jQ QuA (.seq (jQ QuB (.block 0 (.loop QuH))) (jQ QuI (.ret)))
abbrev QuK:List RR:=[.tmp 4]
theorem EM:CT 221 19 QuJ QuK:=ck Tryz.func221 Tryz.ntmps221 (by decide +kernel)
abbrev QuL:IL:=[jf 2 2 0,jg 3]
abbrev QuM:IL:=[jb 4 6 2,jc 5 4,jb 6 6 1,jc 7 6,yv 8 5 7,ja 3 8]
abbrev QuN:RC:=jQ QuL (jQ QuM (.ret))
abbrev QuO:List RR:=[.tmp 3]
theorem QuP:CT 246 9 QuN QuO:=ck Tryz.func246 Tryz.ntmps246 (by decide +kernel)
abbrev QuQ:IL:=[jf 2 2 0,jg 3]
abbrev QuR:IL:=[jb 4 1 2,jc 5 4,jb 6 6 1,jc 7 6,yv 8 5 7,ja 3 8]
abbrev QuS:RC:=jQ QuQ (jQ QuR (.ret))
abbrev QuT:List RR:=[.tmp 3]
theorem QuU:CT 245 9 QuS QuT:=ck Tryz.func245 Tryz.ntmps245 (by decide +kernel)
abbrev QuV:IL:=[jf 2 2 0,jf 3 3 1,jg 4]
abbrev QuW:IL:=[jb 10 4 3,jb 11 0 10,jc 12 11,yj 13 12 1,ja 14 13,jl 15 4 3 14,jl 16 0 15 14,jp 17 16 14,ym 18 17 8 14,jj 19 14 18,ja 9 19]
abbrev QuX:IL:=[jb 20 4 3,jb 21 1 20,jc 22 21,Cf 23 22,ja 4 23]
abbrev QuY:IL:=[jb 25 4 3,jb 26 0 25,jc 27 26,js 28 27 9,ja 24 28]
abbrev QuZ:IL:=[je 30 3 2,jb 31 4 3,jb 32 1 31,jc 33 32,jq 34 244 30 33,ja 29 34,jv 35 29 0,jv 36 29 1,zk 5 5,ji 5 5 35,ja 6 36]
abbrev Qu0:IL:=[ja 37 6,ja 4 37]
abbrev Qu1:IL:=[jb 39 4 3,jb 40 0 39,jc 41 40,js 42 41 10,ja 38 42]
abbrev Qu2:IL:=[je 44 3 2,jb 45 4 3,jb 46 1 45,jc 47 46,jq 48 150 44 47,ja 43 48,jv 49 43 0,jv 50 43 1,zb 7 7,ji 5 7 49,ja 8 50]
abbrev Qu3:IL:=[ja 51 8,ja 52 51,jl 53 2 3 52,jp 54 53 52,FK 55 54 3 52,jj 56 52 55,ja 4 56]
abbrev Qu4:IL:=[jg 4]
abbrev Qu5:RC:=jQ QuV (.seq (.block 0 (jQ QuW (.cond (.t 9) (jQ QuX (.ret)) (jQ QuY (.cond (.t 24) (jQ QuZ (jQ Qu0 (.ret))) (jQ Qu1 (.cond (.t 38) (jQ Qu2 (jQ Qu3 (.ret))) (.skip)))))))) (jQ Qu4 (.ret)))
abbrev Qu6:List RR:=[.tmp 4]
theorem Qu7:CT 211 57 Qu5 Qu6:=ck Tryz.func211 Tryz.ntmps211 (by decide +kernel)
abbrev Qu8:IL:=[jg 4]
abbrev Qu9:IL:=[ja 5 0,ya 6 5 5]
abbrev Qva:IL:=[ja 7 1,js 8 7 0,ja 4 8]
abbrev Qvb:IL:=[ja 9 1,yj 10 9 1,ja 11 10,jk 12 1 11,ym 13 12 7 11,jj 14 11 13,ja 15 14,jk 16 1 15,FK 17 16 6 15,jj 18 15 17,ja 4 18]
abbrev Qvc:RC:=jQ Qu8 (.seq (jQ Qu9 (.cond (.t 6) (jQ Qva (.ret)) (.skip))) (jQ Qvb (.ret)))
abbrev Qvd:List RR:=[.tmp 4]
theorem Qve:CT 210 19 Qvc Qvd:=ck Tryz.func210 Tryz.ntmps210 (by decide +kernel)
abbrev Qvf:IL:=[jf 1 1 0,GR 2]
abbrev Qvg:IL:=[jb 3 1 1,jc 4 3,ja 2 4]
abbrev Qvh:RC:=jQ Qvf (jQ Qvg (.ret))
abbrev Qvi:List RR:=[.tmp 2]
theorem Qvj:CT 209 5 Qvh Qvi:=ck Tryz.func209 Tryz.ntmps209 (by decide +kernel)
abbrev Qvk:IL:=[jf 3 3 0,jf 4 4 1,jf 5 5 2,jg 6]
abbrev Qvl:IL:=[jc 7 3,jc 8 4,zz 9 16 7 8,⟨some 10,.val (.mkfn (.func 243) [] [(.t 5),(.t 3),(.t 4)]),none⟩,yh 11 242 9 10,ja 6 11]
abbrev Qvm:RC:=jQ Qvk (jQ Qvl (.ret))
abbrev Qvn:List RR:=[.tmp 6]
theorem Qvo:CT 208 12 Qvm Qvn:=ck Tryz.func208 Tryz.ntmps208 (by decide +kernel)
abbrev Qvp:IL:=[jf 4 4 0,jg 5]
abbrev Qvq:IL:=[jc 6 1,jy 7 0 4 16 4,⟨some 8,.call (.t 6) [(.t 7)],none⟩,jc 9 1,jc 10 2,jc 11 3,jm 12 16 10 11,yp 13 16 12,⟨some 14,.call (.t 9) [(.t 13)],none⟩,yv 15 8 14,ja 5 15]
abbrev Qvr:RC:=jQ Qvp (jD Qvq (.ret))
abbrev Qvs:List RR:=[.tmp 5]
theorem Qvt:CT 243 16 Qvr Qvs:=ck Tryz.func243 Tryz.ntmps243 (by decide +kernel)
abbrev Qvu:IL:=[jf 1 1 0,⟨some 2,.val (.mov (.c (.nilm))),none⟩]
abbrev Qvv:IL:=[⟨some 9,.mkm 9,none⟩,⟨some 3,.allocN 3 [.nilm],none⟩,ji 1 3 9]
abbrev Qvw:IL:=[jb 10 0 1,jc 11 10,jh 12 1 11,jn 13 12 1,jd 14 0]
abbrev Qvx:IL:=[jo 15 14 13]
abbrev Qvy:IL:=[jb 16 0 1,jc 17 16,jh 18 1 17,jd 19 0]
abbrev Qvz:IL:=[jo 20 19 18]
abbrev QvA:IL:=[jm 21 5 17 19,je 22 5 21,zb 5 5,ji 5 5 22]
abbrev QvB:IL:=[je 24 3 1,jb 25 0 5,jc 26 25,jq 27 150 24 26,ja 23 27,jv 28 23 0,jv 29 23 1,zb 6 6,ji 5 6 28,ja 7 29]
abbrev QvC:IL:=[je 30 5 6,jr 31 151 30,⟨some 32,.val (.mkfn (.func 152) [] [(.t 1),(.t 3)]),none⟩,yh 33 148 31 32,ja 8 33]
abbrev QvD:IL:=[ja 34 8,yb 35 34]
abbrev Qec:IL:=[jc 36 3,jb 37 0 5,jc 38 37,⟨none,.mput (.t 36) (.t 38) (.c (.bool true)),none⟩]
abbrev Qed:IL:=[jn 39 19 1,ja 19 39]
abbrev Ta:RC:=.gho (.drop 6) (.gho (.drop 5) (jQ Qvz (.seq (jX 20 2) (.seq (.block 3 (jQ QvA (jQ QvB (jQ QvC (jQ QvD (.cond (.t 35) (.reg Qec) (.skip))))))) (.reg Qed)))))
abbrev Qee:IL:=[jn 40 14 1,ja 14 40]
abbrev QvE:RC:=.gho (.drop 6) (.gho (.drop 5) (jQ Qvx (.seq (jX 15 0) (.seq (.block 1 (jQ Qvy (.block 2 (.loop Ta)))) (.reg Qee)))))
abbrev Qef:IL:=[jc 41 3,ja 2 41]
abbrev QvF:RC:=jQ Qvu (jQ Qvv (.seq (jQ Qvw (.block 0 (.loop QvE))) (jQ Qef (.ret))))
abbrev QvG:List RR:=[.tmp 2]
theorem QvH:CT 100 42 QvF QvG:=ck Tryz.func100 Tryz.ntmps100 (by decide +kernel)
abbrev QvI:IL:=[jg 4]
abbrev QvJ:IL:=[je 8 3 1,ja 9 0,jq 10 150 8 9,ja 7 10,jv 11 7 0,jv 12 7 1,zb 5 5,ji 5 5 11,ja 6 12]
abbrev QvK:IL:=[ja 13 6,ja 14 13,jp 15 2 14,jk 16 0 14,⟨some 17,.val (.mget false (.bool false) (.t 15) (.t 16)),(some (14,true))⟩,yn 18 17 14,jj 19 14 18,ja 4 19]
abbrev QvL:RC:=jQ QvI (jQ QvJ (jQ QvK (.ret)))
abbrev QvM:List RR:=[.tmp 4]
theorem QvN:CT 152 20 QvL QvM:=ck Tryz.func152 Tryz.ntmps152 (by decide +kernel)
abbrev QGm:IL:=[jf 1 1 0,jg 2]
abbrev QGn:IL:=[jd 5 0]
abbrev QGo:IL:=[yk 6 5 3]
abbrev QGp:IL:=[ja 7 5,ja 3 7]
abbrev QGq:IL:=[ja 8 3,jd 9 0]
abbrev QGr:IL:=[jo 10 9 8]
abbrev QGs:IL:=[ja 11 9,⟨some 4,.allocN 4 [.int .i64 0],none⟩,ji 1 4 11]
abbrev QGt:IL:=[ja 12 3,⟨some 13,.val (.iaddr 1 (some 3) (.t 1) (.t 12)),none⟩,jc 14 13,⟨some 15,.val (.mkfn (.func 149) [] [(.t 1),(.t 4)]),none⟩,yh 16 148 14 15]
abbrev QGu:IL:=[jg 2]
abbrev QGv:IL:=[jn 17 9 1,ja 9 17]
abbrev LA:RC:=.gho (.drop 4) (jQ QGr (.seq (jX 10 2) (.seq (.block 3 (jQ QGs (jQ QGt (.cond (.t 16) (jQ QGu (.ret)) (.skip))))) (.reg QGv))))
abbrev QvO:IL:=[jn 18 5 1,ja 5 18]
abbrev QGw:RC:=.gho (.drop 4) (jQ QGo (.seq (jX 6 0) (.seq (.block 1 (jQ QGp (jQ QGq (.block 2 (.loop LA))))) (.reg QvO))))
abbrev QvP:IL:=[yg 2]
abbrev r99:RC:=jQ QGm (.seq (jQ QGn (.block 0 (.loop QGw))) (jQ QvP (.ret)))
abbrev o99:List RR:=[.tmp 2]
theorem k99:CT 99 19 r99 o99:=ck Tryz.func99 Tryz.ntmps99 (by decide +kernel)
abbrev QvQ:IL:=[jg 4]
abbrev QvR:IL:=[jc 5 2,⟨some 6,.val (.iaddr 1 (some 3) (.t 1) (.t 5)),none⟩,jc 7 6,ja 8 0,jq 9 50 7 8,ja 4 9]
abbrev QvS:RC:=jQ QvQ (jQ QvR (.ret))
abbrev QvT:List RR:=[.tmp 4]
theorem QvU:CT 149 10 QvS QvT:=ck Tryz.func149 Tryz.ntmps149 (by decide +kernel)
abbrev QGx:IL:=[jg 2]
abbrev QGy:IL:=[jd 3 1]
abbrev QGz:IL:=[ja 4 3,ja 5 0,jh 6 1 5,jo 7 4 6]
abbrev QGA:IL:=[ja 10 0,ja 11 3,jm 12 1 10 11,zl 13 12,ja 14 0,ja 15 3,B5 16 15 1,jm 17 1 14 16,zl 18 17,⟨some 19,.val (.bin .str .leq (.t 13) (.t 18)),none⟩]
abbrev QGB:IL:=[jg 2]
abbrev QGC:IL:=[ja 8 3,jn 9 8 1,ja 3 9]
abbrev QGD:RC:=.seq (jQ QGz (jX 7 0)) (.seq (.block 1 (jD QGA (.cond (.t 19) (jQ QGB (.ret)) (.skip)))) (.reg QGC))
abbrev QGE:IL:=[yg 2]
abbrev r98:RC:=jQ QGx (.seq (jQ QGy (.block 0 (.loop QGD))) (jQ QGE (.ret)))
abbrev o98:List RR:=[.tmp 2]
theorem k98:CT 98 20 r98 o98:=ck Tryz.func98 Tryz.ntmps98 (by decide +kernel)
abbrev QGF:IL:=[jf 1 1 0,⟨some 2,.allocN 2 [.nils,.nils,.nils],none⟩]
abbrev QGG:IL:=[⟨some 3,.allocN 3 [.nils,.nils,.nils],none⟩]
abbrev QGH:IL:=[jb 10 0 1,jc 11 10,jh 12 1 11,jd 13 0]
abbrev QGI:IL:=[jo 14 13 12]
abbrev QGJ:IL:=[jm 15 5 11 13,je 16 5 15,zb 5 5,ji 5 5 16]
abbrev QGK:IL:=[Cn 17 1 3 3 0,jc 18 17,jb 19 0 5,jc 20 19,FP 21 1 1 0 1 20,yf 22 1 16 9 18 21,Cn 23 1 3 3 0,ji 1 23 22]
abbrev QGL:IL:=[jn 24 13 1,ja 13 24]
abbrev LB:RC:=.gho (.drop 5) (jQ QGI (.seq (jX 14 0) (.seq (.block 1 (jQ QGJ (.reg QGK))) (.reg QGL))))
abbrev QGM:IL:=[jb 25 1 1,jc 26 25,jh 27 1 26,jd 28 0]
abbrev QGN:IL:=[jo 29 28 27]
abbrev QGO:IL:=[jm 30 5 26 28,je 31 5 30,zk 7 7,ji 5 7 31]
abbrev QvV:IL:=[Cn 32 1 3 3 1,jc 33 32,jb 34 0 7,jc 35 34,FP 36 1 1 0 1 35,yf 37 1 16 9 33 36,Cn 38 1 3 3 1,ji 1 38 37]
abbrev QvW:IL:=[jn 39 28 1,ja 28 39]
abbrev LC:RC:=.gho (.drop 7) (jQ QGN (.seq (jX 29 2) (.seq (.block 3 (jQ QGO (.reg QvV))) (.reg QvW))))
abbrev QvX:IL:=[jb 40 2 1,jc 41 40,jh 42 1 41,jd 43 0]
abbrev QvY:IL:=[jo 44 43 42]
abbrev QvZ:IL:=[jm 45 3 41 43,je 46 3 45,⟨some 9,.allocN 9 [.str [],.nils,.nils],none⟩,ji 3 9 46]
abbrev Qv0:IL:=[Cn 47 1 3 3 2,jc 48 47,jb 49 0 9,jc 50 49,FP 51 1 1 0 1 50,yf 52 1 16 9 48 51,Cn 53 1 3 3 2,ji 1 53 52]
abbrev Qv1:IL:=[jn 54 43 1,ja 43 54]
abbrev LD:RC:=.gho (.drop 9) (jQ QvY (.seq (jX 44 4) (.seq (.block 5 (jQ QvZ (.reg Qv0))) (.reg Qv1))))
abbrev Qv2:IL:=[je 55 3 3,ji 3 2 55]
abbrev r96:RC:=jQ QGF (jQ QGG (.gho (.vecc 3 0 1100 1) (.gho (.vecc 3 1 1101 1) (.gho (.vecc 3 2 1102 1) (.seq (jQ QGH (.block 0 (.loop LB))) (.seq (jQ QGM (.block 2 (.loop LC))) (.seq (jQ QvX (.block 4 (.loop LD))) (jQ Qv2 (.ret)))))))))
abbrev o96:List RR:=[.cell 2 (some 3)]
theorem k96:CT 96 56 r96 o96:=ck Tryz.func96 Tryz.ntmps96 (by decide +kernel)
abbrev QGP:IL:=[jf 2 2 0,jf 3 3 1,jg 4]
abbrev QGQ:IL:=[je 5 7 2,je 6 7 3,jq 7 68 5 6,js 8 7 0,ja 4 8]
abbrev r27:RC:=jQ QGP (jQ QGQ (.ret))
abbrev o27:List RR:=[.tmp 4]
theorem k27:CT 27 9 r27 o27:=ck Tryz.func27 Tryz.ntmps27 (by decide +kernel)
abbrev QGR:IL:=[jf 2 2 0,jf 3 3 1,jd 4 0]
abbrev QGS:IL:=[jb 6 0 2,jc 7 6,jb 8 0 3,jc 9 8,zo 10 7 9]
abbrev QGT:IL:=[jb 11 0 2,jc 12 11,jb 13 0 3,jc 14 13,jq 15 120 12 14,ja 4 15]
abbrev QGU:IL:=[jb 16 0 2,jc 17 16]
abbrev QGV:IL:=[js 19 17 11,ja 18 19]
abbrev QGW:IL:=[jb 20 3 2,jc 21 20,jb 22 3 3,jc 23 22,jq 24 121 21 23,ja 4 24]
abbrev QGX:IL:=[js 26 17 12,ja 25 26]
abbrev QGY:IL:=[jb 27 4 2,jc 28 27,jb 29 4 3,jc 30 29,jq 31 122 28 30,ja 4 31]
abbrev QGZ:IL:=[js 33 17 10,ja 32 33]
abbrev QG0:IL:=[jb 34 5 2,jc 35 34,jb 36 5 3,jc 37 36,jq 38 123 35 37,ja 5 38]
abbrev Qv3:IL:=[ja 39 5,ya 40 39 0]
abbrev Qv4:IL:=[ja 41 5,ja 4 41]
abbrev Qv5:IL:=[jb 42 6 2,jc 43 42,jb 44 6 3,jc 45 44,jq 46 124 43 45,ja 4 46]
abbrev Qv6:IL:=[je 47 7 2,je 48 7 3,jq 49 125 47 48,ja 4 49]
abbrev r68:RC:=jQ QGR (.seq (jQ QGS (.cond (.t 10) (jQ QGT (.ret)) (.skip))) (.seq (jQ QGU (.block 0 (jQ QGV (.cond (.t 18) (jQ QGW (.ret)) (jQ QGX (.cond (.t 25) (jQ QGY (.ret)) (jQ QGZ (.cond (.t 32) (.seq (jQ QG0 (jQ Qv3 (.cond (.t 40) (jQ Qv4 (.ret)) (.skip)))) (jQ Qv5 (.ret))) (.skip))))))))) (jQ Qv6 (.ret))))
abbrev o68:List RR:=[.tmp 4]
theorem k68:CT 68 50 r68 o68:=ck Tryz.func68 Tryz.ntmps68 (by decide +kernel)
abbrev Qv7:IL:=[jf 2 2 0,jf 3 3 1,jd 4 0]
abbrev Qv8:IL:=[jb 6 0 2,jc 7 6,jb 8 0 3,jc 9 8,jo 10 7 9,ja 5 10]
abbrev Qv9:IL:=[jd 4 (-1)]
abbrev Qwa:IL:=[jb 12 0 2,jc 13 12,jb 14 0 3,jc 15 14,Cg 16 13 15,ja 11 16]
abbrev Qwb:IL:=[jd 4 1]
abbrev Qwc:IL:=[jb 18 0 2,jc 19 18,jr 20 177 19,yb 21 20,ja 17 21]
abbrev Qwd:IL:=[jd 4 0]
abbrev Qwe:IL:=[jb 23 0 2,jc 24 23,jr 25 178 24,ja 26 25,jl 27 2 2 26,jp 28 27 26,jl 29 2 3 26,jp 30 29 26,⟨some 31,.val (.bin .str .lss (.t 28) (.t 30)),(some (26,true))⟩,jj 32 26 31,ja 22 32]
abbrev Qwf:IL:=[jd 4 (-1)]
abbrev Qwg:IL:=[jb 34 0 2,jc 35 34,jr 36 178 35,ja 37 36,jl 38 2 2 37,jp 39 38 37,jl 40 2 3 37,jp 41 40 37,⟨some 42,.val (.bin .str .gtr (.t 39) (.t 41)),(some (37,true))⟩,jj 43 37 42,ja 33 43]
abbrev Qeg:IL:=[jd 4 1]
abbrev Qeh:IL:=[jb 45 0 2,jc 46 45,jr 47 178 46,ja 44 47]
abbrev Qei:IL:=[jd 4 0]
abbrev Qej:IL:=[jy 49 0 2 7 2,jr 50 179 49,jy 51 0 3 7 3,jr 52 179 51,jo 53 50 52,ja 48 53]
abbrev Qek:IL:=[jd 4 (-1)]
abbrev Qel:IL:=[jy 55 0 2 7 2,jr 56 179 55,jy 57 0 3 7 3,jr 58 179 57,Cg 59 56 58,ja 54 59]
abbrev Qem:IL:=[jd 4 1]
abbrev Qen:IL:=[jd 4 0]
abbrev QOU:RC:=jQ Qv7 (.seq (.block 0 (jQ Qv8 (.cond (.t 5) (jQ Qv9 (.ret)) (jQ Qwa (.cond (.t 11) (jQ Qwb (.ret)) (jQ Qwc (.cond (.t 17) (jQ Qwd (.ret)) (jQ Qwe (.cond (.t 22) (jQ Qwf (.ret)) (jQ Qwg (.cond (.t 33) (jQ Qeg (.ret)) (jQ Qeh (.cond (.t 44) (jQ Qei (.ret)) (jD Qej (.cond (.t 48) (jQ Qek (.ret)) (jD Qel (.cond (.t 54) (jQ Qem (.ret)) (.skip)))))))))))))))))) (jQ Qen (.ret)))
abbrev QOV:List RR:=[.tmp 4]
theorem QOW:CT 125 60 QOU QOV:=ck Tryz.func125 Tryz.ntmps125 (by decide +kernel)
abbrev Qwh:IL:=[jf 1 1 0,Ce 2 0]
abbrev Qwi:IL:=[jb 4 0 1,jc 5 4,jr 6 231 5,ja 3 6]
abbrev Qwj:IL:=[jb 7 1 1,jc 8 7,⟨some 9,.val (.bin .num .add (.t 8) (.c (.int .u64 9223372036854775808))),none⟩,ja 2 9]
abbrev Qwk:IL:=[jb 11 0 1,jc 12 11,ya 13 12 6,ja 10 13]
abbrev Qwl:IL:=[jb 14 1 1,jc 15 14,ja 2 15]
abbrev Qwm:IL:=[jb 17 1 1,jc 18 17,jr 19 198 18,js 20 19 0,ja 16 20]
abbrev Qwn:IL:=[Ce 2 18446744073709551615]
abbrev Qwo:IL:=[jb 22 1 1,jc 23 22,⟨some 24,.val (.bin .num .geq (.t 23) (.c (.int .u64 9223372036854775808))),none⟩,ja 21 24]
abbrev Qwp:IL:=[jb 25 1 1,jc 26 25,⟨some 27,.val (.bin .num .sub (.c (.int .u64 18446744073709551615)) (.t 26)),none⟩,ja 2 27]
abbrev Qwq:IL:=[jb 28 1 1,jc 29 28,⟨some 30,.val (.bin .num .add (.t 29) (.c (.int .u64 9223372036854775808))),none⟩,ja 2 30]
abbrev QOX:RC:=jQ Qwh (.seq (.block 0 (jQ Qwi (.cond (.t 3) (jQ Qwj (.ret)) (jQ Qwk (.cond (.t 10) (jQ Qwl (.ret)) (jQ Qwm (.cond (.t 16) (jQ Qwn (.ret)) (jQ Qwo (.cond (.t 21) (jQ Qwp (.ret)) (.skip)))))))))) (jQ Qwq (.ret)))
abbrev QOY:List RR:=[.tmp 2]
theorem QOZ:CT 179 31 QOX QOY:=ck Tryz.func179 Tryz.ntmps179 (by decide +kernel)
abbrev Qwr:IL:=[jd 2 0]
abbrev Qws:IL:=[ja 4 0,⟨some 5,.val (.bin .num .rem (.t 4) (.c (.int .u64 9223372036854775808))),none⟩,ja 3 5]
abbrev Qwt:IL:=[ja 7 3,⟨some 8,.val (.bin .num .gtr (.t 7) (.c (.int .u64 9218868437227405312))),none⟩,ja 6 8]
abbrev Qwu:IL:=[jd 2 0]
abbrev Qwv:IL:=[ja 10 3,FN 11 10 9218868437227405312,ja 9 11]
abbrev Qww:IL:=[jd 2 1]
abbrev Qwx:IL:=[ja 13 3,FN 14 13 0,ja 12 14]
abbrev Qwy:IL:=[jd 2 2]
abbrev Qwz:IL:=[ja 16 3,⟨some 17,.val (.bin .num .lss (.t 16) (.c (.int .u64 4503599627370496))),none⟩,ja 15 17]
abbrev QwA:IL:=[jd 2 3]
abbrev Qeo:IL:=[jd 2 4]
abbrev QO0:RC:=jQ Qwr (jQ Qws (.seq (.block 0 (jQ Qwt (.cond (.t 6) (jQ Qwu (.ret)) (jQ Qwv (.cond (.t 9) (jQ Qww (.ret)) (jQ Qwx (.cond (.t 12) (jQ Qwy (.ret)) (jQ Qwz (.cond (.t 15) (jQ QwA (.ret)) (.skip)))))))))) (jQ Qeo (.ret))))
abbrev QO1:List RR:=[.tmp 2]
theorem QwB:CT 198 18 QO0 QO1:=ck Tryz.func198 Tryz.ntmps198 (by decide +kernel)
abbrev QwC:IL:=[jg 2]
abbrev QwD:IL:=[ja 3 0,js 4 3 2,ja 5 4,jw 6 0 5,zf 7 6 3 5,jt 8 5 7,ja 2 8]
abbrev QO2:RC:=jQ QwC (jQ QwD (.ret))
abbrev QO3:List RR:=[.tmp 2]
theorem QO4:CT 231 9 QO2 QO3:=ck Tryz.func231 Tryz.ntmps231 (by decide +kernel)
abbrev QwE:IL:=[jg 2]
abbrev QwF:IL:=[ja 3 0,js 4 3 7,ja 5 4,jw 6 0 5,zf 7 6 8 5,jt 8 5 7,ja 2 8]
abbrev QO5:RC:=jQ QwE (jQ QwF (.ret))
abbrev QO6:List RR:=[.tmp 2]
theorem QO7:CT 178 9 QO5 QO6:=ck Tryz.func178 Tryz.ntmps178 (by decide +kernel)
abbrev QwG:IL:=[jg 2]
abbrev QwH:IL:=[ja 3 0,yj 4 3 1,ja 5 4,jk 6 0 5,ym 7 6 9 5,jj 8 5 7,ja 2 8]
abbrev QO8:RC:=jQ QwG (jQ QwH (.ret))
abbrev QO9:List RR:=[.tmp 2]
theorem QPa:CT 177 9 QO8 QO9:=ck Tryz.func177 Tryz.ntmps177 (by decide +kernel)
abbrev QwI:IL:=[jd 4 0]
abbrev QwJ:IL:=[jd 5 0]
abbrev QwK:IL:=[ja 7 5,ja 8 0,jh 9 1 8,jo 10 7 9,ja 11 10,jk 12 5 11,jk 13 1 11,yc 14 1 13 11,B9 15 12 14 11,jj 16 11 15]
abbrev QwL:IL:=[ja 19 0,ja 20 5,jm 21 4 19 20,yp 22 4 21,ja 23 1,ja 24 5,jm 25 4 23 24,yp 26 4 25,jq 27 176 22 26,ja 6 27]
abbrev QwM:IL:=[ja 28 6,ya 29 28 0]
abbrev QwN:IL:=[ja 30 6,ja 4 30]
abbrev QwO:IL:=[ja 17 5,jn 18 17 1,ja 5 18]
abbrev QwP:RC:=.seq (jQ QwK (jX 16 0)) (.seq (.block 1 (jD QwL (jQ QwM (.cond (.t 29) (jQ QwN (.ret)) (.skip))))) (.reg QwO))
abbrev QwQ:IL:=[ja 31 0,jh 32 1 31,ja 33 1,jh 34 1 33,jq 35 120 32 34,ja 4 35]
abbrev QPb:RC:=jQ QwI (.seq (jQ QwJ (.block 0 (.loop QwP))) (jQ QwQ (.ret)))
abbrev QPc:List RR:=[.tmp 4]
theorem QPd:CT 124 36 QPb QPc:=ck Tryz.func124 Tryz.ntmps124 (by decide +kernel)
abbrev QwR:IL:=[jd 4 0]
abbrev QwS:IL:=[ja 5 0,ja 6 1,jo 7 5 6]
abbrev QwT:IL:=[jd 4 (-1)]
abbrev QwU:IL:=[ja 8 0,ja 9 1,Cg 10 8 9]
abbrev QwV:IL:=[jd 4 1]
abbrev QwW:IL:=[jd 4 0]
abbrev QPe:RC:=jQ QwR (.seq (jQ QwS (.cond (.t 7) (jQ QwT (.ret)) (.skip))) (.seq (jQ QwU (.cond (.t 10) (jQ QwV (.ret)) (.skip))) (jQ QwW (.ret))))
abbrev QPf:List RR:=[.tmp 4]
theorem QPg:CT 120 11 QPe QPf:=ck Tryz.func120 Tryz.ntmps120 (by decide +kernel)
abbrev QwX:IL:=[jf 2 2 0,jf 3 3 1,jd 4 0]
abbrev QwY:IL:=[jb 6 0 2,jc 7 6,jb 8 0 3,jc 9 8,zo 10 7 9,ja 5 10]
abbrev QwZ:IL:=[jb 11 0 2,jc 12 11,jb 13 0 3,jc 14 13,jq 15 120 12 14,ja 4 15]
abbrev Qw0:IL:=[jb 17 1 2,jc 18 17,jb 19 1 3,jc 20 19,zo 21 18 20,ja 16 21]
abbrev Qw1:IL:=[jb 22 1 2,jc 23 22,jb 24 1 3,jc 25 24,jq 26 120 23 25,ja 4 26]
abbrev Qw2:IL:=[jb 28 2 2,jc 29 28,jb 30 2 3,jc 31 30,jo 32 29 31,ja 27 32]
abbrev Qw3:IL:=[jd 4 (-1)]
abbrev Qw4:IL:=[jb 34 2 2,jc 35 34,jb 36 2 3,jc 37 36,Cg 38 35 37,ja 33 38]
abbrev Qw5:IL:=[jd 4 1]
abbrev Qw6:IL:=[jb 40 3 2,jc 41 40,jb 42 3 3,jc 43 42,⟨some 44,.val (.bin .str .lss (.t 41) (.t 43)),none⟩,ja 39 44]
abbrev Qep:IL:=[jd 4 (-1)]
abbrev Qeq:IL:=[jb 46 3 2,jc 47 46,jb 48 3 3,jc 49 48,⟨some 50,.val (.bin .str .gtr (.t 47) (.t 49)),none⟩,ja 45 50]
abbrev Qer:IL:=[jd 4 1]
abbrev Qes:IL:=[jd 4 0]
abbrev QPh:RC:=jQ QwX (.seq (.block 0 (jQ QwY (.cond (.t 5) (jQ QwZ (.ret)) (jQ Qw0 (.cond (.t 16) (jQ Qw1 (.ret)) (jQ Qw2 (.cond (.t 27) (jQ Qw3 (.ret)) (jQ Qw4 (.cond (.t 33) (jQ Qw5 (.ret)) (jQ Qw6 (.cond (.t 39) (jQ Qep (.ret)) (jQ Qeq (.cond (.t 45) (jQ Qer (.ret)) (.skip)))))))))))))) (jQ Qes (.ret)))
abbrev QPi:List RR:=[.tmp 4]
theorem QPj:CT 176 51 QPh QPi:=ck Tryz.func176 Tryz.ntmps176 (by decide +kernel)
abbrev Qw7:IL:=[jd 4 0]
abbrev Qw8:IL:=[jd 5 0]
abbrev Qw9:IL:=[ja 8 5,ja 9 0,jh 10 1 9,jo 11 8 10,ja 12 11,jk 13 5 12,jk 14 1 12,yc 15 1 14 12,B9 16 13 15 12,jj 17 12 16]
abbrev Qxa:IL:=[ja 20 0,ja 21 5,jm 22 8 20 21,jb 23 0 22,zl 24 23,ja 25 1,ja 26 5,jm 27 8 25 26,jb 28 0 27,zl 29 28,jq 30 120 24 29,ja 6 30]
abbrev Qxb:IL:=[ja 31 6,ya 32 31 0]
abbrev Qxc:IL:=[ja 33 6,ja 4 33]
abbrev Qxd:IL:=[ja 34 0,ja 35 5,jm 36 8 34 35,jb 37 1 36,yp 38 7 37,ja 39 1,ja 40 5,jm 41 8 39 40,jb 42 1 41,yp 43 7 42,jq 44 68 38 43,ja 7 44]
abbrev Qxe:IL:=[ja 45 7,ya 46 45 0]
abbrev Qxf:IL:=[ja 47 7,ja 4 47]
abbrev Qxg:IL:=[ja 18 5,jn 19 18 1,ja 5 19]
abbrev Qxh:RC:=.seq (jQ Qw9 (jX 17 0)) (.seq (.block 1 (.seq (jD Qxa (jQ Qxb (.cond (.t 32) (jQ Qxc (.ret)) (.skip)))) (jD Qxd (jQ Qxe (.cond (.t 46) (jQ Qxf (.ret)) (.skip)))))) (.reg Qxg))
abbrev Qet:IL:=[ja 48 0,jh 49 1 48,ja 50 1,jh 51 1 50,jq 52 120 49 51,ja 4 52]
abbrev QPk:RC:=jQ Qw7 (.seq (jQ Qw8 (.block 0 (.loop Qxh))) (jQ Qet (.ret)))
abbrev QPl:List RR:=[.tmp 4]
theorem QPm:CT 123 53 QPk QPl:=ck Tryz.func123 Tryz.ntmps123 (by decide +kernel)
abbrev Qxi:IL:=[jd 4 0]
abbrev Qxj:IL:=[jd 5 0]
abbrev Qxk:IL:=[ja 8 5,ja 9 0,jh 10 1 9,jo 11 8 10,ja 12 11,jk 13 5 12,jk 14 1 12,yc 15 1 14 12,B9 16 13 15 12,jj 17 12 16]
abbrev Qxl:IL:=[ja 20 0,ja 21 5,jm 22 14 20 21,jb 23 0 22,yp 24 7 23,ja 25 1,ja 26 5,jm 27 14 25 26,jb 28 0 27,yp 29 7 28,jq 30 68 24 29,ja 6 30]
abbrev Qxm:IL:=[ja 31 6,ya 32 31 0]
abbrev Qxn:IL:=[ja 33 6,ja 4 33]
abbrev Qxo:IL:=[ja 34 0,ja 35 5,jm 36 14 34 35,jb 37 7 36,yp 38 7 37,ja 39 1,ja 40 5,jm 41 14 39 40,jb 42 7 41,yp 43 7 42,jq 44 68 38 43,ja 7 44]
abbrev Qxp:IL:=[ja 45 7,ya 46 45 0]
abbrev Qxq:IL:=[ja 47 7,ja 4 47]
abbrev Qxr:IL:=[ja 18 5,jn 19 18 1,ja 5 19]
abbrev Qxs:RC:=.seq (jQ Qxk (jX 17 0)) (.seq (.block 1 (.seq (jD Qxl (jQ Qxm (.cond (.t 32) (jQ Qxn (.ret)) (.skip)))) (jD Qxo (jQ Qxp (.cond (.t 46) (jQ Qxq (.ret)) (.skip)))))) (.reg Qxr))
abbrev Qeu:IL:=[ja 48 0,jh 49 1 48,ja 50 1,jh 51 1 50,jq 52 120 49 51,ja 4 52]
abbrev QPn:RC:=jQ Qxi (.seq (jQ Qxj (.block 0 (.loop Qxs))) (jQ Qeu (.ret)))
abbrev QPo:List RR:=[.tmp 4]
theorem QPp:CT 122 53 QPn QPo:=ck Tryz.func122 Tryz.ntmps122 (by decide +kernel)
abbrev Qxt:IL:=[jd 4 0]
abbrev Qxu:IL:=[jd 5 0]
abbrev Qxv:IL:=[ja 7 5,ja 8 0,jh 9 1 8,jo 10 7 9,ja 11 10,jk 12 5 11,jk 13 1 11,yc 14 1 13 11,B9 15 12 14 11,jj 16 11 15]
abbrev Qxw:IL:=[ja 19 0,ja 20 5,jm 21 7 19 20,yp 22 7 21,ja 23 1,ja 24 5,jm 25 7 23 24,yp 26 7 25,jq 27 68 22 26,ja 6 27]
abbrev Qxx:IL:=[ja 28 6,ya 29 28 0]
abbrev Qxy:IL:=[ja 30 6,ja 4 30]
abbrev Qxz:IL:=[ja 17 5,jn 18 17 1,ja 5 18]
abbrev QxA:RC:=.seq (jQ Qxv (jX 16 0)) (.seq (.block 1 (jD Qxw (jQ Qxx (.cond (.t 29) (jQ Qxy (.ret)) (.skip))))) (.reg Qxz))
abbrev QxB:IL:=[ja 31 0,jh 32 1 31,ja 33 1,jh 34 1 33,jq 35 120 32 34,ja 4 35]
abbrev QPq:RC:=jQ Qxt (.seq (jQ Qxu (.block 0 (.loop QxA))) (jQ QxB (.ret)))
abbrev QPr:List RR:=[.tmp 4]
theorem QPs:CT 121 36 QPq QPr:=ck Tryz.func121 Tryz.ntmps121 (by decide +kernel)
abbrev QG1:IL:=[jf 3 3 0,jf 5 5 2,yi 6 6]
abbrev QG2:IL:=[je 17 3 3,ja 18 1,jq 19 22 17 18,ja 16 19,jv 20 16 0,jv 21 16 1,zb 7 7,ji 5 7 20,ja 8 21]
abbrev QG3:IL:=[jb 22 6 5,jc 23 22,Cc 24 28 23,⟨some 25,.val (.build [.int .i64 0,.int .u64 0,.str [],.nils,.nils,.nils,.nils] [(0,1,(.c (.int .i64 10))),(6,1,(.t 24))]),none⟩,yi 9 9,ji 7 9 25]
abbrev QG4:IL:=[jb 26 5 5,jc 27 26,jr 28 29 27,jh 29 1 28,jd 30 0]
abbrev QG5:IL:=[jo 31 30 29]
abbrev QG6:IL:=[jm 32 8 28 30,je 33 8 32,B3 11 11,ji 8 11 33]
abbrev QG7:IL:=[je 35 5 7,jb 36 0 11,jc 37 36,jq 38 36 35 37,ja 34 38,jv 39 34 0,jv 40 34 1,yx 12 12,ji 16 12 39,ja 13 40]
abbrev QG8:IL:=[je 42 3 3,je 43 16 12,jb 44 1 11,je 45 7 44,yr 46 37 42 43 45,ja 41 46,jv 47 41 0,jv 48 41 1,yi 14 14,ji 7 14 47,ja 15 48]
abbrev QG9:IL:=[ja 49 15]
abbrev QHa:IL:=[jb 50 5 9,jc 51 50,jb 52 0 11,jc 53 52,je 54 7 14,⟨some 55,.val (.build [.int .i64 0,.int .i64 0,.int .u64 0,.str [],.nils,.nils,.nils,.nils] [(0,1,(.t 53)),(1,7,(.t 54))]),none⟩,⟨some 56,.bsl 8 1 [.int .i64 0,.int .i64 0,.int .u64 0,.str [],.nils,.nils,.nils,.nils] [(0,8,(.t 55))],none⟩,yf 57 8 136 88 51 56,jb 58 5 9,ji 1 58 57]
abbrev QxC:IL:=[jn 59 30 1,ja 30 59]
abbrev QHb:RC:=.gho (.drop 14) (.gho (.drop 12) (.gho (.drop 11) (jQ QG5 (.seq (jX 31 0) (.seq (.block 1 (jQ QG6 (jQ QG7 (jQ QG8 (jQ QG9 (.cond (.t 49) (.reg QHa) (.skip))))))) (.reg QxC))))))
abbrev QxD:IL:=[jb 60 6 9,jc 61 60,⟨some 62,.callF (.f 33) [(.t 61),(.f 38)],none⟩]
abbrev QxE:IL:=[je 63 7 9,ji 7 6 63]
abbrev WL:RC:=jQ QG1 (jQ QG2 (jQ QG3 (.gho (.vecc 9 5 1100 8) (.seq (jQ QG4 (.block 0 (.loop QHb))) (jQ QxD (jQ QxE (.ret)))))))
abbrev o14:List RR:=[.cell 6 (some 7)]
theorem k14:CT 14 64 WL o14:=ck Tryz.func14 Tryz.ntmps14 (by decide +kernel)
abbrev QHc:IL:=[jf 2 2 0,jf 3 3 1,jd 4 0]
abbrev QHd:IL:=[jb 5 0 2,jc 6 5,jb 7 0 3,jc 8 7,jq 9 35 6 8,ja 4 9]
abbrev r38:RC:=jQ QHc (jQ QHd (.ret))
abbrev o38:List RR:=[.tmp 4]
theorem k38:CT 38 10 r38 o38:=ck Tryz.func38 Tryz.ntmps38 (by decide +kernel)
abbrev QHe:IL:=[jf 3 3 0,jf 4 4 1,jf 5 5 2,yi 6 6,jg 7]
abbrev QHf:IL:=[jb 14 2 4,jc 15 14]
abbrev QHg:IL:=[js 17 15 4,ja 16 17]
abbrev QHh:IL:=[⟨some 18,.val (.build [.int .i64 0,.int .u64 0,.str [],.nils,.nils,.nils,.nils] [(0,1,(.c (.int .i64 11)))]),none⟩,yi 8 8,ji 7 8 18]
abbrev QHi:IL:=[jb 19 3 5,jc 20 19,jh 21 1 20,jd 22 0]
abbrev QHj:IL:=[jo 23 22 21]
abbrev QHk:IL:=[jm 24 7 20 22,je 25 7 24,yi 10 10,ji 7 10 25]
abbrev QHl:IL:=[jb 26 3 8,jx 27 0 8 26,jy 28 0 3 3 3,jb 29 4 4,jy 30 0 4 2 29,jy 31 0 10 7 10,yr 32 82 28 30 31,⟨some 33,.bsl 7 1 [.int .i64 0,.int .u64 0,.str [],.nils,.nils,.nils,.nils] [(0,7,(.t 32))],none⟩,yf 34 7 128 33 27 33,jb 35 3 8,za 0 8 1 35 34]
abbrev QHm:IL:=[jn 36 22 1,ja 22 36]
abbrev QHn:RC:=.gho (.drop 10) (jQ QHj (.seq (jX 23 1) (.seq (.block 2 (jQ QHk (.draw QHl))) (.reg QHm))))
abbrev QHo:IL:=[jy 37 0 8 7 8,jb 38 3 8,jx 39 0 8 38,jh 40 1 39,yl 41 40 0,za 0 6 7 6 37,ja 7 41]
abbrev QxF:IL:=[js 43 15 5,ja 42 43]
abbrev QxG:IL:=[⟨some 44,.val (.build [.int .i64 0,.int .u64 0,.str [],.nils,.nils,.nils,.nils] [(0,1,(.c (.int .i64 12)))]),none⟩,yi 11 11,ji 7 11 44]
abbrev QxH:IL:=[jb 45 4 5,jc 46 45,jr 47 75 46,jh 48 1 47,jd 49 0]
abbrev QxI:IL:=[jo 50 49 48]
abbrev QxJ:IL:=[jm 51 14 47 49,je 52 14 51,FI 13 13,ji 14 13 52]
abbrev QxK:IL:=[jb 53 4 11,jx 54 0 11 53,jb 55 0 13,jy 56 0 13 7 55,jr 57 76 56,jy 58 0 3 3 3,jb 59 4 4,jy 60 0 4 2 59,jb 61 7 13,jy 62 0 13 7 61,yr 63 82 58 60 62,⟨some 64,.val (.build [.int .i64 0,.int .u64 0,.str [],.nils,.nils,.nils,.nils,.int .i64 0,.int .u64 0,.str [],.nils,.nils,.nils,.nils] [(0,7,(.t 57)),(7,7,(.t 63))]),none⟩,⟨some 65,.bsl 14 1 [.int .i64 0,.int .u64 0,.str [],.nils,.nils,.nils,.nils,.int .i64 0,.int .u64 0,.str [],.nils,.nils,.nils,.nils] [(0,14,(.t 64))],none⟩,yf 66 14 256 100 54 65,jb 67 4 11,za 0 11 1 67 66]
abbrev QxL:IL:=[jn 68 49 1,ja 49 68]
abbrev QHp:RC:=.gho (.drop 13) (jQ QxI (.seq (jX 50 3) (.seq (.block 4 (jQ QxJ (.draw QxK))) (.reg QxL))))
abbrev QxM:IL:=[jy 69 0 11 7 11,jb 70 4 11,jx 71 0 11 70,jh 72 1 71,yl 73 72 0,za 0 6 7 6 69,ja 7 73]
abbrev QxN:IL:=[jy 74 0 3 3 3,jb 75 4 4,jy 76 0 4 2 75,jy 77 0 5 7 5,yr 78 82 74 76 77,jb 79 2 4,jx 80 0 4 79,ya 81 80 3,ja 82 81,zw 83 0 5 7 5 82,yq 84 77 83 82,zh 85 84 82,jt 86 82 85,za 0 6 7 6 78,ja 7 86]
abbrev r37:RC:=jQ QHe (.seq (jQ QHf (.block 0 (jQ QHg (.cond (.t 16) (jQ QHh (.gho (.vecc 8 3 1100 7) (.seq (jQ QHi (.block 1 (.loop QHn))) (jD QHo (.ret))))) (jQ QxF (.cond (.t 42) (jQ QxG (.gho (.vecc 11 4 1101 14) (.seq (jQ QxH (.block 3 (.loop QHp))) (jD QxM (.ret))))) (.skip))))))) (jD QxN (.ret)))
abbrev o37:List RR:=[.cell 6 (some 7),.tmp 7]
theorem k37:CT 37 87 r37 o37:=ck Tryz.func37 Tryz.ntmps37 (by decide +kernel)
abbrev QHq:IL:=[jf 1 1 0,jg 2]
abbrev QHr:IL:=[jb 3 0 1,jc 4 3,jr 5 134 4,ja 6 5,zm 7 7 1 6,zy 8 135 7 6,jj 9 6 8,ja 10 9,jl 11 1 1 10,jp 12 11 10,⟨some 13,.val (.bin .num .eql (.t 12) (.c (.int .u64 0))),(some (10,true))⟩,jj 14 10 13,ja 15 14,jl 16 2 1 15,jp 17 16 15,⟨some 18,.val (.bin .str .eql (.t 17) (.c (.str []))),(some (15,true))⟩,jj 19 15 18,ja 2 19]
abbrev r77:RC:=jQ QHq (jQ QHr (.ret))
abbrev o77:List RR:=[.tmp 2]
theorem k77:CT 77 20 r77 o77:=ck Tryz.func77 Tryz.ntmps77 (by decide +kernel)
abbrev QHs:IL:=[jf 3 3 0,jf 4 4 1,jf 5 5 2,yi 6 6]
abbrev QHt:IL:=[jb 7 0 4,jc 8 7,js 9 8 10]
abbrev QHu:IL:=[je 10 3 3,jb 11 1 4,jc 12 11,je 13 7 5,yr 14 14 10 12 13,ji 7 6 14]
abbrev QHv:IL:=[je 15 7 5,jr 16 76 15,ji 7 6 16]
abbrev r82:RC:=jQ QHs (.seq (jQ QHt (.cond (.t 9) (jQ QHu (.ret)) (.skip))) (jQ QHv (.ret)))
abbrev o82:List RR:=[.cell 6 (some 7)]
theorem k82:CT 82 17 r82 o82:=ck Tryz.func82 Tryz.ntmps82 (by decide +kernel)
abbrev QHw:IL:=[yd 2]
abbrev QHx:IL:=[ja 7 0,Cc 8 128 7,ja 3 8]
abbrev QHy:IL:=[ja 9 3,⟨some 10,.callF (.f 129) [(.t 9),(.f 130)],none⟩]
abbrev QHz:IL:=[yd 4]
abbrev QHA:IL:=[ja 11 3,jh 12 1 11,jd 13 0]
abbrev QHB:IL:=[jo 14 13 12]
abbrev QHC:IL:=[ja 15 13,jm 16 14 11 13,je 17 14 16,FI 6 6,ja 5 15,ji 14 6 17]
abbrev QHD:IL:=[ja 18 5,jn 19 18 1,ja 20 3,jh 21 1 20,ze 22 19 21,ja 23 22,ju 24 0 6 23,zw 25 0 6 7 24 23,jw 26 3 23,jw 27 5 23,⟨some 28,.val (.bin .num .add (.t 27) (.c (.int .i64 1))),(some (23,false))⟩,zv 29 14 26 28 23,ju 30 0 29 23,⟨some 31,.val (.loadr (some 7) (.t 30)),(some (23,false))⟩,HA 32 132 25 31 23,zh 33 32 23,jt 34 23 33]
abbrev QHE:IL:=[ja 35 4,je 36 14 6,⟨some 37,.bsl 14 1 [.int .i64 0,.int .u64 0,.str [],.nils,.nils,.nils,.nils,.int .i64 0,.int .u64 0,.str [],.nils,.nils,.nils,.nils] [(0,14,(.t 36))],none⟩,yf 38 14 256 100 35 37,ja 4 38]
abbrev QHF:IL:=[jn 39 13 1,ja 13 39]
abbrev QHG:RC:=.gho (.drop 6) (jQ QHB (.seq (jX 14 0) (.seq (.block 1 (jQ QHC (jD QHD (.cond (.t 34) (.reg QHE) (.skip))))) (.reg QHF))))
abbrev QxO:IL:=[ja 40 4,ja 2 40]
abbrev r75:RC:=jQ QHw (jQ QHx (jQ QHy (jQ QHz (.gho (.vec 4 4 14) (.seq (jQ QHA (.block 0 (.loop QHG))) (jQ QxO (.ret)))))))
abbrev o75:List RR:=[.tmp 2]
theorem k75:CT 75 41 r75 o75:=ck Tryz.func75 Tryz.ntmps75 (by decide +kernel)
abbrev QxP:IL:=[jf 2 2 0,jf 3 3 1,jd 4 0]
abbrev QxQ:IL:=[jb 5 0 2,je 6 7 5,jb 7 0 3,je 8 7 7,jq 9 131 6 8,ja 4 9]
abbrev QPt:RC:=jQ QxP (jQ QxQ (.ret))
abbrev QPu:List RR:=[.tmp 4]
theorem QPv:CT 130 10 QPt QPu:=ck Tryz.func130 Tryz.ntmps130 (by decide +kernel)
def Tb:IL:=[yd 2]
def Tc:IL:=[ja 3 0,Cd 4 3]
def Td:IL:=[yd 2]
def Te:IL:=[⟨some 5,.bsl0 5 14,none⟩,ja 6 0,yf 7 14 256 100 5 6,ja 2 7]
def QxR:RC:=jQ Tb (.seq (jQ Tc (.cond (.t 4) (jQ Td (.gho (.vec 2 2 14) (.gho (.give 2 2 1 1000) (.ret)))) (.skip))) (jQ Te (.gho (.give 2 5 1 1000) (.ret))))
def EN:List RR:=[.tmp 2]
theorem QPw:CT 128 8 QxR EN:=ck Tryz.func128 Tryz.ntmps128 (by decide +kernel)
abbrev QHH:IL:=[jf 2 2 0,jf 3 3 1,yx 4 4,jg 5]
abbrev QHI:IL:=[jb 6 1 2,jc 7 6,yz 8 81 3,yh 9 80 7 8,jv 10 9 0,jv 11 9 1,ji 16 4 10,ja 5 11]
abbrev r36:RC:=jQ QHH (jQ QHI (.ret))
abbrev o36:List RR:=[.cell 4 (some 16),.tmp 5]
theorem k36:CT 36 12 r36 o36:=ck Tryz.func36 Tryz.ntmps36 (by decide +kernel)
abbrev QHJ:IL:=[yx 4 4,jg 5]
abbrev QHK:IL:=[ja 9 0,jh 10 1 9,jd 11 0]
abbrev QHL:IL:=[jo 12 11 10]
abbrev QHM:IL:=[jm 13 16 9 11,je 14 16 13,yx 7 7,ji 16 7 14]
abbrev QHN:IL:=[ja 15 1,je 16 16 7,zi 17 15 16]
abbrev QHO:IL:=[je 18 16 7,ji 16 4 18,yg 5]
abbrev QHP:IL:=[jn 19 11 1,ja 11 19]
abbrev QHQ:RC:=.gho (.drop 7) (jQ QHL (.seq (jX 12 0) (.seq (.block 1 (jQ QHM (jQ QHN (.cond (.t 17) (jQ QHO (.ret)) (.skip))))) (.reg QHP))))
abbrev QHR:IL:=[yx 8 8]
abbrev QHS:IL:=[je 20 16 8,ji 16 4 20,jg 5]
abbrev r80:RC:=jQ QHJ (.seq (jQ QHK (.block 0 (.loop QHQ))) (jQ QHR (jQ QHS (.ret))))
abbrev o80:List RR:=[.cell 4 (some 16),.tmp 5]
theorem k80:CT 80 21 r80 o80:=ck Tryz.func80 Tryz.ntmps80 (by decide +kernel)
abbrev QHT:IL:=[jf 2 2 0,jg 3]
abbrev QHU:IL:=[jb 4 0 2,jc 5 4,jc 6 1,ze 7 5 6,ja 3 7]
abbrev r81:RC:=jQ QHT (jQ QHU (.ret))
abbrev o81:List RR:=[.tmp 3]
theorem k81:CT 81 8 r81 o81:=ck Tryz.func81 Tryz.ntmps81 (by decide +kernel)
abbrev QHV:IL:=[yd 2]
abbrev QHW:IL:=[ja 7 0,Cc 8 69 7,ja 3 8]
abbrev QHX:IL:=[ja 9 3,⟨some 10,.callF (.f 70) [(.t 9),(.f 71)],none⟩]
abbrev QHY:IL:=[yd 4]
abbrev QHZ:IL:=[ja 11 3,jh 12 1 11,jd 13 0]
abbrev QH0:IL:=[jo 14 13 12]
abbrev QH1:IL:=[ja 15 13,jm 16 8 11 13,je 17 8 16,B3 6 6,ja 5 15,ji 8 6 17]
abbrev QH2:IL:=[ja 18 5,jn 19 18 1,ja 20 3,jh 21 1 20,ze 22 19 21,ja 23 22,ju 24 0 6 23,yw 25 0 6 24 23,jw 26 3 23,jw 27 5 23,⟨some 28,.val (.bin .num .add (.t 27) (.c (.int .i64 1))),(some (23,false))⟩,zv 29 8 26 28 23,ju 30 0 29 23,HB 31 30 23,⟨some 32,.val (.bin .num .neq (.t 25) (.t 31)),(some (23,false))⟩,jt 33 23 32]
abbrev QH3:IL:=[ja 34 4,je 35 8 6,⟨some 36,.bsl 8 1 [.int .i64 0,.int .i64 0,.int .u64 0,.str [],.nils,.nils,.nils,.nils] [(0,8,(.t 35))],none⟩,yf 37 8 136 88 34 36,ja 4 37]
abbrev QH4:IL:=[jn 38 13 1,ja 13 38]
abbrev QH5:RC:=.gho (.drop 6) (jQ QH0 (.seq (jX 14 0) (.seq (.block 1 (jQ QH1 (jD QH2 (.cond (.t 33) (.reg QH3) (.skip))))) (.reg QH4))))
abbrev QxS:IL:=[ja 39 4,ja 2 39]
abbrev r29:RC:=jQ QHV (jQ QHW (jQ QHX (jQ QHY (.gho (.vec 4 4 8) (.seq (jQ QHZ (.block 0 (.loop QH5))) (jQ QxS (.ret)))))))
abbrev o29:List RR:=[.tmp 2]
theorem k29:CT 29 40 r29 o29:=ck Tryz.func29 Tryz.ntmps29 (by decide +kernel)
abbrev QH6:IL:=[jf 2 2 0,jf 3 3 1,jd 4 0]
abbrev QH7:IL:=[jb 5 0 2,jc 6 5,jb 7 0 3,jc 8 7,jq 9 35 6 8,ja 4 9]
abbrev r71:RC:=jQ QH6 (jQ QH7 (.ret))
abbrev o71:List RR:=[.tmp 4]
theorem k71:CT 71 10 r71 o71:=ck Tryz.func71 Tryz.ntmps71 (by decide +kernel)
def LF:IL:=[yd 2]
def LG:IL:=[ja 3 0,Cd 4 3]
def LH:IL:=[yd 2]
def LI:IL:=[⟨some 5,.bsl0 5 8,none⟩,ja 6 0,yf 7 8 136 88 5 6,ja 2 7]
def r69:RC:=jQ LF (.seq (jQ LG (.cond (.t 4) (jQ LH (.gho (.vec 2 2 8) (.gho (.give 2 2 1 1000) (.ret)))) (.skip))) (jQ LI (.gho (.give 2 5 1 1000) (.ret))))
def o69:List RR:=[.tmp 2]
theorem k69:CT 69 8 r69 o69:=ck Tryz.func69 Tryz.ntmps69 (by decide +kernel)
def LJ:IL:=[yd 2]
def LK:IL:=[ja 3 0,Cd 4 3]
def LL:IL:=[yd 2]
def LM:IL:=[⟨some 5,.bsl0 5 4,none⟩,ja 6 0,yf 7 4 40 85 5 6,ja 2 7]
def r28:RC:=jQ LJ (.seq (jQ LK (.cond (.t 4) (jQ LL (.gho (.vec 2 2 4) (.gho (.give 2 2 1 1000) (.ret)))) (.skip))) (jQ LM (.gho (.give 2 5 1 1000) (.ret))))
def o28:List RR:=[.tmp 2]
theorem k28:CT 28 8 r28 o28:=ck Tryz.func28 Tryz.ntmps28 (by decide +kernel)
abbrev QH8:IL:=[jf 2 2 0,jf 3 3 1,zb 4 4,jg 5]
abbrev QH9:IL:=[jb 6 0 2,jc 7 6,yz 8 55 3,yh 9 54 7 8,jv 10 9 0,jv 11 9 1,ji 5 4 10,ja 5 11]
abbrev r22:RC:=jQ QH8 (jQ QH9 (.ret))
abbrev o22:List RR:=[.cell 4 (some 5),.tmp 5]
theorem k22:CT 22 12 r22 o22:=ck Tryz.func22 Tryz.ntmps22 (by decide +kernel)
abbrev QIa:IL:=[zb 4 4,jg 5]
abbrev QIb:IL:=[ja 9 0,jh 10 1 9,jd 11 0]
abbrev QIc:IL:=[jo 12 11 10]
abbrev QId:IL:=[jm 13 5 9 11,je 14 5 13,zb 7 7,ji 5 7 14]
abbrev QIe:IL:=[ja 15 1,je 16 5 7,zi 17 15 16]
abbrev QIf:IL:=[je 18 5 7,ji 5 4 18,yg 5]
abbrev QIg:IL:=[jn 19 11 1,ja 11 19]
abbrev QIh:RC:=.gho (.drop 7) (jQ QIc (.seq (jX 12 0) (.seq (.block 1 (jQ QId (jQ QIe (.cond (.t 17) (jQ QIf (.ret)) (.skip))))) (.reg QIg))))
abbrev QIi:IL:=[zb 8 8]
abbrev QIj:IL:=[je 20 5 8,ji 5 4 20,jg 5]
abbrev r54:RC:=jQ QIa (.seq (jQ QIb (.block 0 (.loop QIh))) (jQ QIi (jQ QIj (.ret))))
abbrev o54:List RR:=[.cell 4 (some 5),.tmp 5]
theorem k54:CT 54 21 r54 o54:=ck Tryz.func54 Tryz.ntmps54 (by decide +kernel)
abbrev QIk:IL:=[jf 2 2 0,jg 3]
abbrev QIl:IL:=[jb 4 0 2,jc 5 4,jc 6 1,yv 7 5 6,ja 3 7]
abbrev r55:RC:=jQ QIk (jQ QIl (.ret))
abbrev o55:List RR:=[.tmp 3]
theorem k55:CT 55 8 r55 o55:=ck Tryz.func55 Tryz.ntmps55 (by decide +kernel)
abbrev QIm:IL:=[jf 3 3 0,jf 5 5 2,yi 6 6]
abbrev QIn:IL:=[jb 14 6 5,jc 15 14,Cc 16 28 15,⟨some 17,.val (.build [.int .i64 0,.int .u64 0,.str [],.nils,.nils,.nils,.nils] [(0,1,(.c (.int .i64 10))),(6,1,(.t 16))]),none⟩,yi 7 7,ji 7 7 17]
abbrev QIo:IL:=[ja 18 1,yk 19 18 0,ja 20 19,jw 21 1 20,ju 22 0 3 20,jz 23 22 20,zt 24 1 23 20,⟨some 25,.val (.bin .num .geq (.t 21) (.t 24)),(some (20,false))⟩,jt 26 20 25]
abbrev QIp:IL:=[je 27 7 7,ji 7 6 27]
abbrev QIq:IL:=[jb 28 5 5,jc 29 28,jr 30 29 29,jh 31 1 30,jd 32 0]
abbrev QIr:IL:=[jo 33 32 31]
abbrev QIs:IL:=[jm 34 8 30 32,je 35 8 34,B3 9 9,ji 8 9 35]
abbrev QIt:IL:=[jb 37 0 3,jx 38 0 3 37,ja 39 1,jm 40 3 38 39,yp 41 3 40,jb 42 0 9,jx 43 0 9 42,jq 44 30 41 43,ja 36 44,jv 45 36 0,jv 46 36 1,FJ 10 10,za 0 10 8 10 45,ja 11 46]
abbrev QIu:IL:=[jb 47 3 10,jc 48 47,js 49 48 3,ja 50 49,ju 51 3 10 50,jz 52 51 50,zf 53 52 4 50,jt 54 50 53,ja 55 54,ju 56 3 10 55,jz 57 56 55,zf 58 57 5 55,jt 59 55 58,ja 12 59]
abbrev QIv:IL:=[je 60 2 3,je 61 8 10,jb 62 1 9,je 63 7 62,yr 64 31 60 61 63,yi 13 13,ji 7 13 64]
abbrev QxV:IL:=[ja 65 12,yb 66 65,ja 67 66,zj 68 7 13 67,yq 69 32 68 67,zh 70 69 67,jt 71 67 70]
abbrev QxW:IL:=[jb 72 5 7,jc 73 72,jb 74 0 9,jc 75 74,je 76 7 13,⟨some 77,.val (.build [.int .i64 0,.int .i64 0,.int .u64 0,.str [],.nils,.nils,.nils,.nils] [(0,1,(.t 75)),(1,7,(.t 76))]),none⟩,⟨some 78,.bsl 8 1 [.int .i64 0,.int .i64 0,.int .u64 0,.str [],.nils,.nils,.nils,.nils] [(0,8,(.t 77))],none⟩,yf 79 8 136 88 73 78,jb 80 5 7,ji 1 80 79]
abbrev QxX:IL:=[jn 81 32 1,ja 32 81]
abbrev QIw:RC:=.gho (.drop 13) (.gho (.drop 10) (.gho (.drop 9) (jQ QIr (.seq (jX 33 0) (.seq (.block 1 (jQ QIs (jD QIt (jQ QIu (jQ QIv (jQ QxV (.cond (.t 71) (.reg QxW) (.skip)))))))) (.reg QxX))))))
abbrev QxY:IL:=[jb 82 6 7,jc 83 82,⟨some 84,.callF (.f 33) [(.t 83),(.f 34)],none⟩]
abbrev QxZ:IL:=[je 85 7 7,ji 7 6 85]
abbrev LN:RC:=jQ QIm (jQ QIn (.gho (.vecc 7 5 1100 8) (.seq (jQ QIo (.cond (.t 26) (jQ QIp (.ret)) (.skip))) (.seq (jQ QIq (.block 0 (.loop QIw))) (jQ QxY (jQ QxZ (.ret)))))))
abbrev o13:List RR:=[.cell 6 (some 7)]
theorem k13:CT 13 86 LN o13:=ck Tryz.func13 Tryz.ntmps13 (by decide +kernel)
abbrev QIx:IL:=[jf 2 2 0,jf 3 3 1,jd 4 0]
abbrev QIy:IL:=[jb 5 0 2,jc 6 5,jb 7 0 3,jc 8 7,jq 9 35 6 8,ja 4 9]
abbrev r34:RC:=jQ QIx (jQ QIy (.ret))
abbrev o34:List RR:=[.tmp 4]
theorem k34:CT 34 10 r34 o34:=ck Tryz.func34 Tryz.ntmps34 (by decide +kernel)
abbrev QIz:IL:=[jf 1 1 0,jg 2]
abbrev QIA:IL:=[jb 3 0 1,jc 4 3,js 5 4 11,ja 6 5,jl 7 3 1 6,jp 8 7 6,yc 9 1 8 6,yt 10 9 0 6,jj 11 6 10,ja 12 11,ju 13 0 1 12,jz 14 13 12,zf 15 14 12 12,jw 16 15 12,jl 17 4 1 16,jp 18 17 16,yc 19 1 18 16,yt 20 19 0 16,yy 21 16 20 12,jt 22 12 21,ja 23 22,zj 24 7 1 23,yq 25 77 24 23,jt 26 23 25,ja 2 26]
abbrev r32:RC:=jQ QIz (jQ QIA (.ret))
abbrev o32:List RR:=[.tmp 2]
theorem k32:CT 32 27 r32 o32:=ck Tryz.func32 Tryz.ntmps32 (by decide +kernel)
abbrev QIB:IL:=[jf 3 3 0,jf 4 4 1,jf 5 5 2,yi 6 6]
abbrev QIC:IL:=[jb 13 3 4,jc 14 13]
abbrev QID:IL:=[js 16 14 4,ja 15 16]
abbrev QIE:IL:=[⟨some 17,.val (.build [.int .i64 0,.int .u64 0,.str [],.nils,.nils,.nils,.nils] [(0,1,(.c (.int .i64 11)))]),none⟩,yi 7 7,ji 7 7 17]
abbrev QIF:IL:=[jb 18 3 5,jc 19 18,jh 20 1 19,jd 21 0]
abbrev QIG:IL:=[jo 22 21 20]
abbrev QIH:IL:=[jm 23 7 19 21,je 24 7 23,yi 9 9,ji 7 9 24]
abbrev QII:IL:=[jb 25 3 7,jx 26 0 7 25,jy 27 0 3 2 3,jy 28 0 4 8 4,jy 29 0 9 7 9,yr 30 74 27 28 29,⟨some 31,.bsl 7 1 [.int .i64 0,.int .u64 0,.str [],.nils,.nils,.nils,.nils] [(0,7,(.t 30))],none⟩,yf 32 7 128 33 26 31,jb 33 3 7,za 0 7 1 33 32]
abbrev QIJ:IL:=[jn 34 21 1,ja 21 34]
abbrev QIK:RC:=.gho (.drop 9) (jQ QIG (.seq (jX 22 1) (.seq (.block 2 (jQ QIH (.draw QII))) (.reg QIJ))))
abbrev QIL:IL:=[je 35 7 7,ji 7 6 35]
abbrev Qx0:IL:=[js 37 14 5,ja 36 37]
abbrev Qx1:IL:=[⟨some 38,.val (.build [.int .i64 0,.int .u64 0,.str [],.nils,.nils,.nils,.nils] [(0,1,(.c (.int .i64 12)))]),none⟩,yi 10 10,ji 7 10 38]
abbrev Qx2:IL:=[jb 39 4 5,jc 40 39,jr 41 75 40,jh 42 1 41,jd 43 0]
abbrev Qx3:IL:=[jo 44 43 42]
abbrev Qx4:IL:=[jm 45 14 41 43,je 46 14 45,FI 12 12,ji 14 12 46]
abbrev Qx5:IL:=[jb 47 4 10,jx 48 0 10 47,jb 49 0 12,jy 50 0 12 7 49,jr 51 76 50,jy 52 0 3 2 3,jy 53 0 4 8 4,jb 54 7 12,jy 55 0 12 7 54,yr 56 74 52 53 55,⟨some 57,.val (.build [.int .i64 0,.int .u64 0,.str [],.nils,.nils,.nils,.nils,.int .i64 0,.int .u64 0,.str [],.nils,.nils,.nils,.nils] [(0,7,(.t 51)),(7,7,(.t 56))]),none⟩,⟨some 58,.bsl 14 1 [.int .i64 0,.int .u64 0,.str [],.nils,.nils,.nils,.nils,.int .i64 0,.int .u64 0,.str [],.nils,.nils,.nils,.nils] [(0,14,(.t 57))],none⟩,yf 59 14 256 100 48 58,jb 60 4 10,za 0 10 1 60 59]
abbrev Qx6:IL:=[jn 61 43 1,ja 43 61]
abbrev QIM:RC:=.gho (.drop 12) (jQ Qx3 (.seq (jX 44 3) (.seq (.block 4 (jQ Qx4 (.draw Qx5))) (.reg Qx6))))
abbrev Qx7:IL:=[je 62 7 10,ji 7 6 62]
abbrev Qx8:IL:=[je 63 2 3,je 64 8 4,je 65 7 5,yr 66 74 63 64 65,ji 7 6 66]
abbrev r31:RC:=jQ QIB (.seq (jQ QIC (.block 0 (jQ QID (.cond (.t 15) (jQ QIE (.gho (.vecc 7 3 1100 7) (.seq (jQ QIF (.block 1 (.loop QIK))) (jQ QIL (.ret))))) (jQ Qx0 (.cond (.t 36) (jQ Qx1 (.gho (.vecc 10 4 1101 14) (.seq (jQ Qx2 (.block 3 (.loop QIM))) (jQ Qx7 (.ret))))) (.skip))))))) (jQ Qx8 (.ret)))
abbrev o31:List RR:=[.cell 6 (some 7)]
theorem k31:CT 31 67 r31 o31:=ck Tryz.func31 Tryz.ntmps31 (by decide +kernel)
abbrev QIN:IL:=[jf 3 3 0,jf 4 4 1,jf 5 5 2,yi 6 6]
abbrev QIO:IL:=[jb 7 5 4,jc 8 7,js 9 8 10]
abbrev QIP:IL:=[je 10 2 3,jb 11 6 4,jc 12 11,je 13 7 5,yr 14 13 10 12 13,ji 7 6 14]
abbrev QIQ:IL:=[je 15 7 5,jr 16 76 15,ji 7 6 16]
abbrev r74:RC:=jQ QIN (.seq (jQ QIO (.cond (.t 9) (jQ QIP (.ret)) (.skip))) (jQ QIQ (.ret)))
abbrev o74:List RR:=[.cell 6 (some 7)]
theorem k74:CT 74 17 r74 o74:=ck Tryz.func74 Tryz.ntmps74 (by decide +kernel)
abbrev QPx:IL:=[jf 3 3 0,jf 5 5 2,jd 6 0]
abbrev QPy:IL:=[je 11 3 3,ja 12 1,jq 13 22 11 12,ja 10 13,jv 14 10 0,jv 15 10 1,zb 7 7,ji 5 7 14,ja 8 15]
abbrev QPz:IL:=[ja 16 8,yb 17 16]
abbrev QPA:IL:=[jd 6 10]
abbrev QPB:IL:=[je 18 3 3,je 19 5 7,je 20 7 5,⟨some 21,.call (.f 23) [(.t 18),(.t 19),(.t 20),(.c (.int .i64 1))],none⟩,ja 9 21]
abbrev QPC:IL:=[ja 22 9,ya 23 22 0]
abbrev QPD:IL:=[ja 24 9,ja 6 24]
abbrev QPE:IL:=[je 25 7 5,jr 26 24 25,yl 27 26 4096]
abbrev QPF:IL:=[jd 6 3]
abbrev QPG:IL:=[jd 6 0]
abbrev r9:RC:=jQ QPx (jQ QPy (.seq (jQ QPz (.cond (.t 17) (jQ QPA (.ret)) (.skip))) (.seq (jQ QPB (jQ QPC (.cond (.t 23) (jQ QPD (.ret)) (.skip)))) (.seq (jQ QPE (.cond (.t 27) (jQ QPF (.ret)) (.skip))) (jQ QPG (.ret))))))
abbrev o9:List RR:=[.tmp 6]
theorem k9:CT 9 28 r9 o9:=ck Tryz.func9 Tryz.ntmps9 (by decide +kernel)
abbrev QIR:IL:=[jf 4 4 0,jf 5 5 1,jf 6 6 2,jd 8 0]
abbrev QIS:IL:=[jb 17 0 6,jc 18 17,ya 19 18 10,ja 20 19,zj 21 7 6 20,yq 22 56 21 20,jt 23 20 22,ja 16 23]
abbrev QIT:IL:=[jd 8 12]
abbrev QIU:IL:=[ja 25 3,yl 26 25 16,ja 24 26]
abbrev QIV:IL:=[jd 8 17]
abbrev QIW:IL:=[jb 27 5 6,jc 28 27,jh 29 1 28,jd 30 0]
abbrev QIX:IL:=[jo 31 30 29]
abbrev QIY:IL:=[ja 32 30,ja 9 32]
abbrev QIZ:IL:=[je 33 3 4,je 34 5 5,jb 35 5 6,jc 36 35,ja 37 9,ja 38 3,⟨some 39,.call (.f 57) [(.t 33),(.t 34),(.t 36),(.t 37),(.t 38)],none⟩,ja 10 39]
abbrev QI0:IL:=[ja 40 10,ya 41 40 0]
abbrev Qya:IL:=[ja 42 10,ja 8 42]
abbrev Qyb:IL:=[jn 43 30 1,ja 30 43]
abbrev QI1:RC:=jQ QIX (.seq (jX 31 1) (.seq (.block 2 (jQ QIY (jQ QIZ (jQ QI0 (.cond (.t 41) (jQ Qya (.ret)) (.skip)))))) (.reg Qyb)))
abbrev Qyc:IL:=[jb 44 1 5,jc 45 44,jh 46 1 45,jd 47 0]
abbrev Qyd:IL:=[jo 48 47 46]
abbrev Qye:IL:=[jm 49 16 45 47,je 50 16 49,yx 12 12,ji 16 12 50]
abbrev Qyf:IL:=[jb 51 2 12,jc 52 51,js 53 52 1,ja 54 53,jl 55 5 6 54,jp 56 55 54,⟨some 57,.val (.mkfn (.func 59) [] [(.t 12)]),(some (54,true))⟩,⟨some 58,.callF (.f 58) [(.t 56),(.t 57)],(some (54,true))⟩,yn 59 58 54,jj 60 54 59]
abbrev Qyg:IL:=[jd 8 14]
abbrev Qyh:IL:=[jn 61 47 1,ja 47 61]
abbrev QI2:RC:=.gho (.drop 12) (jQ Qyd (.seq (jX 48 3) (.seq (.block 4 (jQ Qye (jQ Qyf (.cond (.t 60) (jQ Qyg (.ret)) (.skip))))) (.reg Qyh))))
abbrev Qyi:IL:=[jb 62 6 6,jc 63 62,jh 64 1 63,jd 65 0]
abbrev Qyj:IL:=[jo 66 65 64]
abbrev Qyk:IL:=[jm 67 4 63 65,je 68 4 67,⟨some 14,.allocN 14 [.int .i64 0,.int .i64 0,.int .u64 0,.str []],none⟩,ji 4 14 68]
abbrev Qyl:IL:=[je 69 3 4,je 70 5 5,je 71 4 14,yr 72 60 69 70 71,ja 15 72]
abbrev Qym:IL:=[ja 73 15,ya 74 73 0]
abbrev Qyn:IL:=[ja 75 15,ja 8 75]
abbrev Qyo:IL:=[jn 76 65 1,ja 65 76]
abbrev QI3:RC:=.gho (.drop 14) (jQ Qyj (.seq (jX 66 5) (.seq (.block 6 (jQ Qyk (jQ Qyl (jQ Qym (.cond (.t 74) (jQ Qyn (.ret)) (.skip)))))) (.reg Qyo))))
abbrev Qyp:IL:=[jd 8 0]
abbrev r23:RC:=jQ QIR (.seq (.block 0 (jQ QIS (.cond (.t 16) (jQ QIT (.ret)) (jQ QIU (.cond (.t 24) (jQ QIV (.ret)) (.skip)))))) (.seq (jQ QIW (.block 1 (.loop QI1))) (.seq (jQ Qyc (.block 3 (.loop QI2))) (.seq (jQ Qyi (.block 5 (.loop QI3))) (jQ Qyp (.ret))))))
abbrev o23:List RR:=[.tmp 8]
theorem k23:CT 23 77 r23 o23:=ck Tryz.func23 Tryz.ntmps23 (by decide +kernel)
abbrev QI4:IL:=[jf 3 3 0,jf 4 4 1,jf 5 5 2,jd 6 0]
abbrev QI5:IL:=[jb 10 1 5,jc 11 10,zu 12 11 2,ja 7 12]
abbrev QI6:IL:=[je 14 5 4,jb 15 0 5,jc 16 15,jq 17 36 14 16,ja 13 17,jv 18 13 0,jv 19 13 1,yx 8 8,ji 16 8 18,ja 9 19]
abbrev QI7:IL:=[jb 21 0 5,jc 22 21,yk 23 22 1,ja 24 23,ju 25 0 5 24,jz 26 25 24,zg 27 26 65535 24,jt 28 24 27,ja 29 28,ju 30 1 5 29,jz 31 30 29,⟨some 32,.val (.bin .num .lss (.t 31) (.c (.int .i64 0))),(some (29,false))⟩,jt 33 29 32,ja 34 33,ju 35 1 5 34,jz 36 35 34,zg 37 36 6 34,jt 38 34 37,ja 20 38]
abbrev QI8:IL:=[jd 6 1]
abbrev QI9:IL:=[ja 40 7,ja 41 40,jl 42 3 5 41,jp 43 42 41,⟨some 44,.val (.bin .str .neq (.t 43) (.c (.str []))),(some (41,true))⟩,jj 45 41 44,ja 46 45,jw 47 7 46,zh 48 47 46,jw 49 48 46,jl 50 2 5 49,jp 51 50 49,⟨some 52,.val (.bin .num .neq (.t 51) (.c (.int .u64 0))),(some (49,true))⟩,yy 53 49 52 46,jt 54 46 53,ja 55 54,jw 56 9 55,jw 57 56 55,zm 58 3 3 57,zm 59 16 8 57,zm 60 4 5 57,RH 61 114 58 59 60 57,yn 62 61 57,yy 63 57 62 55,jt 64 55 63,ja 39 64]
abbrev QJa:IL:=[jd 6 1]
abbrev QJb:IL:=[jb 66 1 5,jc 67 66,js 68 67 3,ja 69 68,jl 70 3 5 69,jp 71 70 69,yc 72 0 71 69,FL 73 72 4096 69,jj 74 69 73,ja 75 74,ju 76 3 5 75,jz 77 76 75,zt 78 0 77 75,zg 79 78 65536 75,jt 80 75 79,ja 65 80]
abbrev QJc:IL:=[jd 6 3]
abbrev QJd:IL:=[jd 6 0]
abbrev r60:RC:=jQ QI4 (jQ QI5 (jQ QI6 (.seq (.block 0 (jQ QI7 (.cond (.t 20) (jQ QI8 (.ret)) (jQ QI9 (.cond (.t 39) (jQ QJa (.ret)) (jQ QJb (.cond (.t 65) (jQ QJc (.ret)) (.skip)))))))) (jQ QJd (.ret)))))
abbrev LO:List RR:=[.tmp 6]
theorem k60:CT 60 81 r60 LO:=ck Tryz.func60 Tryz.ntmps60 (by decide +kernel)
abbrev Qyq:IL:=[jf 3 3 0,jf 4 4 1,jf 5 5 2,jg 6]
abbrev Qyr:IL:=[je 10 3 3,jb 11 4 4,jb 12 1 11,jc 13 12,jq 14 170 10 13,ja 9 14,jv 15 9 0,jv 16 9 1,zk 7 7,ji 5 7 15,ja 8 16]
abbrev Qys:IL:=[ja 17 8,ja 18 17,jl 19 4 4 18,jl 20 0 19 18,jp 21 20 18,yt 22 21 9 18,jj 23 18 22,ja 24 23,jl 25 2 4 24,jp 26 25 24,FK 27 26 5 24,jj 28 24 27,ja 29 28,jl 30 1 5 29,jp 31 30 29,yt 32 31 0 29,jj 33 29 32,ja 34 33,jl 35 2 5 34,jp 36 35 34,⟨some 37,.val (.bin .num .lss (.t 36) (.c (.int .u64 2147483648))),(some (34,true))⟩,jj 38 34 37,ja 39 38,zm 40 5 7 39,jl 41 2 5 39,jp 42 41 39,Ci 43 171 40 42 39,yn 44 43 39,jj 45 39 44,ja 6 45]
abbrev QPH:RC:=jQ Qyq (jQ Qyr (jQ Qys (.ret)))
abbrev QPI:List RR:=[.tmp 6]
theorem QPJ:CT 114 46 QPH QPI:=ck Tryz.func114 Tryz.ntmps114 (by decide +kernel)
abbrev Qyt:IL:=[jf 2 2 0,jf 3 3 1,jg 4]
abbrev Qyu:IL:=[jb 5 1 2,jc 6 5,ja 7 6,ju 8 2 2 7,jz 9 8 7,⟨some 10,.val (.mkfn (.func 227) [] [(.t 3)]),(some (7,false))⟩,⟨some 11,.callF (.f 174) [(.t 9),(.t 10)],(some (7,false))⟩,jt 12 7 11,ja 4 12]
abbrev QPK:RC:=jQ Qyt (jQ Qyu (.ret))
abbrev QPL:List RR:=[.tmp 4]
theorem QPM:CT 171 13 QPK QPL:=ck Tryz.func171 Tryz.ntmps171 (by decide +kernel)
abbrev Qyv:IL:=[jf 2 2 0,jg 3]
abbrev Qyw:IL:=[jb 4 1 2,jc 5 4,⟨some 6,.val (.cvi .u64 (.t 5)),none⟩,jc 7 1,ze 8 6 7,ja 3 8]
abbrev QPN:RC:=jQ Qyv (jQ Qyw (.ret))
abbrev QPO:List RR:=[.tmp 3]
theorem QPP:CT 227 9 QPN QPO:=ck Tryz.func227 Tryz.ntmps227 (by decide +kernel)
abbrev Qyx:IL:=[jf 2 2 0,jf 3 3 1,zk 4 4,jg 5]
abbrev Qyy:IL:=[jb 6 1 2,jc 7 6,yz 8 226 3,yh 9 225 7 8,jv 10 9 0,jv 11 9 1,ji 5 4 10,ja 5 11]
abbrev QPQ:RC:=jQ Qyx (jQ Qyy (.ret))
abbrev QPR:List RR:=[.cell 4 (some 5),.tmp 5]
theorem QPS:CT 170 12 QPQ QPR:=ck Tryz.func170 Tryz.ntmps170 (by decide +kernel)
abbrev Qyz:IL:=[zk 4 4,jg 5]
abbrev QyA:IL:=[ja 9 0,jh 10 1 9,jd 11 0]
abbrev QyB:IL:=[jo 12 11 10]
abbrev QyC:IL:=[jm 13 5 9 11,je 14 5 13,zk 7 7,ji 5 7 14]
abbrev QyD:IL:=[ja 15 1,je 16 5 7,zi 17 15 16]
abbrev QyE:IL:=[je 18 5 7,ji 5 4 18,yg 5]
abbrev QyF:IL:=[jn 19 11 1,ja 11 19]
abbrev QyG:RC:=.gho (.drop 7) (jQ QyB (.seq (jX 12 0) (.seq (.block 1 (jQ QyC (jQ QyD (.cond (.t 17) (jQ QyE (.ret)) (.skip))))) (.reg QyF))))
abbrev QyH:IL:=[zk 8 8]
abbrev QyI:IL:=[je 20 5 8,ji 5 4 20,jg 5]
abbrev QPT:RC:=jQ Qyz (.seq (jQ QyA (.block 0 (.loop QyG))) (jQ QyH (jQ QyI (.ret))))
abbrev QPU:List RR:=[.cell 4 (some 5),.tmp 5]
theorem QPV:CT 225 21 QPT QPU:=ck Tryz.func225 Tryz.ntmps225 (by decide +kernel)
abbrev QyJ:IL:=[jf 2 2 0,jg 3]
abbrev QyK:IL:=[jb 4 0 2,jc 5 4,jc 6 1,yv 7 5 6,ja 3 7]
abbrev QPW:RC:=jQ QyJ (jQ QyK (.ret))
abbrev QPX:List RR:=[.tmp 3]
theorem QPY:CT 226 8 QPW QPX:=ck Tryz.func226 Tryz.ntmps226 (by decide +kernel)
abbrev QJe:IL:=[jf 3 3 1,jg 4]
abbrev QJf:IL:=[ja 5 0,yz 6 113 3,yh 7 64 5 6,ja 4 7]
abbrev r58:RC:=jQ QJe (jQ QJf (.ret))
abbrev o58:List RR:=[.tmp 4]
theorem k58:CT 58 8 r58 o58:=ck Tryz.func58 Tryz.ntmps58 (by decide +kernel)
abbrev QyL:IL:=[jf 2 2 0,jg 3]
abbrev QyM:IL:=[jc 4 1,jb 5 0 2,jc 6 5,zi 7 4 6,ja 3 7]
abbrev QPZ:RC:=jQ QyL (jQ QyM (.ret))
abbrev QP0:List RR:=[.tmp 3]
theorem QP1:CT 113 8 QPZ QP0:=ck Tryz.func113 Tryz.ntmps113 (by decide +kernel)
abbrev QJg:IL:=[jg 3]
abbrev QJh:IL:=[ja 4 0,jb 5 0 1,jc 6 5,ze 7 4 6,ja 3 7]
abbrev r59:RC:=jQ QJg (jQ QJh (.ret))
abbrev o59:List RR:=[.tmp 3]
theorem k59:CT 59 8 r59 o59:=ck Tryz.func59 Tryz.ntmps59 (by decide +kernel)
abbrev QJi:IL:=[jf 5 5 0,jf 6 6 1,jd 10 0]
abbrev QJj:IL:=[jy 16 0 6 5 6,ja 17 2,ja 18 3,jm 19 8 17 18,jb 20 0 19,zl 21 20,jq 22 36 16 21,ja 15 22,jv 23 15 0,jv 24 15 1,yx 11 11,za 0 11 16 11 23,ja 12 24]
abbrev QJk:IL:=[ja 25 12,yb 26 25]
abbrev QJl:IL:=[jd 10 8]
abbrev QJm:IL:=[ja 27 2,ja 28 3,zz 29 8 27 28,yz 30 109 11,yh 31 58 29 30]
abbrev QJn:IL:=[jd 10 9]
abbrev QJo:IL:=[je 32 5 6,jb 33 6 11,jc 34 33,jq 35 110 32 34,jh 36 1 35,jd 37 0]
abbrev QJp:IL:=[jo 38 37 36]
abbrev QJq:IL:=[jm 39 16 35 37,je 40 16 39,yx 14 14,ji 16 14 40]
abbrev QJr:IL:=[jb 41 0 14,jc 42 41,jb 43 0 11,jc 44 43,zo 45 42 44,ja 46 45,jk 47 2 46,jk 48 3 46,⟨some 49,.val (.slc (some 8) (.t 47) none (some (.t 48)) none),(some (46,true))⟩,⟨some 50,.val (.mkfn (.func 111) [] [(.t 14)]),(some (46,true))⟩,⟨some 51,.callF (.f 58) [(.t 49),(.t 50)],(some (46,true))⟩,jj 52 46 51]
abbrev QyN:IL:=[jd 10 15]
abbrev QyO:IL:=[jn 53 37 1,ja 37 53]
abbrev QJs:RC:=.gho (.drop 14) (jQ QJp (.seq (jX 38 0) (.seq (.block 1 (jQ QJq (jQ QJr (.cond (.t 52) (jQ QyN (.ret)) (.skip))))) (.reg QyO))))
abbrev QyP:IL:=[jy 54 0 5 3 5,jy 55 0 11 16 11,ja 56 2,ja 57 3,jm 58 8 56 57,jb 59 1 58,yp 60 7 59,ja 61 4,zn 62 112 54 55 60 61,ja 10 62]
abbrev r57:RC:=jQ QJi (jD QJj (.seq (jQ QJk (.cond (.t 26) (jQ QJl (.ret)) (.skip))) (.seq (jQ QJm (.cond (.t 31) (jQ QJn (.ret)) (.skip))) (.seq (jQ QJo (.block 0 (.loop QJs))) (jD QyP (.ret))))))
abbrev o57:List RR:=[.tmp 10]
theorem k57:CT 57 63 r57 o57:=ck Tryz.func57 Tryz.ntmps57 (by decide +kernel)
abbrev QyQ:IL:=[jf 4 4 0,jf 5 5 1,jf 6 6 2,jd 8 0]
abbrev QyR:IL:=[jb 12 2 5,jc 13 12]
abbrev QyS:IL:=[js 15 13 4,ja 14 15]
abbrev QyT:IL:=[jb 16 0 6,jc 17 16,ya 18 17 11,ja 19 18,zj 20 7 6 19,yq 21 56 20 19,jt 22 19 21]
abbrev QyU:IL:=[jd 8 12]
abbrev QyV:IL:=[jb 23 3 6,jc 24 23,jh 25 1 24,jd 26 0]
abbrev QyW:IL:=[jo 27 26 25]
abbrev QyX:IL:=[jm 28 7 24 26,je 29 7 28,yi 10 10,ji 7 10 29]
abbrev QyY:IL:=[je 30 3 4,jb 31 4 5,je 32 2 31,je 33 7 10,ja 34 3,zn 35 168 30 32 33 34,ja 11 35]
abbrev QyZ:IL:=[ja 36 11,ya 37 36 0]
abbrev Qev:IL:=[ja 38 11,ja 8 38]
abbrev Qew:IL:=[jn 39 26 1,ja 26 39]
abbrev Qy0:RC:=.gho (.drop 10) (jQ QyW (.seq (jX 27 1) (.seq (.block 2 (jQ QyX (jQ QyY (jQ QyZ (.cond (.t 37) (jQ Qev (.ret)) (.skip)))))) (.reg Qew))))
abbrev Qex:IL:=[jd 8 0]
abbrev Qey:IL:=[js 41 13 5,ja 40 41]
abbrev Qez:IL:=[jb 42 0 6,jc 43 42,ya 44 43 12,ja 45 44,zj 46 7 6 45,yq 47 56 46 45,jt 48 45 47]
abbrev QeA:IL:=[jd 8 12]
abbrev QeB:IL:=[je 49 3 4,je 50 16 5,jb 51 4 6,jc 52 51,ja 53 3,zn 54 169 49 50 52 53,ja 8 54]
abbrev QeC:IL:=[je 55 3 4,jb 56 4 5,je 57 2 56,je 58 7 6,ja 59 3,zn 60 168 55 57 58 59,ja 8 60]
abbrev QP2:RC:=jQ QyQ (.seq (jQ QyR (.block 0 (jQ QyS (.cond (.t 14) (.seq (jQ QyT (.cond (.t 22) (jQ QyU (.ret)) (.skip))) (.seq (jQ QyV (.block 1 (.loop Qy0))) (jQ Qex (.ret)))) (jQ Qey (.cond (.t 40) (.seq (jQ Qez (.cond (.t 48) (jQ QeA (.ret)) (.skip))) (jQ QeB (.ret))) (.skip))))))) (jQ QeC (.ret)))
abbrev QP3:List RR:=[.tmp 8]
theorem QP4:CT 112 61 QP2 QP3:=ck Tryz.func112 Tryz.ntmps112 (by decide +kernel)
abbrev Qy1:IL:=[jf 4 4 0,jf 5 5 1,jf 6 6 2,jd 8 0]
abbrev Qy2:IL:=[jb 11 0 5,jc 12 11,js 13 12 10]
abbrev Qy3:IL:=[je 15 3 4,jb 16 1 5,jc 17 16,jq 18 22 15 17,ja 14 18,jv 19 14 0,jv 20 14 1,zb 9 9,ji 5 9 19,ja 10 20]
abbrev Qy4:IL:=[je 21 3 4,je 22 5 9,je 23 7 6,ja 24 3,jn 25 24 1,zn 26 23 21 22 23 25,ja 8 26]
abbrev Qy5:IL:=[je 27 3 4,je 28 2 5,je 29 7 6,yr 30 222 27 28 29,ja 8 30]
abbrev QP5:RC:=jQ Qy1 (.seq (jQ Qy2 (.cond (.t 13) (jQ Qy3 (jQ Qy4 (.ret))) (.skip))) (jQ Qy5 (.ret)))
abbrev QP6:List RR:=[.tmp 8]
theorem QP7:CT 168 31 QP5 QP6:=ck Tryz.func168 Tryz.ntmps168 (by decide +kernel)
abbrev Qy6:IL:=[jf 3 3 0,jf 4 4 1,jf 5 5 2,jd 6 0]
abbrev Qy7:IL:=[jb 10 0 5,jc 11 10,jb 12 0 4,jc 13 12,zo 14 11 13,ja 15 14,zj 16 7 5 15,yq 17 56 16 15,jt 18 15 17,ja 9 18]
abbrev Qy8:IL:=[jd 6 12]
abbrev Qy9:IL:=[jb 20 2 5,jc 21 20,jh 22 0 21,yl 23 22 4096,ja 19 23]
abbrev Qza:IL:=[jd 6 3]
abbrev Qzb:IL:=[jb 25 0 4,jc 26 25,js 27 26 7,ja 28 27,jl 29 2 5 28,jp 30 29 28,zy 31 156 30 28,yn 32 31 28,jj 33 28 32,ja 24 33]
abbrev Qzc:IL:=[jd 6 7]
abbrev Qzd:IL:=[jb 35 0 4,jc 36 35,je 37 7 5,jq 38 248 36 37,yb 39 38,ja 34 39]
abbrev Qze:IL:=[jd 6 12]
abbrev Qzf:IL:=[je 41 3 3,jb 42 1 4,jc 43 42,jq 44 170 41 43,ja 40 44,jv 45 40 0,jv 46 40 1,zk 7 7,ji 5 7 45,ja 8 46]
abbrev QeD:IL:=[jb 47 0 4,jc 48 47,js 49 48 9,ja 50 49,zm 51 5 7 50,jl 52 1 5 50,jp 53 52 50,Ci 54 171 51 53 50,yn 55 54 50,jj 56 50 55]
abbrev QeE:IL:=[jd 6 16]
abbrev QeF:IL:=[jd 6 0]
abbrev QP8:RC:=jQ Qy6 (.seq (.block 0 (jQ Qy7 (.cond (.t 9) (jQ Qy8 (.ret)) (jQ Qy9 (.cond (.t 19) (jQ Qza (.ret)) (jQ Qzb (.cond (.t 24) (jQ Qzc (.ret)) (jQ Qzd (.cond (.t 34) (jQ Qze (.ret)) (.skip)))))))))) (.seq (jQ Qzf (jQ QeD (.cond (.t 56) (jQ QeE (.ret)) (.skip)))) (jQ QeF (.ret))))
abbrev QP9:List RR:=[.tmp 6]
theorem QQa:CT 222 57 QP8 QP9:=ck Tryz.func222 Tryz.ntmps222 (by decide +kernel)
abbrev QJt:IL:=[jf 1 1 0,jg 2]
abbrev QJu:IL:=[jb 4 0 1,jc 5 4,js 6 5 7,ja 7 6,ju 8 0 1 7,jz 9 8 7,zf 10 9 8 7,jt 11 7 10,ja 3 11]
abbrev QJv:IL:=[jb 12 0 1,jc 13 12,ya 14 13 11,ja 15 14,jl 16 3 1 15,jp 17 16 15,yc 18 1 17 15,FL 19 18 0 15,jj 20 15 19,ja 21 20,ju 22 0 1 21,jz 23 22 21,RJ 24 23 12 21,jw 25 24 21,jl 26 4 1 25,jp 27 26 25,yc 28 1 27 25,FL 29 28 0 25,yy 30 25 29 21,jt 31 21 30,ja 32 31,ju 33 0 1 32,jz 34 33 32,RJ 35 34 10 32,jw 36 35 32,jl 37 5 1 36,jp 38 37 36,yc 39 1 38 36,jl 40 6 1 36,jp 41 40 36,yc 42 1 41 36,zp 43 39 42 36,FL 44 43 0 36,yy 45 36 44 32,jt 46 32 45,ja 47 46,ju 48 1 1 47,jz 49 48 47,⟨some 50,.val (.bin .num .neq (.t 49) (.c (.int .u64 0))),(some (47,false))⟩,jw 51 50 47,jk 52 3 51,jk 53 52 51,ju 54 0 1 53,jz 55 54 53,⟨some 56,.val (.bin .num .geq (.t 55) (.c (.int .i64 10))),(some (53,false))⟩,jw 57 56 53,jl 58 0 1 57,jp 59 58 57,ym 60 59 12 57,yy 61 57 60 53,RG 62 53 61 51,yy 63 51 62 47,jt 64 47 63,ja 65 64,ju 66 2 1 65,jz 67 66 65,⟨some 68,.val (.bin .str .neq (.t 67) (.c (.str []))),(some (65,false))⟩,jw 69 68 65,jk 70 3 69,yn 71 70 69,yy 72 69 71 65,jt 73 65 72,ja 2 73]
abbrev Un:RC:=jQ QJt (jQ QJu (jQ QJv (.ret)))
abbrev o56:List RR:=[.tmp 2]
theorem k56:CT 56 74 Un o56:=ck Tryz.func56 Tryz.ntmps56 (by decide +kernel)
abbrev Qzg:IL:=[jf 4 4 0,jf 5 5 1,jd 8 0]
abbrev Qzh:IL:=[ja 13 2,jh 14 1 13,jd 15 0]
abbrev Qzi:IL:=[jo 16 15 14]
abbrev Qzj:IL:=[ja 17 15,jm 18 14 13 15,je 19 14 18,FI 10 10,ja 9 17,ji 14 10 19]
abbrev Qzk:IL:=[je 20 3 4,jb 21 3 5,jc 22 21,⟨some 23,.val (.build [.int .i64 0,.str []] [(0,1,(.t 22))]),none⟩,jb 24 0 10,je 25 7 24,yr 26 222 20 23 25,ja 11 26]
abbrev Qzl:IL:=[ja 27 11,ya 28 27 0]
abbrev Qzm:IL:=[ja 29 11,ja 8 29]
abbrev Qzn:IL:=[ja 30 2,ja 31 9,zz 32 14 30 31,yz 33 224 10,yh 34 223 32 33]
abbrev Qzo:IL:=[jd 8 9]
abbrev Qzp:IL:=[je 35 3 4,jb 36 4 5,je 37 2 36,jb 38 7 10,je 39 7 38,ja 40 3,zn 41 168 35 37 39 40,ja 12 41]
abbrev QeG:IL:=[ja 42 12,ya 43 42 0]
abbrev QeH:IL:=[ja 44 12,ja 8 44]
abbrev QeI:IL:=[jn 45 15 1,ja 15 45]
abbrev Qzq:RC:=.gho (.drop 10) (jQ Qzi (.seq (jX 16 0) (.seq (.block 1 (jQ Qzj (.seq (jQ Qzk (jQ Qzl (.cond (.t 28) (jQ Qzm (.ret)) (.skip)))) (.seq (jQ Qzn (.cond (.t 34) (jQ Qzo (.ret)) (.skip))) (jQ Qzp (jQ QeG (.cond (.t 43) (jQ QeH (.ret)) (.skip)))))))) (.reg QeI))))
abbrev QeJ:IL:=[jd 8 0]
abbrev QQb:RC:=jQ Qzg (.seq (jQ Qzh (.block 0 (.loop Qzq))) (jQ QeJ (.ret)))
abbrev QQc:List RR:=[.tmp 8]
theorem QQd:CT 169 46 QQb QQc:=ck Tryz.func169 Tryz.ntmps169 (by decide +kernel)
abbrev Qzr:IL:=[jf 2 2 0,jg 3]
abbrev Qzs:IL:=[jb 4 0 2,je 5 7 4,jb 6 0 1,je 7 7 6,jq 8 132 5 7,ja 3 8]
abbrev QQe:RC:=jQ Qzr (jQ Qzs (.ret))
abbrev QQf:List RR:=[.tmp 3]
theorem QQg:CT 224 9 QQe QQf:=ck Tryz.func224 Tryz.ntmps224 (by decide +kernel)
abbrev Qzt:IL:=[jg 3]
abbrev Qzu:IL:=[ja 4 0,jb 5 0 1,jc 6 5,ze 7 4 6,ja 3 7]
abbrev QQh:RC:=jQ Qzt (jQ Qzu (.ret))
abbrev QQi:List RR:=[.tmp 3]
theorem QQj:CT 111 8 QQh QQi:=ck Tryz.func111 Tryz.ntmps111 (by decide +kernel)
abbrev Qzv:IL:=[jf 2 2 0,jf 3 3 1,yd 4]
abbrev Qzw:IL:=[jc 5 3,Cf 6 5]
abbrev Qzx:IL:=[yd 4]
abbrev Qzy:IL:=[jb 7 1 2,jc 8 7,Cc 9 166 8,yz 10 167 3,yh 11 165 9 10,ja 4 11]
abbrev QQk:RC:=jQ Qzv (.seq (jQ Qzw (.cond (.t 6) (jQ Qzx (.ret)) (.skip))) (jQ Qzy (.ret)))
abbrev QQl:List RR:=[.tmp 4]
theorem QQm:CT 110 12 QQk QQl:=ck Tryz.func110 Tryz.ntmps110 (by decide +kernel)
abbrev Qzz:IL:=[yd 4]
abbrev QzA:IL:=[ja 8 0,ja 9 1,yh 10 221 8 9,ja 5 10]
abbrev QzB:IL:=[ja 11 5,js 12 11 (-1)]
abbrev QzC:IL:=[ja 13 0,ja 4 13]
abbrev QzD:IL:=[ja 14 5,jn 15 14 1,ja 6 15]
abbrev QzE:IL:=[ja 16 6,ja 17 0,jh 18 1 17,jo 19 16 18]
abbrev QzF:IL:=[ja 22 0,ja 23 6,jm 24 16 22 23,je 25 16 24,yx 7 7,ji 16 7 25]
abbrev QzG:IL:=[ja 26 1,je 27 16 7,zi 28 26 27,yb 29 28]
abbrev QzH:IL:=[ja 30 0,ja 31 5,je 32 16 7,jm 33 16 30 31,ji 16 33 32]
abbrev QeK:IL:=[ja 34 5,jn 35 34 1,ja 5 35]
abbrev QzI:IL:=[ja 20 6,jn 21 20 1,ja 6 21]
abbrev QzJ:RC:=.gho (.drop 7) (.seq (jQ QzE (jX 19 0)) (.seq (.block 1 (jQ QzF (jQ QzG (.cond (.t 29) (jQ QzH (.reg QeK)) (.skip))))) (.reg QzI)))
abbrev QeL:IL:=[ja 36 0,ja 37 5,⟨some 38,.val (.slc (some 16) (.t 36) (some (.t 37)) none none),none⟩,⟨none,.clr 16 [.int .i64 0,.str [],.int .i64 0,.int .i64 0,.int .i64 0,.str [],.str [],.bool false,.int .i64 0,.int .u64 0,.str [],.nils,.nils,.nils,.nils,.nils] (.t 38),none⟩]
abbrev QeM:IL:=[ja 39 0,ja 40 5,zz 41 16 39 40,ja 4 41]
abbrev QQn:RC:=jQ Qzz (jQ QzA (.seq (jQ QzB (.cond (.t 12) (jQ QzC (.ret)) (.skip))) (.seq (jQ QzD (.block 0 (.loop QzJ))) (jQ QeL (jQ QeM (.ret))))))
abbrev QQo:List RR:=[.tmp 4]
theorem QQp:CT 165 42 QQn QQo:=ck Tryz.func165 Tryz.ntmps165 (by decide +kernel)
abbrev QzK:IL:=[jf 2 2 0,jg 3]
abbrev QzL:IL:=[jb 4 6 2,jc 5 4,jc 6 1,⟨some 7,.val (.bin .str .neq (.t 5) (.t 6)),none⟩,ja 3 7]
abbrev QQq:RC:=jQ QzK (jQ QzL (.ret))
abbrev QQr:List RR:=[.tmp 3]
theorem QQs:CT 167 8 QQq QQr:=ck Tryz.func167 Tryz.ntmps167 (by decide +kernel)
abbrev QzM:IL:=[yd 2]
abbrev QzN:IL:=[ja 3 0,Cd 4 3]
abbrev QzO:IL:=[yd 2]
abbrev QzP:IL:=[⟨some 5,.bsl0 5 16,none⟩,ja 6 0,yf 7 16 240 79 5 6,ja 2 7]
abbrev QzQ:RC:=jQ QzM (.seq (jQ QzN (.cond (.t 4) (jQ QzO (.gho (.vec 2 2 16) (.gho (.give 2 2 1 1000) (.ret)))) (.skip))) (jQ QzP (.gho (.give 2 5 1 1000) (.ret))))
abbrev EO:List RR:=[.tmp 2]
theorem QQt:CT 166 8 QzQ EO:=ck Tryz.func166 Tryz.ntmps166 (by decide +kernel)
abbrev QzR:IL:=[jg 3]
abbrev QzS:IL:=[ja 4 0,jb 5 0 1,jc 6 5,ze 7 4 6,ja 3 7]
abbrev QQu:RC:=jQ QzR (jQ QzS (.ret))
abbrev QQv:List RR:=[.tmp 3]
theorem QQw:CT 109 8 QQu QQv:=ck Tryz.func109 Tryz.ntmps109 (by decide +kernel)
abbrev QQx:IL:=[jf 2 2 0,jf 3 3 1,jd 4 0,jg 5]
abbrev QQy:IL:=[jb 7 0 2,jc 8 7,yz 9 21 3,yh 10 20 8 9,ja 6 10]
abbrev QQz:IL:=[ja 11 6,⟨some 12,.val (.mnx true (.t 11) (.c (.int .i64 0))),none⟩,ja 13 6,yj 14 13 0,ja 4 12,ja 5 14]
abbrev r8:RC:=jQ QQx (jQ QQy (jQ QQz (.ret)))
abbrev o8:List RR:=[.tmp 4,.tmp 5]
theorem k8:CT 8 15 r8 o8:=ck Tryz.func8 Tryz.ntmps8 (by decide +kernel)
abbrev QJw:IL:=[jd 4 0]
abbrev QJx:IL:=[ja 6 0,jh 7 1 6,jd 8 0]
abbrev QJy:IL:=[jo 9 8 7]
abbrev QJz:IL:=[ja 10 8,ja 5 10]
abbrev QJA:IL:=[ja 11 1,ja 12 0,ja 13 5,jm 14 3 12 13,je 15 3 14,zi 16 11 15]
abbrev QJB:IL:=[ja 17 5,ja 4 17]
abbrev QJC:IL:=[jn 18 8 1,ja 8 18]
abbrev QJD:RC:=jQ QJy (.seq (jX 9 0) (.seq (.block 1 (jQ QJz (jQ QJA (.cond (.t 16) (jQ QJB (.ret)) (.skip))))) (.reg QJC)))
abbrev QJE:IL:=[jd 4 (-1)]
abbrev r20:RC:=jQ QJw (.seq (jQ QJx (.block 0 (.loop QJD))) (jQ QJE (.ret)))
abbrev KB:List RR:=[.tmp 4]
theorem k20:CT 20 19 r20 KB:=ck Tryz.func20 Tryz.ntmps20 (by decide +kernel)
abbrev QJF:IL:=[jf 2 2 0,jg 3]
abbrev QJG:IL:=[jb 4 0 2,jc 5 4,jc 6 1,yv 7 5 6,ja 3 7]
abbrev r21:RC:=jQ QJF (jQ QJG (.ret))
abbrev o21:List RR:=[.tmp 3]
theorem k21:CT 21 8 r21 o21:=ck Tryz.func21 Tryz.ntmps21 (by decide +kernel)
abbrev QQA:IL:=[jf 1 1 0,jg 2]
abbrev QQB:IL:=[je 3 3 1,jr 4 16 3,jh 5 1 4,js 6 5 0,ja 2 6]
abbrev r6:RC:=jQ QQA (jQ QQB (.ret))
abbrev o6:List RR:=[.tmp 2]
theorem k6:CT 6 7 r6 o6:=ck Tryz.func6 Tryz.ntmps6 (by decide +kernel)
def LP:IL:=[jf 1 1 0,yd 2]
def LQ:IL:=[⟨some 13,.val (.build [.str [],.nils] []),none⟩,⟨some 3,.allocN 3 [.str [],.nils],none⟩,ji 2 3 13]
def LR:IL:=[jd 4 1]
def LS:IL:=[ja 14 4,zu 15 14 3]
def LU:IL:=[je 18 3 1,ja 19 4,jq 20 39 18 19,ja 5 20]
def LV:IL:=[ja 21 5,jh 22 1 21,yl 23 22 64,ys 24 40 3 23 (-1) 3]
def LW:IL:=[ja 25 5,jr 26 41 25,yb 27 26,ys 28 40 3 27 (-1) 11]
def LX:IL:=[ja 16 4,jn 17 16 1,ja 4 17]
def Pi:RC:=.seq (jQ LS (jX 15 0)) (.seq (.block 1 (jQ LU (jQ LV (.reg LW)))) (.reg LX))
def LY:IL:=[je 29 3 1,⟨some 30,.call (.f 39) [(.t 29),(.c (.int .i64 1))],none⟩,ja 6 30]
def LZ:IL:=[je 31 3 1,⟨some 32,.call (.f 39) [(.t 31),(.c (.int .i64 2))],none⟩,ja 7 32]
def Tf:IL:=[je 33 3 1,⟨some 34,.call (.f 39) [(.t 33),(.c (.int .i64 3))],none⟩,ja 8 34]
def Th:IL:=[ja 35 6,ja 36 7,jq 37 42 35 36,ja 38 37,jw 39 6 38,jw 40 8 38,HA 41 42 39 40 38,jt 42 38 41,ja 43 42,jw 44 7 43,jw 45 8 43,HA 46 42 44 45 43,jt 47 43 46,ys 48 40 3 47 (-1) 9]
def Nu:IL:=[je 49 3 1,jr 50 43 49,ja 9 50]
def Nv:IL:=[jd 10 0]
def Ti:IL:=[ja 51 10,jb 52 0 1,jc 53 52,jh 54 1 53,jo 55 51 54]
def Tj:IL:=[jb 58 1 3,jx 59 0 3 58,jy 60 0 1 3 1,jb 61 0 1,jx 62 0 1 61,ja 63 10,jm 64 5 62 63,yp 65 5 64,ja 66 9,yr 67 44 60 65 66,yf 68 3 32 153 59 67,jb 69 1 3,za 0 3 1 69 68]
def Tk:IL:=[ja 56 10,jn 57 56 1,ja 10 57]
def Bf:RC:=.seq (jQ Ti (jX 55 2)) (.seq (.block 3 (.draw Tj)) (.reg Tk))
def Nw:IL:=[jd 11 0]
def Tl:IL:=[ja 70 11,jb 71 1 1,jc 72 71,jh 73 1 72,jo 74 70 73]
def Tm:IL:=[jb 77 1 3,jx 78 0 3 77,jb 79 1 1,jx 80 0 1 79,ja 81 11,jm 82 5 80 81,yp 83 5 82,jr 84 45 83,yf 85 3 32 153 78 84,jb 86 1 3,za 0 3 1 86 85]
def Tn:IL:=[ja 75 11,jn 76 75 1,ja 11 76]
def Bg:RC:=.seq (jQ Tl (jX 74 4)) (.seq (.block 5 (.draw Tm)) (.reg Tn))
def Nx:IL:=[jd 12 0]
def To:IL:=[ja 87 12,jb 88 2 1,jc 89 88,jh 90 1 89,jo 91 87 90]
def Tp:IL:=[jb 94 1 3,jx 95 0 3 94,jy 96 0 1 3 1,jb 97 2 1,jx 98 0 1 97,ja 99 12,jm 100 3 98 99,yp 101 3 100,jq 102 46 96 101,yf 103 3 32 153 95 102,jb 104 1 3,za 0 3 1 104 103]
def Tq:IL:=[ja 92 12,jn 93 92 1,ja 12 93]
def Bh:RC:=.seq (jQ To (jX 91 6)) (.seq (.block 7 (.draw Tp)) (.reg Tq))
def Ny:IL:=[jb 105 1 3,jc 106 105,ja 2 106]
def r16:RC:=jQ LP (jQ LQ (.gho (.vecc 3 1 1100 3) (.seq (jQ LR (.block 0 (.loop Pi))) (jQ LY (jQ LZ (jQ Tf (jQ Th (jQ Nu (.seq (jQ Nv (.block 2 (.loop Bf))) (.seq (jQ Nw (.block 4 (.loop Bg))) (.seq (jQ Nx (.block 6 (.loop Bh))) (jQ Ny (.ret)))))))))))))
def o16:List RR:=[.tmp 2]
theorem k16:CT 16 107 r16 o16:=ck Tryz.func16 Tryz.ntmps16 (by decide +kernel)
def L0:IL:=[jf 2 2 0,jf 3 3 1,yd 4]
def L5:IL:=[jb 8 0 3,jc 9 8,⟨some 10,.val (.build [.str [],.nils] [(0,1,(.t 9))]),none⟩,⟨some 5,.allocN 5 [.str [],.nils],none⟩,ji 2 5 10]
def L6:IL:=[jb 11 0 3,jc 12 11,jr 13 85 12,yb 14 13,ys 15 40 5 14 (-1) 8]
def L7:IL:=[jb 16 1 3,jc 17 16,jh 18 1 17,yl 19 18 64,ys 20 40 5 19 (-1) 3]
def L8:IL:=[jd 6 0]
def L9:IL:=[ja 21 6,jb 22 1 3,jc 23 22,jh 24 1 23,jo 25 21 24]
def Qaa:IL:=[jb 28 1 3,jc 29 28,ja 30 6,jm 31 5 29 30,je 32 5 31,⟨some 7,.allocN 7 [.str [],.str [],.str [],.int .i64 0,.nils],none⟩,ji 5 7 32]
def Pj:IL:=[jb 33 0 7,jc 34 33,jr 35 86 34,yb 36 35,ja 37 6,zd 38 40 5 36 37 8]
def Bi:IL:=[ja 39 6,yl 40 39 0,ja 41 40,jl 42 0 7 41,GS 43 0 7 42 41,jl 44 1 3 41,GS 45 0 3 44 41,jk 46 6 41,Co 47 46 1 41,zq 48 5 45 47 41,jl 49 0 48 41,HF 50 49 41,⟨some 51,.val (.bin .str .leq (.t 43) (.t 50)),(some (41,true))⟩,jj 52 41 51,ja 53 6,zd 54 40 5 52 53 11]
def Nz:IL:=[je 55 3 2,jb 56 1 7,jc 57 56,jq 58 95 55 57,yk 59 58 0,ja 60 59,zj 61 3 2 60,ju 62 2 7 60,jz 63 62 60,HA 64 95 61 63 60,⟨some 65,.val (.bin .num .lss (.t 64) (.c (.int .i64 0))),(some (60,false))⟩,jt 66 60 65,ja 67 6,zd 68 40 5 66 67 12]
def NA:IL:=[jb 69 3 7,jc 70 69,yk 71 70 1,ja 72 71,ju 73 3 7 72,jz 74 73 72,zg 75 74 4 72,jt 76 72 75,ja 77 6,zd 78 40 5 76 77 1]
def NB:IL:=[jb 79 4 7,jc 80 79,ja 81 6,⟨some 82,.callF (.f 92) [(.t 5),(.t 80),(.c (.int .i64 6)),(.t 81)],none⟩]
def Qab:IL:=[ja 26 6,jn 27 26 1,ja 6 27]
def Qac:RC:=.gho (.drop 7) (.seq (jQ L9 (jX 25 0)) (.seq (.block 1 (jQ Qaa (jQ Pj (jD Bi (jQ Nz (jQ NA (.reg NB))))))) (.reg Qab)))
def Tr:IL:=[jb 83 2 3,jc 84 83,ys 85 92 5 84 5 (-1)]
def Ts:IL:=[jb 86 1 5,jc 87 86,ja 4 87]
def r46:RC:=jQ L0 (jQ L5 (.gho (.vecc 5 1 1100 3) (jQ L6 (jQ L7 (.seq (jQ L8 (.block 0 (.loop Qac))) (jQ Tr (jQ Ts (.ret))))))))
def o46:List RR:=[.tmp 4]
theorem k46:CT 46 88 r46 o46:=ck Tryz.func46 Tryz.ntmps46 (by decide +kernel)
abbrev QJH:IL:=[ja 9 1,ja 10 2,jq 11 146 9 10,ja 8 11]
abbrev QJI:IL:=[ja 12 0,ja 13 8,ya 14 13 0,ja 15 3,ja 16 8,⟨some 17,.callF (.f 40) [(.t 12),(.t 14),(.t 15),(.t 16)],none⟩]
abbrev r92:RC:=jQ QJH (.reg QJI)
abbrev o92:List RR:=[]
theorem k92:CT 92 18 r92 o92:=ck Tryz.func92 Tryz.ntmps92 (by decide +kernel)
abbrev QJJ:IL:=[ja 8 1]
abbrev QJK:IL:=[ja 9 0,ja 10 0,yo 11 10,jb 12 1 11,RK 13 12,ja 14 0,yo 15 14,jb 16 0 15,RK 17 16,ja 18 2,ja 19 3,⟨some 20,.val (.build [.str [],.int .i64 0,.int .i64 0] [(0,1,(.t 17)),(1,1,(.t 18)),(2,1,(.t 19))]),none⟩,⟨some 21,.bsl 3 1 [.str [],.int .i64 0,.int .i64 0] [(0,3,(.t 20))],none⟩,yf 22 3 32 153 13 21,yo 23 9,jb 24 1 23,ji 1 24 22]
abbrev r40:RC:=jQ QJJ (.cond (.t 8) (.draw QJK) (.skip))
abbrev Wl:List RR:=[]
theorem k40:CT 40 25 r40 Wl:=ck Tryz.func40 Tryz.ntmps40 (by decide +kernel)
abbrev QzT:IL:=[jd 4 0]
abbrev QzU:IL:=[ja 6 0,jh 7 1 6,yl 8 7 8]
abbrev QzV:IL:=[jd 4 3]
abbrev QzW:IL:=[jd 5 0]
abbrev QzX:IL:=[ja 9 5,ja 10 0,jh 11 1 10,jo 12 9 11]
abbrev QzY:IL:=[ja 15 0,ja 16 5,jm 17 8 15 16,jb 18 0 17,jc 19 18,jr 20 199 19,js 21 20 0]
abbrev QzZ:IL:=[jd 4 8]
abbrev Qz0:IL:=[ja 22 0,ja 23 5,jm 24 8 22 23,jb 25 0 24,jc 26 25,ja 27 1,jq 28 200 26 27,yb 29 28]
abbrev Qz1:IL:=[jd 4 1]
abbrev QeN:IL:=[ja 30 0,ja 31 5,jm 32 8 30 31,je 33 8 32,jr 34 201 33,yb 35 34]
abbrev QeO:IL:=[jd 4 12]
abbrev QeP:IL:=[ja 36 5,yl 37 36 0,ja 38 37,jk 39 0 38,jk 40 5 38,zq 41 8 39 40 38,jl 42 0 41 38,HF 43 42 38,jk 44 0 38,jk 45 5 38,Co 46 45 1 38,zq 47 8 44 46 38,jl 48 0 47 38,HF 49 48 38,⟨some 50,.val (.bin .str .lss (.t 43) (.t 49)),(some (38,true))⟩,jj 51 38 50]
abbrev QeQ:IL:=[jd 4 11]
abbrev QeR:IL:=[ja 52 5,yl 53 52 0,ja 54 53,jk 55 0 54,jk 56 5 54,zq 57 8 55 56 54,jl 58 0 57 54,HF 59 58 54,jk 60 0 54,jk 61 5 54,Co 62 61 1 54,zq 63 8 60 62 54,jl 64 0 63 54,HF 65 64 54,FM 66 59 65 54,jj 67 54 66]
abbrev QeS:IL:=[jd 4 9]
abbrev Qz2:IL:=[ja 13 5,jn 14 13 1,ja 5 14]
abbrev Qz3:RC:=.seq (jQ QzX (jX 12 0)) (.seq (.block 1 (.seq (jQ QzY (.cond (.t 21) (jQ QzZ (.ret)) (.skip))) (.seq (jQ Qz0 (.cond (.t 29) (jQ Qz1 (.ret)) (.skip))) (.seq (jQ QeN (.cond (.t 35) (jQ QeO (.ret)) (.skip))) (.seq (jD QeP (.cond (.t 51) (jQ QeQ (.ret)) (.skip))) (jD QeR (.cond (.t 67) (jQ QeS (.ret)) (.skip)))))))) (.reg Qz2))
abbrev QeT:IL:=[jd 4 0]
abbrev QQC:RC:=jQ QzT (.seq (jQ QzU (.cond (.t 8) (jQ QzV (.ret)) (.skip))) (.seq (jQ QzW (.block 0 (.loop Qz3))) (jQ QeT (.ret))))
abbrev QQD:List RR:=[.tmp 4]
theorem QQE:CT 146 68 QQC QQD:=ck Tryz.func146 Tryz.ntmps146 (by decide +kernel)
abbrev Qz4:IL:=[jf 1 1 0,jg 2]
abbrev Qz5:IL:=[jb 4 0 1,jc 5 4,jr 6 199 5,ja 3 6]
abbrev Qz6:IL:=[ja 7 3,ya 8 7 0,ja 9 8,jl 10 1 1 9,jl 11 0 10 9,jp 12 11 9,jk 13 3 9,⟨some 14,.val (.bin .num .eql (.t 12) (.t 13)),(some (9,true))⟩,jj 15 9 14,ja 16 15,jk 17 3 16,jl 18 1 1 16,zm 19 7 18 16,Ci 20 144 17 19 16,jj 21 16 20,ja 2 21]
abbrev QQF:RC:=jQ Qz4 (jQ Qz5 (jQ Qz6 (.ret)))
abbrev QQG:List RR:=[.tmp 2]
theorem QQH:CT 201 22 QQF QQG:=ck Tryz.func201 Tryz.ntmps201 (by decide +kernel)
abbrev Qz7:IL:=[jf 3 3 1,jg 4]
abbrev Qz8:IL:=[ja 6 0,jr 7 177 6,yb 8 7,ja 9 8,ju 10 0 3 9,jz 11 10 9,jw 12 0 9,⟨some 13,.val (.bin .num .neq (.t 11) (.t 12)),(some (9,false))⟩,jt 14 9 13,ja 15 14,zj 16 7 3 15,yq 17 197 16 15,zh 18 17 15,jt 19 15 18]
abbrev Qz9:IL:=[jg 4]
abbrev QAa:IL:=[ja 20 0,jr 21 178 20]
abbrev QAb:IL:=[jb 22 1 3,jc 23 22,FN 24 23 0,ja 25 24,jl 26 2 3 25,jp 27 26 25,yc 28 0 27 25,ym 29 28 4096 25,jj 30 25 29,ja 31 30,jk 32 0 31,yt 33 32 8 31,jk 34 33 31,ju 35 2 3 34,jz 36 35 34,yq 37 94 36 34,RG 38 34 37 31,jj 39 31 38,ja 4 39]
abbrev QAc:IL:=[jb 40 2 3,jc 41 40,⟨some 42,.val (.bin .str .neq (.t 41) (.c (.str []))),none⟩]
abbrev QAd:IL:=[jg 4]
abbrev QAe:IL:=[ja 43 0]
abbrev QAf:IL:=[js 45 43 1,ja 44 45]
abbrev QAg:IL:=[jb 46 1 3,jc 47 46,⟨some 48,.val (.bin .num .leq (.t 47) (.c (.int .u64 1))),none⟩,ja 4 48]
abbrev QeU:IL:=[js 50 43 2,ja 49 50]
abbrev QeV:IL:=[jb 51 1 3,jc 52 51,RI 53 52,ja 5 53]
abbrev QeW:IL:=[ja 54 5,yj 55 54 (-2147483648),ja 56 55,jk 57 5 56,ym 58 57 2147483647 56,jj 59 56 58,ja 4 59]
abbrev QeX:IL:=[js 61 43 4,ja 60 61]
abbrev QeY:IL:=[jb 62 1 3,jc 63 62,⟨some 64,.val (.bin .num .lss (.t 63) (.c (.int .u64 4294967296))),none⟩,ja 4 64]
abbrev QeZ:IL:=[js 66 43 9,ja 65 66]
abbrev Qe0:IL:=[jb 67 1 3,jc 68 67,⟨some 69,.val (.bin .num .lss (.t 68) (.c (.int .u64 2147483648))),none⟩,ja 4 69]
abbrev Qe1:IL:=[yg 4]
abbrev QQI:RC:=jQ Qz7 (.seq (jQ Qz8 (.cond (.t 19) (jQ Qz9 (.ret)) (.skip))) (.seq (jQ QAa (.cond (.t 21) (jQ QAb (.ret)) (.skip))) (.seq (jQ QAc (.cond (.t 42) (jQ QAd (.ret)) (.skip))) (.seq (jQ QAe (.block 0 (jQ QAf (.cond (.t 44) (jQ QAg (.ret)) (jQ QeU (.cond (.t 49) (jQ QeV (jQ QeW (.ret))) (jQ QeX (.cond (.t 60) (jQ QeY (.ret)) (jQ QeZ (.cond (.t 65) (jQ Qe0 (.ret)) (.skip))))))))))) (jQ Qe1 (.ret))))))
abbrev QQJ:List RR:=[.tmp 4]
theorem QQK:CT 144 70 QQI QQJ:=ck Tryz.func144 Tryz.ntmps144 (by decide +kernel)
abbrev QJL:IL:=[jg 2]
abbrev QJM:IL:=[ja 3 0,jr 4 147 3,yk 5 4 0,ja 2 5]
abbrev r94:RC:=jQ QJL (jQ QJM (.ret))
abbrev o94:List RR:=[.tmp 2]
theorem k94:CT 94 6 r94 o94:=ck Tryz.func94 Tryz.ntmps94 (by decide +kernel)
abbrev QAh:IL:=[jd 2 0]
abbrev QAi:IL:=[jd 3 0]
abbrev QAj:IL:=[ja 5 3,ja 6 0,jh 7 0 6,jo 8 5 7]
abbrev QAk:IL:=[ja 9 0,ja 10 3,jq 11 202 9 10,ja 4 11]
abbrev QAl:IL:=[ja 12 4,js 13 12 0]
abbrev QAm:IL:=[ja 14 3,ja 2 14]
abbrev QAn:IL:=[ja 15 3,ja 16 4,yu 17 15 16,ja 3 17]
abbrev QAo:RC:=.seq (jQ QAj (jX 8 0)) (.block 1 (jQ QAk (.seq (jQ QAl (.cond (.t 13) (jQ QAm (.ret)) (.skip))) (.reg QAn))))
abbrev QAp:IL:=[jd 2 (-1)]
abbrev QQL:RC:=jQ QAh (.seq (jQ QAi (.block 0 (.loop QAo))) (jQ QAp (.ret)))
abbrev QQM:List RR:=[.tmp 2]
theorem QQN:CT 147 18 QQL QQM:=ck Tryz.func147 Tryz.ntmps147 (by decide +kernel)
def Tt:IL:=[jd 4 0]
def Tu:IL:=[ja 6 0,ja 7 1,HD 8 6 7,ja 5 8]
def Tv:IL:=[ja 10 5,⟨some 11,.val (.bin .num .lss (.t 10) (.c (.int .u8 128))),none⟩,ja 9 11]
def Tw:IL:=[jd 4 1]
def NC:IL:=[ja 13 5,Cm 14 13 194,ja 15 14,jk 16 5 15,RL 17 16 223 15,jj 18 15 17,ja 19 18,jk 20 0 19,jk 21 1 19,zx 22 21 1 19,Na 23 239 20 22 1 19,jj 24 19 23,ja 12 24]
def Tx:IL:=[jd 4 2]
def ND:IL:=[ja 26 5,RM 27 26 224,ja 28 27,jk 29 0 28,jk 30 1 28,zx 31 30 1 28,⟨some 32,.call (.f 240) [(.t 29),(.t 31),(.c (.int .u8 160)),(.c (.int .u8 191))],(some (28,true))⟩,jj 33 28 32,ja 34 33,jk 35 0 34,jk 36 1 34,zx 37 36 2 34,Na 38 239 35 37 1 34,jj 39 34 38,ja 25 39]
def TA:IL:=[jd 4 3]
def NE:IL:=[ja 41 5,RM 42 41 237,ja 43 42,jk 44 0 43,jk 45 1 43,zx 46 45 1 43,⟨some 47,.call (.f 240) [(.t 44),(.t 46),(.c (.int .u8 128)),(.c (.int .u8 159))],(some (43,true))⟩,jj 48 43 47,ja 49 48,jk 50 0 49,jk 51 1 49,zx 52 51 2 49,Na 53 239 50 52 1 49,jj 54 49 53,ja 40 54]
def TB:IL:=[jd 4 3]
def DZ:IL:=[ja 56 5,Cm 57 56 225,ja 58 57,jk 59 5 58,RL 60 59 239 58,jj 61 58 60,ja 62 61,jk 63 5 62,⟨some 64,.val (.bin .num .neq (.t 63) (.c (.int .u8 237))),(some (62,true))⟩,jj 65 62 64,ja 66 65,jk 67 0 66,jk 68 1 66,zx 69 68 1 66,Na 70 239 67 69 2 66,jj 71 66 70,ja 55 71]
def CM:IL:=[jd 4 3]
def D0:IL:=[ja 73 5,RM 74 73 240,ja 75 74,jk 76 0 75,jk 77 1 75,zx 78 77 1 75,⟨some 79,.call (.f 240) [(.t 76),(.t 78),(.c (.int .u8 144)),(.c (.int .u8 191))],(some (75,true))⟩,jj 80 75 79,ja 81 80,jk 82 0 81,jk 83 1 81,zx 84 83 2 81,Na 85 239 82 84 2 81,jj 86 81 85,ja 72 86]
def CN:IL:=[jd 4 4]
def D1:IL:=[ja 88 5,Cm 89 88 241,ja 90 89,jk 91 5 90,RL 92 91 243 90,jj 93 90 92,ja 94 93,jk 95 0 94,jk 96 1 94,zx 97 96 1 94,Na 98 239 95 97 3 94,jj 99 94 98,ja 87 99]
def CO:IL:=[jd 4 4]
def D2:IL:=[ja 101 5,RM 102 101 244,ja 103 102,jk 104 0 103,jk 105 1 103,zx 106 105 1 103,⟨some 107,.call (.f 240) [(.t 104),(.t 106),(.c (.int .u8 128)),(.c (.int .u8 143))],(some (103,true))⟩,jj 108 103 107,ja 109 108,jk 110 0 109,jk 111 1 109,zx 112 111 2 109,Na 113 239 110 112 2 109,jj 114 109 113,ja 100 114]
def CP:IL:=[jd 4 4]
def CQ:IL:=[jd 4 0]
def QAq:RC:=jQ Tt (jQ Tu (.seq (.block 0 (jQ Tv (.cond (.t 9) (jQ Tw (.ret)) (jQ NC (.cond (.t 12) (jQ Tx (.ret)) (jQ ND (.cond (.t 25) (jQ TA (.ret)) (jQ NE (.cond (.t 40) (jQ TB (.ret)) (jQ DZ (.cond (.t 55) (jQ CM (.ret)) (jQ D0 (.cond (.t 72) (jQ CN (.ret)) (jQ D1 (.cond (.t 87) (jQ CO (.ret)) (jQ D2 (.cond (.t 100) (jQ CP (.ret)) (.skip)))))))))))))))))) (jQ CQ (.ret))))
def QAr:List RR:=[.tmp 4]
theorem QQO:CT 202 115 QAq QAr:=ck Tryz.func202 Tryz.ntmps202 (by decide +kernel)
abbrev QAs:IL:=[jg 6]
abbrev QAt:IL:=[jd 7 0]
abbrev QAu:IL:=[ja 8 7,ja 9 2,jo 10 8 9]
abbrev QAv:IL:=[ja 13 0,ja 14 1,ja 15 7,yu 16 14 15,⟨some 17,.call (.f 240) [(.t 13),(.t 16),(.c (.int .u8 128)),(.c (.int .u8 191))],none⟩,yb 18 17]
abbrev QAw:IL:=[jg 6]
abbrev QAx:IL:=[ja 11 7,jn 12 11 1,ja 7 12]
abbrev QAy:RC:=.seq (jQ QAu (jX 10 0)) (.seq (.block 1 (jQ QAv (.cond (.t 18) (jQ QAw (.ret)) (.skip)))) (.reg QAx))
abbrev QAz:IL:=[yg 6]
abbrev QQP:RC:=jQ QAs (.seq (jQ QAt (.block 0 (.loop QAy))) (jQ QAz (.ret)))
abbrev QQQ:List RR:=[.tmp 6]
theorem QQR:CT 239 19 QQP QQQ:=ck Tryz.func239 Tryz.ntmps239 (by decide +kernel)
abbrev QAA:IL:=[jg 8]
abbrev QAB:IL:=[ja 9 1,ja 10 0,jh 11 0 10,jo 12 9 11,ja 13 12,jk 14 0 13,jk 15 1 13,RN 16 14 15 13,jk 17 2 13,⟨some 18,.val (.bin .num .geq (.t 16) (.t 17)),(some (13,true))⟩,jj 19 13 18,ja 20 19,jk 21 0 20,jk 22 1 20,RN 23 21 22 20,jk 24 3 20,FQ 25 23 24 20,jj 26 20 25,ja 8 26]
abbrev QQS:RC:=jQ QAA (jQ QAB (.ret))
abbrev QQT:List RR:=[.tmp 8]
theorem QQU:CT 240 27 QQS QQT:=ck Tryz.func240 Tryz.ntmps240 (by decide +kernel)
abbrev QAC:IL:=[jf 1 1 0,jg 2]
abbrev QAD:IL:=[jb 3 3 1,jc 4 3,jh 5 1 4,js 6 5 0,ja 7 6,jl 8 4 1 7,jp 9 8 7,yc 10 1 9 7,yt 11 10 0 7,jj 12 7 11,ja 13 12,jl 14 5 1 13,jp 15 14 13,yc 16 1 15 13,yt 17 16 0 13,jj 18 13 17,ja 19 18,jl 20 6 1 19,jp 21 20 19,yc 22 1 21 19,yt 23 22 0 19,jj 24 19 23,ja 2 24]
abbrev QQV:RC:=jQ QAC (jQ QAD (.ret))
abbrev QQW:List RR:=[.tmp 2]
theorem QQX:CT 197 25 QQV QQW:=ck Tryz.func197 Tryz.ntmps197 (by decide +kernel)
abbrev QAE:IL:=[jd 2 0]
abbrev QAF:IL:=[ja 3 0]
abbrev QAG:IL:=[⟨some 5,.val (.bin .str .eql (.t 3) (.c (.str [100,101,112,114,101,99,97,116,101,100]))),none⟩,ja 4 5]
abbrev QAH:IL:=[⟨some 6,.val (.bin .str .eql (.t 3) (.c (.str [115,101,99,114,101,116]))),none⟩,ja 4 6]
abbrev QAI:IL:=[⟨some 7,.val (.bin .str .eql (.t 3) (.c (.str [105,100,101,109,112,111,116,101,110,116]))),none⟩,ja 4 7]
abbrev QAJ:IL:=[jd 2 1]
abbrev QAK:IL:=[⟨some 9,.val (.bin .str .eql (.t 3) (.c (.str [100,111,99]))),none⟩,ja 8 9]
abbrev QAL:IL:=[⟨some 10,.val (.bin .str .eql (.t 3) (.c (.str [97,108,105,97,115]))),none⟩,ja 8 10]
abbrev QAM:IL:=[⟨some 11,.val (.bin .str .eql (.t 3) (.c (.str [114,111,117,116,101]))),none⟩,ja 8 11]
abbrev QAN:IL:=[⟨some 12,.val (.bin .str .eql (.t 3) (.c (.str [111,119,110,101,114]))),none⟩,ja 8 12]
abbrev Qe2:IL:=[jd 2 7]
abbrev Qe3:IL:=[⟨some 14,.val (.bin .str .eql (.t 3) (.c (.str [115,105,110,99,101]))),none⟩,ja 13 14]
abbrev Qe4:IL:=[⟨some 15,.val (.bin .str .eql (.t 3) (.c (.str [117,110,116,105,108]))),none⟩,ja 13 15]
abbrev Qe5:IL:=[⟨some 16,.val (.bin .str .eql (.t 3) (.c (.str [108,101,110,103,116,104]))),none⟩,ja 13 16]
abbrev Qe6:IL:=[⟨some 17,.val (.bin .str .eql (.t 3) (.c (.str [116,105,109,101,111,117,116]))),none⟩,ja 13 17]
abbrev Qe7:IL:=[jd 2 4]
abbrev Qe8:IL:=[⟨some 19,.val (.bin .str .eql (.t 3) (.c (.str [109,105,110]))),none⟩,ja 18 19]
abbrev Qe9:IL:=[⟨some 20,.val (.bin .str .eql (.t 3) (.c (.str [109,97,120]))),none⟩,ja 18 20]
abbrev Qfa:IL:=[jd 2 3]
abbrev Qfb:IL:=[jd 2 0]
abbrev QAO:RC:=jQ QAE (.seq (jQ QAF (.block 0 (.seq (jQ QAG (.cond (.t 4) (.skip) (jQ QAH (.cond (.t 4) (.skip) (.reg QAI))))) (.cond (.t 4) (jQ QAJ (.ret)) (.seq (jQ QAK (.cond (.t 8) (.skip) (jQ QAL (.cond (.t 8) (.skip) (jQ QAM (.cond (.t 8) (.skip) (.reg QAN))))))) (.cond (.t 8) (jQ Qe2 (.ret)) (.seq (jQ Qe3 (.cond (.t 13) (.skip) (jQ Qe4 (.cond (.t 13) (.skip) (jQ Qe5 (.cond (.t 13) (.skip) (.reg Qe6))))))) (.cond (.t 13) (jQ Qe7 (.ret)) (.seq (jQ Qe8 (.cond (.t 18) (.skip) (.reg Qe9))) (.cond (.t 18) (jQ Qfa (.ret)) (.skip))))))))))) (jQ Qfb (.ret)))
abbrev QAP:List RR:=[.tmp 2]
theorem QAQ:CT 199 21 QAO QAP:=ck Tryz.func199 Tryz.ntmps199 (by decide +kernel)
abbrev QAR:IL:=[jg 4]
abbrev QAS:IL:=[ja 5 0]
abbrev QAT:IL:=[⟨some 7,.val (.bin .str .eql (.t 5) (.c (.str [100,101,112,114,101,99,97,116,101,100]))),none⟩,ja 6 7]
abbrev QAU:IL:=[⟨some 8,.val (.bin .str .eql (.t 5) (.c (.str [100,111,99]))),none⟩,ja 6 8]
abbrev QAV:IL:=[ja 9 1,yj 10 9 1,ja 11 10,jk 12 1 11,ym 13 12 6 11,jj 14 11 13,ja 4 14]
abbrev QAW:IL:=[⟨some 16,.val (.bin .str .eql (.t 5) (.c (.str [97,108,105,97,115]))),none⟩,ja 15 16]
abbrev QAX:IL:=[⟨some 17,.val (.bin .str .eql (.t 5) (.c (.str [115,105,110,99,101]))),none⟩,ja 15 17]
abbrev QAY:IL:=[⟨some 18,.val (.bin .str .eql (.t 5) (.c (.str [117,110,116,105,108]))),none⟩,ja 15 18]
abbrev QAZ:IL:=[ja 19 1,js 20 19 2,ja 21 20,jw 22 1 21,zf 23 22 4 21,jt 24 21 23,ja 25 24,jw 26 1 25,zf 27 26 6 25,jt 28 25 27,ja 4 28]
abbrev QA0:IL:=[⟨some 30,.val (.bin .str .eql (.t 5) (.c (.str [109,105,110]))),none⟩,ja 29 30]
abbrev Qfc:IL:=[⟨some 31,.val (.bin .str .eql (.t 5) (.c (.str [109,97,120]))),none⟩,ja 29 31]
abbrev Qfd:IL:=[⟨some 32,.val (.bin .str .eql (.t 5) (.c (.str [108,101,110,103,116,104]))),none⟩,ja 29 32]
abbrev Qfe:IL:=[⟨some 33,.val (.bin .str .eql (.t 5) (.c (.str [115,101,99,114,101,116]))),none⟩,ja 29 33]
abbrev Qff:IL:=[ja 34 1,js 35 34 2,ja 4 35]
abbrev Qfg:IL:=[⟨some 37,.val (.bin .str .eql (.t 5) (.c (.str [105,100,101,109,112,111,116,101,110,116]))),none⟩,ja 36 37]
abbrev Qfh:IL:=[⟨some 38,.val (.bin .str .eql (.t 5) (.c (.str [116,105,109,101,111,117,116]))),none⟩,ja 36 38]
abbrev Qfi:IL:=[⟨some 39,.val (.bin .str .eql (.t 5) (.c (.str [114,111,117,116,101]))),none⟩,ja 36 39]
abbrev Qfj:IL:=[ja 40 1,js 41 40 6,ja 4 41]
abbrev Qfk:IL:=[ja 42 1,js 43 42 1,ja 44 43,jw 45 1 44,zf 46 45 5 44,jt 47 44 46,ja 4 47]
abbrev QA1:RC:=jQ QAR (.seq (jQ QAS (.block 0 (.seq (jQ QAT (.cond (.t 6) (.skip) (.reg QAU))) (.cond (.t 6) (jQ QAV (.ret)) (.seq (jQ QAW (.cond (.t 15) (.skip) (jQ QAX (.cond (.t 15) (.skip) (.reg QAY))))) (.cond (.t 15) (jQ QAZ (.ret)) (.seq (jQ QA0 (.cond (.t 29) (.skip) (jQ Qfc (.cond (.t 29) (.skip) (jQ Qfd (.cond (.t 29) (.skip) (.reg Qfe))))))) (.cond (.t 29) (jQ Qff (.ret)) (.seq (jQ Qfg (.cond (.t 36) (.skip) (jQ Qfh (.cond (.t 36) (.skip) (.reg Qfi))))) (.cond (.t 36) (jQ Qfj (.ret)) (.skip))))))))))) (jQ Qfk (.ret)))
abbrev QA2:List RR:=[.tmp 4]
theorem QQY:CT 200 48 QA1 QA2:=ck Tryz.func200 Tryz.ntmps200 (by decide +kernel)
abbrev QJN:IL:=[jf 2 2 0,jd 4 0]
abbrev QJO:IL:=[jd 5 0]
abbrev QJP:IL:=[ja 6 5,jb 7 0 2,jc 8 7,jh 9 1 8,jo 10 6 9]
abbrev QJQ:IL:=[jb 13 0 2,jc 14 13,ja 15 5,jm 16 5 14 15,jb 17 0 16,jc 18 17,ja 19 1,yv 20 18 19]
abbrev QJR:IL:=[ja 21 5,ja 4 21]
abbrev QJS:IL:=[ja 11 5,jn 12 11 1,ja 5 12]
abbrev QJT:RC:=.seq (jQ QJP (jX 10 0)) (.seq (.block 1 (jQ QJQ (.cond (.t 20) (jQ QJR (.ret)) (.skip)))) (.reg QJS))
abbrev QJU:IL:=[jd 4 (-1)]
abbrev r95:RC:=jQ QJN (.seq (jQ QJO (.block 0 (.loop QJT))) (jQ QJU (.ret)))
abbrev o95:List RR:=[.tmp 4]
theorem k95:CT 95 22 r95 o95:=ck Tryz.func95 Tryz.ntmps95 (by decide +kernel)
abbrev QJV:IL:=[jg 2]
abbrev QJW:IL:=[ja 3 0,jr 4 141 3,ja 5 4,jk 6 0 5,zy 7 140 6 5,yn 8 7 5,jj 9 5 8,ja 2 9]
abbrev r86:RC:=jQ QJV (jQ QJW (.ret))
abbrev o86:List RR:=[.tmp 2]
theorem k86:CT 86 10 r86 o86:=ck Tryz.func86 Tryz.ntmps86 (by decide +kernel)
abbrev QA3:IL:=[jg 2]
abbrev QA4:IL:=[ja 3 0]
abbrev QA5:IL:=[⟨some 5,.val (.bin .str .eql (.t 3) (.c (.str [109,101,115,115,97,103,101]))),none⟩,ja 4 5]
abbrev QA6:IL:=[⟨some 6,.val (.bin .str .eql (.t 3) (.c (.str [101,110,117,109]))),none⟩,ja 4 6]
abbrev QA7:IL:=[⟨some 7,.val (.bin .str .eql (.t 3) (.c (.str [115,101,114,118,105,99,101]))),none⟩,ja 4 7]
abbrev QA8:IL:=[⟨some 8,.val (.bin .str .eql (.t 3) (.c (.str [117,110,105,111,110]))),none⟩,ja 4 8]
abbrev QA9:IL:=[⟨some 9,.val (.bin .str .eql (.t 3) (.c (.str [109,97,112]))),none⟩,ja 4 9]
abbrev QBa:IL:=[⟨some 10,.val (.bin .str .eql (.t 3) (.c (.str [108,105,115,116]))),none⟩,ja 4 10]
abbrev QBb:IL:=[⟨some 11,.val (.bin .str .eql (.t 3) (.c (.str [114,101,113,117,105,114,101,100]))),none⟩,ja 4 11]
abbrev QBc:IL:=[⟨some 12,.val (.bin .str .eql (.t 3) (.c (.str [111,112,116,105,111,110,97,108]))),none⟩,ja 4 12]
abbrev Qfl:IL:=[⟨some 13,.val (.bin .str .eql (.t 3) (.c (.str [112,108,97,105,110]))),none⟩,ja 4 13]
abbrev Qfm:IL:=[⟨some 14,.val (.bin .str .eql (.t 3) (.c (.str [100,101,102,97,117,108,116]))),none⟩,ja 4 14]
abbrev Qfn:IL:=[⟨some 15,.val (.bin .str .eql (.t 3) (.c (.str [114,101,115,101,114,118,101,100]))),none⟩,ja 4 15]
abbrev Qfo:IL:=[⟨some 16,.val (.bin .str .eql (.t 3) (.c (.str [105,109,112,111,114,116]))),none⟩,ja 4 16]
abbrev Qfp:IL:=[⟨some 17,.val (.bin .str .eql (.t 3) (.c (.str [115,112,97,99,101]))),none⟩,ja 4 17]
abbrev Qfq:IL:=[⟨some 18,.val (.bin .str .eql (.t 3) (.c (.str [114,112,99]))),none⟩,ja 4 18]
abbrev Qfr:IL:=[⟨some 19,.val (.bin .str .eql (.t 3) (.c (.str [115,116,114,101,97,109]))),none⟩,ja 4 19]
abbrev Qfs:IL:=[⟨some 20,.val (.bin .str .eql (.t 3) (.c (.str [114,101,116,117,114,110,115]))),none⟩,ja 4 20]
abbrev Qft:IL:=[⟨some 21,.val (.bin .str .eql (.t 3) (.c (.str [111,112,101,110]))),none⟩,ja 4 21]
abbrev Qfu:IL:=[⟨some 22,.val (.bin .str .eql (.t 3) (.c (.str [116,114,117,101]))),none⟩,ja 4 22]
abbrev Qfv:IL:=[⟨some 23,.val (.bin .str .eql (.t 3) (.c (.str [102,97,108,115,101]))),none⟩,ja 4 23]
abbrev Qfw:IL:=[⟨some 24,.val (.bin .str .eql (.t 3) (.c (.str [110,97,110]))),none⟩,ja 4 24]
abbrev Qfx:IL:=[⟨some 25,.val (.bin .str .eql (.t 3) (.c (.str [105,110,102]))),none⟩,ja 4 25]
abbrev Qfy:IL:=[yg 2]
abbrev Qfz:IL:=[jg 2]
abbrev QQZ:RC:=jQ QA3 (.seq (jQ QA4 (.block 0 (.seq (jQ QA5 (.cond (.t 4) (.skip) (jQ QA6 (.cond (.t 4) (.skip) (jQ QA7 (.cond (.t 4) (.skip) (jQ QA8 (.cond (.t 4) (.skip) (jQ QA9 (.cond (.t 4) (.skip) (jQ QBa (.cond (.t 4) (.skip) (jQ QBb (.cond (.t 4) (.skip) (jQ QBc (.cond (.t 4) (.skip) (jQ Qfl (.cond (.t 4) (.skip) (jQ Qfm (.cond (.t 4) (.skip) (jQ Qfn (.cond (.t 4) (.skip) (jQ Qfo (.cond (.t 4) (.skip) (jQ Qfp (.cond (.t 4) (.skip) (jQ Qfq (.cond (.t 4) (.skip) (jQ Qfr (.cond (.t 4) (.skip) (jQ Qfs (.cond (.t 4) (.skip) (jQ Qft (.cond (.t 4) (.skip) (jQ Qfu (.cond (.t 4) (.skip) (jQ Qfv (.cond (.t 4) (.skip) (jQ Qfw (.cond (.t 4) (.skip) (.reg Qfx))))))))))))))))))))))))))))))))))))))))) (.cond (.t 4) (jQ Qfy (.ret)) (.skip))))) (jQ Qfz (.ret)))
abbrev QQ0:List RR:=[.tmp 2]
theorem QQ1:CT 140 26 QQZ QQ0:=ck Tryz.func140 Tryz.ntmps140 (by decide +kernel)
abbrev QBd:IL:=[jg 2]
abbrev QBe:IL:=[ja 4 0,jh 5 0 4,js 6 5 0,ja 7 6,jw 8 0 7,zt 9 0 8 7,zg 10 9 40 7,jt 11 7 10,ja 12 11,jw 13 0 12,⟨some 14,.val (.idx (.t 13) (.c (.int .i64 0))),(some (12,false))⟩,yq 15 195 14 12,zh 16 15 12,jw 17 16 12,jk 18 0 17,⟨some 19,.val (.idx (.t 18) (.c (.int .i64 0))),(some (17,true))⟩,zy 20 196 19 17,yn 21 20 17,yy 22 17 21 12,jt 23 12 22]
abbrev QBf:IL:=[jg 2]
abbrev QBg:IL:=[jd 3 1]
abbrev QBh:IL:=[ja 24 3,ja 25 0,jh 26 0 25,jo 27 24 26]
abbrev QBi:IL:=[ja 30 0,ja 31 3,HD 32 30 31,jr 33 195 32,yb 34 33,ja 35 34,jk 36 0 35,jk 37 3 35,RN 38 36 37 35,zy 39 196 38 35,yn 40 39 35,jj 41 35 40,ja 42 41,jk 43 0 42,jk 44 3 42,RN 45 43 44 42,⟨some 46,.val (.bin .num .neq (.t 45) (.c (.int .u8 95))),(some (42,true))⟩,jj 47 42 46,ja 48 47,jk 49 0 48,jk 50 3 48,RN 51 49 50 48,⟨some 52,.val (.bin .num .lss (.t 51) (.c (.int .u8 48))),(some (48,true))⟩,jk 53 52 48,jw 54 0 53,jw 55 3 53,⟨some 56,.val (.idx (.t 54) (.t 55)),(some (53,false))⟩,⟨some 57,.val (.bin .num .gtr (.t 56) (.c (.int .u8 57))),(some (53,false))⟩,RG 58 53 57 48,jj 59 48 58]
abbrev QBj:IL:=[jg 2]
abbrev QBk:IL:=[ja 28 3,jn 29 28 1,ja 3 29]
abbrev TC:RC:=.seq (jQ QBh (jX 27 0)) (.seq (.block 1 (jQ QBi (.cond (.t 59) (jQ QBj (.ret)) (.skip)))) (.reg QBk))
abbrev QBl:IL:=[yg 2]
abbrev QQ2:RC:=jQ QBd (.seq (jQ QBe (.cond (.t 23) (jQ QBf (.ret)) (.skip))) (.seq (jQ QBg (.block 0 (.loop TC))) (jQ QBl (.ret))))
abbrev QQ3:List RR:=[.tmp 2]
theorem QQ4:CT 141 60 QQ2 QQ3:=ck Tryz.func141 Tryz.ntmps141 (by decide +kernel)
abbrev QBm:IL:=[jg 2]
abbrev QBn:IL:=[ja 3 0,Cm 4 3 65,ja 5 4,jk 6 0 5,RL 7 6 90 5,jj 8 5 7,ja 2 8]
abbrev QQ5:RC:=jQ QBm (jQ QBn (.ret))
abbrev QQ6:List RR:=[.tmp 2]
theorem QQ7:CT 196 9 QQ5 QQ6:=ck Tryz.func196 Tryz.ntmps196 (by decide +kernel)
abbrev QBo:IL:=[jg 2]
abbrev QBp:IL:=[ja 3 0,Cm 4 3 97,ja 5 4,jk 6 0 5,RL 7 6 122 5,jj 8 5 7,ja 2 8]
abbrev QQ8:RC:=jQ QBo (jQ QBp (.ret))
abbrev QQ9:List RR:=[.tmp 2]
theorem QRa:CT 195 9 QQ8 QQ9:=ck Tryz.func195 Tryz.ntmps195 (by decide +kernel)
abbrev QJX:IL:=[jg 2]
abbrev QJY:IL:=[ja 6 0,jr 7 138 6,yb 8 7]
abbrev QJZ:IL:=[jg 2]
abbrev QJ0:IL:=[jd 3 0]
abbrev QJ1:IL:=[ja 9 3,yk 10 9 120,ja 11 10,jk 12 0 11,⟨some 13,.val (.bin .str .neq (.t 12) (.c (.str []))),(some (11,true))⟩,jj 14 11 13]
abbrev QJ2:IL:=[ja 18 0,jr 19 139 18,ja 17 19,jv 20 17 0,jv 21 17 1,ja 4 20,ja 5 21]
abbrev QJ3:IL:=[ja 22 5,jr 23 140 22]
abbrev QJ4:IL:=[jg 2]
abbrev QJ5:IL:=[ja 24 4,ja 0 24]
abbrev QJ6:IL:=[ja 15 3,jn 16 15 1,ja 3 16]
abbrev QJ7:RC:=.seq (jQ QJ1 (jX 14 0)) (.seq (.block 1 (jQ QJ2 (.seq (jQ QJ3 (.cond (.t 23) (jQ QJ4 (.ret)) (.skip))) (.reg QJ5)))) (.reg QJ6))
abbrev QBq:IL:=[yg 2]
abbrev r85:RC:=jQ QJX (.seq (jQ QJY (.cond (.t 8) (jQ QJZ (.ret)) (.skip))) (.seq (jQ QJ0 (.block 0 (.loop QJ7))) (jQ QBq (.ret))))
abbrev o85:List RR:=[.tmp 2]
theorem k85:CT 85 25 r85 o85:=ck Tryz.func85 Tryz.ntmps85 (by decide +kernel)
abbrev QBr:IL:=[GR 2,GR 3]
abbrev QBs:IL:=[ja 5 0,jh 6 0 5,B5 7 6 1,ja 4 7]
abbrev QBt:IL:=[ja 8 4,yj 9 8 0]
abbrev QBu:IL:=[ja 12 0,ja 13 4,HD 14 12 13,RM 15 14 46]
abbrev QBv:IL:=[ja 16 0,ja 17 4,⟨some 18,.val (.slc none (.t 16) none (some (.t 17)) none),none⟩,ja 19 0,ja 20 4,jn 21 20 1,Cj 22 19 21,ja 2 18,ja 3 22]
abbrev QBw:IL:=[ja 10 4,B5 11 10 1,ja 4 11]
abbrev QBx:RC:=.seq (jQ QBt (jX 9 0)) (.seq (.block 1 (jQ QBu (.cond (.t 15) (jD QBv (.ret)) (.skip)))) (.reg QBw))
abbrev QBy:IL:=[ja 23 0,GR 2,ja 3 23]
abbrev QRb:RC:=jQ QBr (.seq (jQ QBs (.block 0 (.loop QBx))) (jQ QBy (.ret)))
abbrev QRc:List RR:=[.tmp 2,.tmp 3]
theorem QRd:CT 139 24 QRb QRc:=ck Tryz.func139 Tryz.ntmps139 (by decide +kernel)
abbrev QBz:IL:=[jg 2]
abbrev QBA:IL:=[ja 5 0,jh 6 0 5,yl 7 6 120]
abbrev QBB:IL:=[jg 2]
abbrev QBC:IL:=[GR 3]
abbrev QBD:IL:=[jd 4 0]
abbrev QBE:IL:=[ja 8 4,ja 9 0,jh 10 0 9,jo 11 8 10]
abbrev QBF:IL:=[ja 14 0,ja 15 4,HD 16 14 15,⟨some 17,.val (.bin .num .neq (.t 16) (.c (.int .u8 46))),none⟩]
abbrev QBG:IL:=[ja 18 3,ja 19 0,ja 20 4,ja 21 4,jn 22 21 1,⟨some 23,.val (.slc none (.t 19) (some (.t 20)) (some (.t 22)) none),none⟩,⟨some 24,.val (.bin .str .add (.t 18) (.t 23)),none⟩,ja 3 24]
abbrev QBH:IL:=[ja 25 3,jr 26 141 25,yb 27 26]
abbrev QfA:IL:=[jg 2]
abbrev QfB:IL:=[GR 3]
abbrev QBI:IL:=[ja 12 4,jn 13 12 1,ja 4 13]
abbrev QBJ:RC:=.seq (jQ QBE (jX 11 0)) (.seq (.block 1 (.seq (jQ QBF (.cond (.t 17) (jQ QBG (.exit 1)) (.skip))) (.seq (jQ QBH (.cond (.t 27) (jQ QfA (.ret)) (.skip))) (.reg QfB)))) (.reg QBI))
abbrev QfC:IL:=[ja 28 3,jr 29 141 28,ja 2 29]
abbrev QRe:RC:=jQ QBz (.seq (jQ QBA (.cond (.t 7) (jQ QBB (.ret)) (.skip))) (jQ QBC (.seq (jQ QBD (.block 0 (.loop QBJ))) (jQ QfC (.ret)))))
abbrev QRf:List RR:=[.tmp 2]
theorem QRg:CT 138 30 QRe QRf:=ck Tryz.func138 Tryz.ntmps138 (by decide +kernel)
def Qae:IL:=[jf 1 1 0,yd 2]
def Qaf:IL:=[jb 8 0 1,jc 9 8,⟨some 10,.val (.build [.str [],.nils] [(0,1,(.t 9))]),none⟩,⟨some 3,.allocN 3 [.str [],.nils],none⟩,ji 2 3 10]
def Qag:IL:=[jb 11 0 1,jc 12 11,jr 13 85 12,yb 14 13,ys 15 40 3 14 (-1) 8]
def Qah:IL:=[jb 16 2 1,jc 17 16,jh 18 1 17,yk 19 18 1,ja 20 19,ju 21 2 1 20,jz 22 21 20,zt 23 1 22 20,zg 24 23 64 20,jt 25 20 24,ja 26 25,ju 27 3 1 26,jz 28 27 26,zt 29 1 28 26,zg 30 29 16 26,jt 31 26 30,ys 32 40 3 31 (-1) 3]
def Bj:IL:=[jb 33 2 1,jc 34 33,jh 35 1 34,yl 36 35 0,ja 37 36,jl 38 2 1 37,jp 39 38 37,⟨some 40,.val (.iaddr 3 none (.t 39) (.c (.int .i64 0))),(some (37,true))⟩,jl 41 1 40 37,jp 42 41 37,FK 43 42 0 37,jj 44 37 43,ys 45 40 3 44 (-1) 14]
def Bk:IL:=[jd 4 0]
def Qai:IL:=[ja 46 4,jb 47 2 1,jc 48 47,jh 49 1 48,jo 50 46 49]
def Qaj:IL:=[jb 53 2 1,jc 54 53,ja 55 4,jm 56 3 54 55,je 57 3 56,⟨some 5,.allocN 5 [.str [],.int .i64 0,.nils],none⟩,ji 3 5 57]
def Qak:IL:=[jg 6]
def TD:IL:=[jd 7 0]
def TE:IL:=[ja 58 7,ja 59 4,jo 60 58 59]
def TF:IL:=[jb 63 2 1,jx 64 0 1 63,ja 65 7,jm 66 3 64 65,jb 67 0 66,zl 68 67,jb 69 0 5,jx 70 0 5 69,yv 71 68 70]
def TG:IL:=[yg 6]
def NF:IL:=[ja 61 7,jn 62 61 1,ja 7 62]
def Pk:RC:=.seq (jQ TE (jX 60 2)) (.seq (.block 3 (jD TF (.cond (.t 71) (.reg TG) (.skip)))) (.reg NF))
def NG:IL:=[jb 72 1 5,jc 73 72,yk 74 73 0,ja 75 74,ju 76 1 5 75,jz 77 76 75,zg 78 77 2147483647 75,jt 79 75 78,jb 80 1 5,jc 81 80,zd 82 40 3 79 81 6]
def G0:IL:=[ja 83 4,yl 84 83 0,ja 85 84,jl 86 1 5 85,GS 87 0 5 86 85,jl 88 2 1 85,GS 89 0 1 88 85,jk 90 4 85,Co 91 90 1 85,zq 92 3 89 91 85,jl 93 1 92 85,HF 94 93 85,FQ 95 87 94 85,jj 96 85 95,jb 97 1 5,jx 98 0 5 97,zd 99 40 3 96 98 11]
def NH:IL:=[jb 100 0 5,jx 101 0 5 100,jr 102 86 101,yb 103 102,jb 104 1 5,jx 105 0 5 104,zd 106 40 3 103 105 8]
def NI:IL:=[ja 107 6,jb 108 1 5,jc 109 108,zd 110 40 3 107 109 9]
def NJ:IL:=[jb 111 3 1,jx 112 0 1 111,jb 113 1 5,jx 114 0 5 113,jq 115 87 112 114,jb 116 1 5,jx 117 0 5 116,zd 118 40 3 115 117 21]
def NK:IL:=[jb 119 2 5,jc 120 119,jb 121 1 5,jc 122 121,⟨some 123,.callF (.f 92) [(.t 3),(.t 120),(.c (.int .i64 4)),(.t 122)],none⟩]
def Qal:IL:=[ja 51 4,jn 52 51 1,ja 4 52]
def Bl:RC:=.gho (.drop 5) (.seq (jQ Qai (jX 50 0)) (.seq (.block 1 (jQ Qaj (jQ Qak (.seq (jQ TD (.block 2 (.loop Pk))) (jQ NG (jD G0 (jD NH (jQ NI (jD NJ (.reg NK)))))))))) (.reg Qal)))
def G3:IL:=[jb 124 3 1,jc 125 124,ys 126 93 3 125 0 2147483647]
def G4:IL:=[jb 127 4 1,jc 128 127,ys 129 92 3 128 3 (-1)]
def G5:IL:=[jb 130 1 3,jc 131 130,ja 2 131]
def r45:RC:=jQ Qae (jQ Qaf (.gho (.vecc 3 1 1100 3) (jQ Qag (jQ Qah (jQ Bj (.seq (jQ Bk (.block 0 (.loop Bl))) (jQ G3 (jQ G4 (jQ G5 (.ret))))))))))
def o45:List RR:=[.tmp 2]
theorem k45:CT 45 132 r45 o45:=ck Tryz.func45 Tryz.ntmps45 (by decide +kernel)
def Qam:IL:=[jd 8 0]
def Qan:IL:=[ja 9 8,ja 10 1,jh 11 1 10,jo 12 9 11]
def Pl:IL:=[ja 15 0,ja 16 1,ja 17 8,jm 18 2 16 17,jb 19 0 18,zl 20 19,ja 21 2,jo 22 20 21,ja 23 22,jw 24 1 23,jw 25 8 23,zv 26 2 24 25 23,ju 27 1 26 23,HB 28 27 23,jw 29 3 23,Cl 30 28 29 23,jt 31 23 30,ja 32 31,jw 33 1 32,jw 34 8 32,zv 35 2 33 34 32,ju 36 0 35 32,HB 37 36 32,jw 38 1 32,jw 39 8 32,zv 40 2 38 39 32,ju 41 1 40 32,HB 42 41 32,Cl 43 37 42 32,jt 44 32 43,ys 45 40 15 44 (-1) 6]
def Bm:IL:=[ja 46 0,ja 47 8,yl 48 47 0,ja 49 48,jk 50 1 49,jk 51 8 49,zq 52 2 50 51 49,jl 53 0 52 49,HF 54 53 49,jk 55 1 49,jk 56 8 49,Co 57 56 1 49,zq 58 2 55 57 49,jl 59 1 58 49,HF 60 59 49,FQ 61 54 60 49,jj 62 49 61,ys 63 40 46 62 (-1) 11]
def Qao:IL:=[ja 13 8,jn 14 13 1,ja 8 14]
def Qap:RC:=.seq (jQ Qan (jX 12 0)) (.seq (.block 1 (jD Pl (.draw Bm))) (.reg Qao))
def r93:RC:=jQ Qam (.block 0 (.loop Qap))
def o93:List RR:=[]
theorem k93:CT 93 64 r93 o93:=ck Tryz.func93 Tryz.ntmps93 (by decide +kernel)
abbrev QJ8:IL:=[jg 4]
abbrev QJ9:IL:=[jd 5 0]
abbrev QKa:IL:=[ja 6 5,ja 7 0,jh 8 1 7,jo 9 6 8]
abbrev QKb:IL:=[ja 12 0,ja 13 5,jm 14 2 12 13,jb 15 0 14,jc 16 15,ja 17 1,⟨some 18,.val (.bin .num .leq (.t 16) (.t 17)),none⟩,ja 19 18,jk 20 1 19,jk 21 0 19,jk 22 5 19,zq 23 2 21 22 19,jl 24 1 23 19,jp 25 24 19,FQ 26 20 25 19,jj 27 19 26]
abbrev QKc:IL:=[yg 4]
abbrev QKd:IL:=[ja 10 5,jn 11 10 1,ja 5 11]
abbrev QKe:RC:=.seq (jQ QKa (jX 9 0)) (.seq (.block 1 (jQ QKb (.cond (.t 27) (jQ QKc (.ret)) (.skip)))) (.reg QKd))
abbrev QKf:IL:=[jg 4]
abbrev r87:RC:=jQ QJ8 (.seq (jQ QJ9 (.block 0 (.loop QKe))) (jQ QKf (.ret)))
abbrev o87:List RR:=[.tmp 4]
theorem k87:CT 87 28 r87 o87:=ck Tryz.func87 Tryz.ntmps87 (by decide +kernel)
def Qaq:IL:=[jf 3 3 0,jf 4 4 1,yd 6]
def Qar:IL:=[jb 13 0 4,jc 14 13,⟨some 15,.val (.build [.str [],.nils] [(0,1,(.t 14))]),none⟩,⟨some 7,.allocN 7 [.str [],.nils],none⟩,ji 2 7 15]
def Qas:IL:=[jb 16 0 4,jc 17 16,jr 18 85 17,yb 19 18,ys 20 40 7 19 (-1) 8]
def Qat:IL:=[jb 21 1 4,jc 22 21,jh 23 1 22,yl 24 23 64,ja 25 24,ju 26 2 4 25,jz 27 26 25,zt 28 1 27 25,zg 29 28 16 25,jt 30 25 29,ja 31 30,ju 32 3 4 31,jz 33 32 31,zt 34 1 33 31,zg 35 34 16 31,jt 36 31 35,ys 37 40 7 36 (-1) 3]
def Pm:IL:=[jd 8 0]
def Qau:IL:=[ja 38 8,jb 39 1 4,jc 40 39,jh 41 1 40,jo 42 38 41]
def Qav:IL:=[jb 45 1 4,jc 46 45,ja 47 8,jm 48 16 46 47,je 49 16 48,yx 9 9,ji 16 9 49]
def Qaw:IL:=[jg 10]
def Qax:IL:=[jd 11 0]
def TH:IL:=[ja 50 11,ja 51 8,jo 52 50 51]
def TI:IL:=[jb 55 1 4,jx 56 0 4 55,ja 57 11,jm 58 16 56 57,jb 59 1 58,zl 60 59,jb 61 1 9,jx 62 0 9 61,yv 63 60 62]
def TJ:IL:=[yg 10]
def NL:IL:=[ja 53 11,jn 54 53 1,ja 11 54]
def Pn:RC:=.seq (jQ TH (jX 52 2)) (.seq (.block 3 (jD TI (.cond (.t 63) (.reg TJ) (.skip)))) (.reg NL))
def NM:IL:=[jb 64 0 9,jc 65 64,yk 66 65 1,ja 67 66,ju 68 0 9 67,jz 69 68 67,zg 70 69 65535 67,jt 71 67 70,jb 72 0 9,jc 73 72,zd 74 40 7 71 73 6]
def G6:IL:=[ja 75 8,yl 76 75 0,ja 77 76,jl 78 0 9 77,GS 79 0 9 78 77,jl 80 1 4 77,GS 81 0 4 80 77,jk 82 8 77,Co 83 82 1 77,zq 84 16 81 83 77,jl 85 0 84 77,HF 86 85 77,FQ 87 79 86 77,jj 88 77 87,jb 89 0 9,jx 90 0 9 89,zd 91 40 7 88 90 11]
def NN:IL:=[jb 92 1 9,jx 93 0 9 92,jr 94 86 93,yb 95 94,jb 96 0 9,jx 97 0 9 96,zd 98 40 7 95 97 8]
def NO:IL:=[ja 99 10,jb 100 0 9,jc 101 100,zd 102 40 7 99 101 9]
def NP:IL:=[jb 103 2 4,jx 104 0 4 103,jb 105 0 9,jx 106 0 9 105,jq 107 87 104 106,ja 108 107,ju 109 3 4 108,yw 110 0 4 109 108,ju 111 1 9 108,yw 112 0 9 111 108,HA 113 83 110 112 108,jt 114 108 113,jb 115 0 9,jx 116 0 9 115,zd 117 40 7 114 116 21]
def NQ:IL:=[jy 118 0 9 16 9,jr 119 88 118,yb 120 119,jb 121 0 9,jx 122 0 9 121,zd 123 40 7 120 122 1]
def NR:IL:=[jy 124 0 3 3 3,jy 125 0 9 16 9,jq 126 89 124 125,yb 127 126,jb 128 0 9,jx 129 0 9 128,zd 130 40 7 127 129 12]
def NS:IL:=[jy 131 0 4 5 4,ja 132 8,jq 133 90 131 132,yb 134 133,jb 135 0 9,jx 136 0 9 135,zd 137 40 7 134 136 15]
def NT:IL:=[jy 138 0 3 3 3,jy 139 0 9 16 9,jq 140 91 138 139,yb 141 140,jb 142 0 9,jx 143 0 9 142,zd 144 40 7 141 143 1]
def NU:IL:=[jb 145 15 9,jc 146 145,jb 147 0 9,jc 148 147,⟨some 149,.callF (.f 92) [(.t 7),(.t 146),(.c (.int .i64 2)),(.t 148)],none⟩]
def Qay:IL:=[ja 43 8,jn 44 43 1,ja 8 44]
def Po:RC:=.gho (.drop 9) (.seq (jQ Qau (jX 42 0)) (.seq (.block 1 (jQ Qav (jQ Qaw (.seq (jQ Qax (.block 2 (.loop Pn))) (jQ NM (jD G6 (jD NN (jQ NO (jD NP (jD NQ (jD NR (jD NS (jD NT (.reg NU)))))))))))))) (.reg Qay)))
def NV:IL:=[jb 150 2 4,jc 151 150,ys 152 93 7 151 1 65535]
def NW:IL:=[jd 12 0]
def TK:IL:=[ja 153 12,jb 154 3 4,jc 155 154,jh 156 1 155,jo 157 153 156]
def TL:IL:=[jb 160 3 4,jc 161 160,ja 162 12,jm 163 1 161 162,jc 164 163,jr 165 94 164,yb 166 165,ys 167 40 7 166 (-1) 7]
def TM:IL:=[ja 158 12,jn 159 158 1,ja 12 159]
def Bn:RC:=.seq (jQ TK (jX 157 4)) (.seq (.block 5 (.reg TL)) (.reg TM))
def NX:IL:=[jb 168 4 4,jc 169 168,ys 170 92 7 169 1 (-1)]
def NY:IL:=[je 171 3 3,je 172 5 4,ja 173 2,yr 174 84 171 172 173,ys 175 40 7 174 (-1) 19]
def NZ:IL:=[jb 176 1 7,jc 177 176,ja 6 177]
def r44:RC:=jQ Qaq (jQ Qar (.gho (.vecc 7 1 1100 3) (jQ Qas (jQ Qat (.seq (jQ Pm (.block 0 (.loop Po))) (jQ NV (.seq (jQ NW (.block 4 (.loop Bn))) (jQ NX (jQ NY (jQ NZ (.ret)))))))))))
def TN:List RR:=[.tmp 6]
theorem k44:CT 44 178 r44 TN:=ck Tryz.func44 Tryz.ntmps44 (by decide +kernel)
abbrev QKg:IL:=[jf 3 3 0,jf 4 4 1,jg 6]
abbrev QKh:IL:=[jd 7 0]
abbrev QKi:IL:=[ja 10 7,jb 11 1 4,jc 12 11,jh 13 1 12,jo 14 10 13]
abbrev QKj:IL:=[jb 17 1 4,jc 18 17,ja 19 7,jm 20 16 18 19,je 21 16 20,yx 8 8,ji 16 8 21]
abbrev QKk:IL:=[jb 22 2 8,jc 23 22,ya 24 23 1,ja 25 24,ju 26 4 8 25,ju 27 0 26 25,jz 28 27 25,RJ 29 28 10 25,jt 30 25 29]
abbrev QKl:IL:=[je 31 3 3,jb 32 4 8,jb 33 1 32,jc 34 33,jq 35 95 31 34,ja 9 35]
abbrev QKm:IL:=[ja 36 9,yj 37 36 0,ja 38 37,jk 39 2 38,jk 40 9 38,zq 41 1 39 40 38,jp 42 41 38,yn 43 42 38,jj 44 38 43]
abbrev QKn:IL:=[yg 6]
abbrev QKo:IL:=[ja 15 7,jn 16 15 1,ja 7 16]
abbrev QKp:RC:=.gho (.drop 8) (.seq (jQ QKi (jX 14 0)) (.seq (.block 1 (jQ QKj (.seq (jQ QKk (.cond (.t 30) (.exit 1) (.skip))) (jQ QKl (jQ QKm (.cond (.t 44) (jQ QKn (.ret)) (.skip))))))) (.reg QKo)))
abbrev QKq:IL:=[jg 6]
abbrev r84:RC:=jQ QKg (.seq (jQ QKh (.block 0 (.loop QKp))) (jQ QKq (.ret)))
abbrev o84:List RR:=[.tmp 6]
theorem k84:CT 84 45 r84 o84:=ck Tryz.func84 Tryz.ntmps84 (by decide +kernel)
abbrev QKr:IL:=[jf 2 2 0,jf 3 3 1,jg 4]
abbrev QKs:IL:=[jb 8 8 3,je 9 7 8,yi 5 5,ji 7 5 9]
abbrev QKt:IL:=[jb 10 7 3,jc 11 10,yb 12 11]
abbrev QKu:IL:=[je 13 7 5,⟨some 14,.val (.build [.int .i64 0,.int .u64 0,.str [],.nils,.nils,.nils,.nils] []),none⟩,jq 15 143 13 14,ja 4 15]
abbrev QKv:IL:=[jb 16 2 3,jx 17 0 3 16,ya 18 17 2,ja 19 18,ju 20 6 3 19,yw 21 0 3 20 19,⟨some 22,.val (.bin .str .neq (.t 21) (.c (.str []))),(some (19,false))⟩,jt 23 19 22,ja 24 23,ju 25 4 3 24,ju 26 0 25 24,yw 27 0 3 26 24,zw 28 0 5 7 5 24,HA 29 144 27 28 24,zh 30 29 24,jt 31 24 30,ja 32 31,zw 33 0 5 7 5 32,zw 34 0 5 7 5 32,yq 35 145 34 32,HA 36 143 33 35 32,zh 37 36 32,jt 38 32 37]
abbrev QKw:IL:=[jg 4]
abbrev QKx:IL:=[je 39 3 2,jb 40 4 3,jb 41 1 40,jc 42 41,jq 43 142 39 42,ja 6 43]
abbrev QKy:IL:=[jb 44 4 3,jb 45 0 44,jc 46 45,ya 47 46 9]
abbrev QKz:IL:=[yg 4]
abbrev QKA:IL:=[ja 48 6,yk 49 48 0]
abbrev QBK:IL:=[jg 4]
abbrev QBL:IL:=[jd 7 0]
abbrev QBM:IL:=[ja 50 7,jb 51 1 2,jc 52 51,ja 53 6,jm 54 5 52 53,jb 55 2 54,jc 56 55,jh 57 1 56,jo 58 50 57]
abbrev QBN:IL:=[jb 61 1 2,jx 62 0 2 61,ja 63 6,jm 64 5 62 63,jb 65 2 64,zl 66 65,ja 67 7,jm 68 3 66 67,jb 69 1 68,zl 70 69,⟨some 71,.val (.cvi .u64 (.t 70)),none⟩,jb 72 1 5,jx 73 0 5 72,ze 74 71 73]
abbrev QBO:IL:=[yg 4]
abbrev QBP:IL:=[ja 59 7,jn 60 59 1,ja 7 60]
abbrev QKB:RC:=.seq (jQ QBM (jX 58 0)) (.seq (.block 1 (jD QBN (.cond (.t 74) (jQ QBO (.ret)) (.skip)))) (.reg QBP))
abbrev QBQ:IL:=[jg 4]
abbrev r91:RC:=jQ QKr (jQ QKs (.seq (jQ QKt (.cond (.t 12) (jQ QKu (.ret)) (.skip))) (.seq (jD QKv (.cond (.t 38) (jQ QKw (.ret)) (.skip))) (jQ QKx (.seq (jQ QKy (.cond (.t 47) (jQ QKz (.ret)) (.skip))) (.seq (jQ QKA (.cond (.t 49) (jQ QBK (.ret)) (.skip))) (.seq (jQ QBL (.block 0 (.loop QKB))) (jQ QBQ (.ret)))))))))
abbrev o91:List RR:=[.tmp 4]
theorem k91:CT 91 75 r91 o91:=ck Tryz.func91 Tryz.ntmps91 (by decide +kernel)
abbrev QBR:IL:=[jf 2 2 0,jd 4 0]
abbrev QBS:IL:=[jd 5 0]
abbrev QBT:IL:=[ja 6 5,jb 7 1 2,jc 8 7,jh 9 1 8,jo 10 6 9]
abbrev QBU:IL:=[jb 13 1 2,jc 14 13,ja 15 5,jm 16 5 14 15,jb 17 0 16,jc 18 17,ja 19 1,yv 20 18 19]
abbrev QBV:IL:=[ja 21 5,ja 4 21]
abbrev QBW:IL:=[ja 11 5,jn 12 11 1,ja 5 12]
abbrev QBX:RC:=.seq (jQ QBT (jX 10 0)) (.seq (.block 1 (jQ QBU (.cond (.t 20) (jQ QBV (.ret)) (.skip)))) (.reg QBW))
abbrev QBY:IL:=[jd 4 (-1)]
abbrev QRh:RC:=jQ QBR (.seq (jQ QBS (.block 0 (.loop QBX))) (jQ QBY (.ret)))
abbrev QRi:List RR:=[.tmp 4]
theorem QRj:CT 142 22 QRh QRi:=ck Tryz.func142 Tryz.ntmps142 (by decide +kernel)
abbrev QBZ:IL:=[jf 2 2 0,jf 3 3 1,jg 4]
abbrev QB0:IL:=[jb 5 0 2,jc 6 5,jb 7 0 3,jc 8 7,ze 9 6 8,ja 10 9,jl 11 1 2 10,jp 12 11 10,jl 13 1 3 10,jp 14 13 10,⟨some 15,.val (.bin .num .eql (.t 12) (.t 14)),(some (10,true))⟩,jj 16 10 15,ja 17 16,jl 18 2 2 17,jp 19 18 17,jl 20 2 3 17,jp 21 20 17,FM 22 19 21 17,jj 23 17 22,ja 24 23,jl 25 3 2 24,jp 26 25 24,yc 27 1 26 24,jl 28 4 2 24,jp 29 28 24,yc 30 1 29 24,zp 31 27 30 24,jl 32 5 2 24,jp 33 32 24,yc 34 1 33 24,zp 35 31 34 24,jl 36 6 2 24,jp 37 36 24,yc 38 1 37 24,zp 39 35 38 24,jl 40 3 3 24,jp 41 40 24,yc 42 1 41 24,zp 43 39 42 24,jl 44 4 3 24,jp 45 44 24,yc 46 1 45 24,zp 47 43 46 24,jl 48 5 3 24,jp 49 48 24,yc 50 1 49 24,zp 51 47 50 24,jl 52 6 3 24,jp 53 52 24,yc 54 1 53 24,zp 55 51 54 24,yt 56 55 0 24,jj 57 24 56,ja 4 57]
abbrev QRk:RC:=jQ QBZ (jQ QB0 (.ret))
abbrev QRl:List RR:=[.tmp 4]
theorem QRm:CT 143 58 QRk QRl:=ck Tryz.func143 Tryz.ntmps143 (by decide +kernel)
abbrev QB1:IL:=[jf 1 1 0,yi 2 2]
abbrev QB2:IL:=[jb 3 0 1,jc 4 3,js 5 4 6,ja 6 5,jl 7 1 1 6,jp 8 7 6,zy 9 198 8 6,yt 10 9 0 6,jj 11 6 10]
abbrev QB3:IL:=[jb 12 1 1,⟨none,.store 1 (.t 12) (.c (.int .u64 9221120237041090560)),none⟩]
abbrev QB4:IL:=[je 13 7 1,ji 7 2 13]
abbrev QRn:RC:=jQ QB1 (.seq (jQ QB2 (.cond (.t 11) (.reg QB3) (.skip))) (jQ QB4 (.ret)))
abbrev QRo:List RR:=[.cell 2 (some 7)]
theorem QRp:CT 145 14 QRn QRo:=ck Tryz.func145 Tryz.ntmps145 (by decide +kernel)
abbrev QKC:IL:=[jf 2 2 0,jg 4]
abbrev QKD:IL:=[jb 8 1 2,jc 9 8,ja 10 1,jm 11 16 9 10,je 12 16 11,yx 5 5,ji 16 5 12]
abbrev QKE:IL:=[jb 13 6 5,jc 14 13,Cf 15 14]
abbrev QKF:IL:=[yg 4]
abbrev QKG:IL:=[jb 16 2 5,jc 17 16,ya 18 17 2,ja 19 18,ju 20 6 5 19,jz 21 20 19,yq 22 86 21 19,zh 23 22 19,jt 24 19 23]
abbrev QKH:IL:=[jg 4]
abbrev QKI:IL:=[jg 6]
abbrev QKJ:IL:=[jd 7 0]
abbrev QKK:IL:=[ja 25 7,jb 26 1 2,jc 27 26,jh 28 1 27,jo 29 25 28]
abbrev QB5:IL:=[jb 32 1 2,jx 33 0 2 32,ja 34 7,jm 35 16 33 34,jb 36 1 35,zl 37 36,jb 38 6 5,jx 39 0 5 38,yv 40 37 39]
abbrev QB6:IL:=[jg 4]
abbrev QB7:IL:=[ja 41 7,ja 42 1,jo 43 41 42,ja 44 43,jl 45 1 2 44,GS 46 0 2 45 44,jk 47 7 44,zq 48 16 46 47 44,jl 49 6 48 44,HF 50 49 44,jl 51 6 5 44,GS 52 0 5 51 44,FM 53 50 52 44,jj 54 44 53]
abbrev QB8:IL:=[yg 6]
abbrev QKL:IL:=[ja 30 7,jn 31 30 1,ja 7 31]
abbrev QKM:RC:=.seq (jQ QKK (jX 29 0)) (.seq (.block 1 (.seq (jD QB5 (.cond (.t 40) (jQ QB6 (.ret)) (.skip))) (jD QB7 (.cond (.t 54) (.reg QB8) (.skip))))) (.reg QKL))
abbrev QB9:IL:=[ja 55 6,yb 56 55,ja 57 56,ju 58 1 2 57,yw 59 0 2 58 57,jw 60 1 57,Ch 61 60 1 57,zv 62 16 59 61 57,ju 63 6 62 57,HB 64 63 57,ju 65 6 5 57,yw 66 0 5 65 57,⟨some 67,.val (.bin .str .eql (.t 64) (.t 66)),(some (57,false))⟩,jt 68 57 67,ja 4 68]
abbrev r90:RC:=jQ QKC (jQ QKD (.seq (jQ QKE (.cond (.t 15) (jQ QKF (.ret)) (.skip))) (.seq (jQ QKG (.cond (.t 24) (jQ QKH (.ret)) (.skip))) (jQ QKI (.seq (jQ QKJ (.block 0 (.loop QKM))) (jD QB9 (.ret)))))))
abbrev o90:List RR:=[.tmp 4]
theorem k90:CT 90 69 r90 o90:=ck Tryz.func90 Tryz.ntmps90 (by decide +kernel)
abbrev QKN:IL:=[jf 2 2 0,jf 3 3 1,jg 4]
abbrev QKO:IL:=[jb 5 4 3,jb 6 0 5,jc 7 6]
abbrev QKP:IL:=[js 9 7 9,ja 8 9]
abbrev QKQ:IL:=[je 10 3 2,jb 11 4 3,jb 12 1 11,jc 13 12,jq 14 142 10 13,yj 15 14 0,ja 4 15]
abbrev QKR:IL:=[js 17 7 10,ja 16 17]
abbrev QKS:IL:=[je 18 3 2,jb 19 4 3,jb 20 1 19,jc 21 20,jq 22 95 18 21,yj 23 22 0,ja 24 23,jl 25 2 3 24,jp 26 25 24,FK 27 26 3 24,jj 28 24 27,ja 4 28]
abbrev QKT:IL:=[jb 29 4 3,jb 30 0 29,jc 31 30,yj 32 31 1,ja 33 32,jl 34 4 3 33,jl 35 0 34 33,jp 36 35 33,ym 37 36 8 33,jj 38 33 37,ja 39 38,jl 40 4 3 39,jl 41 1 40 39,jp 42 41 39,⟨some 43,.val (.bin .str .eql (.t 42) (.c (.str []))),(some (39,true))⟩,jj 44 39 43,ja 4 44]
abbrev r89:RC:=jQ QKN (.seq (jQ QKO (.block 0 (jQ QKP (.cond (.t 8) (jQ QKQ (.ret)) (jQ QKR (.cond (.t 16) (jQ QKS (.ret)) (.skip))))))) (jQ QKT (.ret)))
abbrev o89:List RR:=[.tmp 4]
theorem k89:CT 89 45 r89 o89:=ck Tryz.func89 Tryz.ntmps89 (by decide +kernel)
abbrev QKU:IL:=[jf 1 1 0,jg 2]
abbrev QKV:IL:=[jb 3 2 1,jc 4 3,ya 5 4 5]
abbrev QKW:IL:=[jb 6 2 1,jc 7 6,yj 8 7 1,ja 9 8,jl 10 2 1 9,jp 11 10 9,ym 12 11 4 9,jj 13 9 12,ja 14 13,jl 15 3 1 14,jp 16 15 14,yt 17 16 0 14,jj 18 14 17,ja 2 18]
abbrev QKX:IL:=[jb 19 3 1,jc 20 19]
abbrev QKY:IL:=[js 22 20 1,ja 21 22]
abbrev QKZ:IL:=[js 23 20 2,ja 21 23]
abbrev QK0:IL:=[js 24 20 3,ja 21 24]
abbrev QK1:IL:=[js 25 20 4,ja 21 25]
abbrev QK2:IL:=[js 26 20 5,ja 21 26]
abbrev QK3:IL:=[js 27 20 7,ja 21 27]
abbrev QCa:IL:=[yg 2]
abbrev QCb:IL:=[jg 2]
abbrev r88:RC:=jQ QKU (.seq (jQ QKV (.cond (.t 5) (jQ QKW (.ret)) (.skip))) (.seq (jQ QKX (.block 0 (.seq (jQ QKY (.cond (.t 21) (.skip) (jQ QKZ (.cond (.t 21) (.skip) (jQ QK0 (.cond (.t 21) (.skip) (jQ QK1 (.cond (.t 21) (.skip) (jQ QK2 (.cond (.t 21) (.skip) (.reg QK3))))))))))) (.cond (.t 21) (jQ QCa (.ret)) (.skip))))) (jQ QCb (.ret))))
abbrev o88:List RR:=[.tmp 2]
theorem k88:CT 88 28 r88 o88:=ck Tryz.func88 Tryz.ntmps88 (by decide +kernel)
abbrev QK4:IL:=[jg 4]
abbrev QK5:IL:=[jd 5 0]
abbrev QK6:IL:=[ja 6 5,ja 7 0,jh 8 1 7,jo 9 6 8]
abbrev QK7:IL:=[ja 12 0,ja 13 5,jm 14 1 12 13,jc 15 14,ja 16 1,yv 17 15 16]
abbrev QK8:IL:=[yg 4]
abbrev QK9:IL:=[ja 10 5,jn 11 10 1,ja 5 11]
abbrev QLa:RC:=.seq (jQ QK6 (jX 9 0)) (.seq (.block 1 (jQ QK7 (.cond (.t 17) (jQ QK8 (.ret)) (.skip)))) (.reg QK9))
abbrev QLb:IL:=[jg 4]
abbrev r83:RC:=jQ QK4 (.seq (jQ QK5 (.block 0 (.loop QLa))) (jQ QLb (.ret)))
abbrev o83:List RR:=[.tmp 4]
theorem k83:CT 83 18 r83 o83:=ck Tryz.func83 Tryz.ntmps83 (by decide +kernel)
abbrev QLc:IL:=[jf 1 1 0,yd 2]
abbrev QLd:IL:=[jb 7 0 1,jc 8 7,jh 9 1 8,⟨some 10,.mk 10 4 1 1 [.bool false] (.t 9) (.t 9),none⟩,ja 3 10]
abbrev QLe:IL:=[yg 4]
abbrev QLf:IL:=[jd 5 0]
abbrev QLg:IL:=[ja 11 5,jb 12 0 1,jc 13 12,jh 14 1 13,jo 15 11 14,ja 16 15,jk 17 4 16,jj 18 16 17]
abbrev QLh:IL:=[jg 4]
abbrev QLi:IL:=[jd 6 0]
abbrev QLj:IL:=[ja 21 6,jb 22 0 1,jc 23 22,jh 24 1 23,jo 25 21 24]
abbrev QCc:IL:=[ja 28 3,ja 29 6,jm 30 1 28 29,zl 31 30,yb 32 31,ja 33 32,⟨some 34,.val (.loadv 0 1 (some 3) (.t 1)),(some (33,true))⟩,jl 35 0 1 33,GS 36 0 1 35 33,jk 37 6 33,zq 38 5 36 37 33,⟨some 39,.val (.loadr (some 5) (.t 38)),(some (33,true))⟩,jk 40 3 33,RH 41 84 34 39 40 33,yn 42 41 33,jj 43 33 42]
abbrev QCd:IL:=[ja 44 3,ja 45 6,jm 46 1 44 45,⟨none,.store 1 (.t 46) (.c (.bool true)),none⟩]
abbrev QCe:IL:=[yg 4]
abbrev QLk:IL:=[ja 26 6,jn 27 26 1,ja 6 27]
abbrev Qaz:RC:=.seq (jQ QLj (jX 25 2)) (.seq (.block 3 (jD QCc (.cond (.t 43) (jQ QCd (.reg QCe)) (.skip)))) (.reg QLk))
abbrev QLl:IL:=[ja 19 5,jn 20 19 1,ja 5 20]
abbrev QLm:RC:=.seq (jQ QLg (jX 18 0)) (.seq (.block 1 (jQ QLh (jQ QLi (.block 2 (.loop Qaz))))) (.reg QLl))
abbrev QCf:IL:=[ja 47 3,ja 2 47]
abbrev r43:RC:=jQ QLc (jQ QLd (jQ QLe (.seq (jQ QLf (.block 0 (.loop QLm))) (jQ QCf (.ret)))))
abbrev o43:List RR:=[.tmp 2]
theorem k43:CT 43 48 r43 o43:=ck Tryz.func43 Tryz.ntmps43 (by decide +kernel)
abbrev QLn:IL:=[jg 4]
abbrev QLo:IL:=[jd 5 0]
abbrev QLp:IL:=[ja 6 5,ja 7 0,jh 8 1 7,jo 9 6 8]
abbrev QLq:IL:=[ja 12 1,ja 13 0,ja 14 5,jm 15 1 13 14,jc 16 15,jq 17 83 12 16]
abbrev QLr:IL:=[yg 4]
abbrev QLs:IL:=[ja 10 5,jn 11 10 1,ja 5 11]
abbrev QLt:RC:=.seq (jQ QLp (jX 9 0)) (.seq (.block 1 (jQ QLq (.cond (.t 17) (jQ QLr (.ret)) (.skip)))) (.reg QLs))
abbrev QLu:IL:=[jg 4]
abbrev r42:RC:=jQ QLn (.seq (jQ QLo (.block 0 (.loop QLt))) (jQ QLu (.ret)))
abbrev o42:List RR:=[.tmp 4]
theorem k42:CT 42 18 r42 o42:=ck Tryz.func42 Tryz.ntmps42 (by decide +kernel)
abbrev QLv:IL:=[jf 2 2 0,yd 4]
abbrev QLw:IL:=[yd 5]
abbrev QLx:IL:=[jd 6 0]
abbrev QLy:IL:=[ja 9 1,js 10 9 1,ja 11 10,jk 12 6 11,jl 13 0 2 11,jp 14 13 11,yc 15 1 14 11,B9 16 12 15 11,jj 17 11 16]
abbrev QLz:IL:=[ja 20 5,jb 21 0 2,jc 22 21,ja 23 6,jm 24 5 22 23,jb 25 0 24,jc 26 25,FP 27 1 1 0 1 26,yf 28 1 16 9 20 27,ja 5 28]
abbrev QLA:IL:=[ja 18 6,jn 19 18 1,ja 6 19]
abbrev QaA:RC:=.seq (jQ QLy (jX 17 0)) (.seq (.block 1 (.reg QLz)) (.reg QLA))
abbrev QLB:IL:=[jd 7 0]
abbrev QLC:IL:=[ja 29 1,js 30 29 2,ja 31 30,jk 32 7 31,jl 33 1 2 31,jp 34 33 31,yc 35 1 34 31,B9 36 32 35 31,jj 37 31 36]
abbrev QLD:IL:=[ja 40 5,jb 41 1 2,jc 42 41,ja 43 7,jm 44 5 42 43,jb 45 0 44,jc 46 45,FP 47 1 1 0 1 46,yf 48 1 16 9 40 47,ja 5 48]
abbrev QLE:IL:=[ja 38 7,jn 39 38 1,ja 7 39]
abbrev QaB:RC:=.seq (jQ QLC (jX 37 2)) (.seq (.block 3 (.reg QLD)) (.reg QLE))
abbrev QCg:IL:=[jd 8 0]
abbrev QCh:IL:=[ja 49 1,js 50 49 3,ja 51 50,jk 52 8 51,jl 53 2 2 51,jp 54 53 51,yc 55 1 54 51,B9 56 52 55 51,jj 57 51 56]
abbrev QCi:IL:=[ja 60 5,jb 61 2 2,jc 62 61,ja 63 8,jm 64 3 62 63,jb 65 0 64,jc 66 65,FP 67 1 1 0 1 66,yf 68 1 16 9 60 67,ja 5 68]
abbrev QCj:IL:=[ja 58 8,jn 59 58 1,ja 8 59]
abbrev QaC:RC:=.seq (jQ QCh (jX 57 4)) (.seq (.block 5 (.reg QCi)) (.reg QCj))
abbrev QCk:IL:=[ja 69 5,ja 4 69]
abbrev r39:RC:=jQ QLv (jQ QLw (.gho (.vec 5 5 1) (.seq (jQ QLx (.block 0 (.loop QaA))) (.seq (jQ QLB (.block 2 (.loop QaB))) (.seq (jQ QCg (.block 4 (.loop QaC))) (jQ QCk (.ret)))))))
abbrev o39:List RR:=[.tmp 4]
theorem k39:CT 39 70 r39 o39:=ck Tryz.func39 Tryz.ntmps39 (by decide +kernel)
abbrev QLF:IL:=[jg 2]
abbrev QLG:IL:=[jd 3 1]
abbrev QLH:IL:=[ja 4 3,ja 5 0,jh 6 1 5,jo 7 4 6]
abbrev QLI:IL:=[ja 10 0,ja 11 3,jm 12 1 10 11,zl 13 12,ja 14 0,ja 15 3,B5 16 15 1,jm 17 1 14 16,zl 18 17,⟨some 19,.val (.bin .str .leq (.t 13) (.t 18)),none⟩]
abbrev QLJ:IL:=[jg 2]
abbrev QLK:IL:=[ja 8 3,jn 9 8 1,ja 3 9]
abbrev QLL:RC:=.seq (jQ QLH (jX 7 0)) (.seq (.block 1 (jD QLI (.cond (.t 19) (jQ QLJ (.ret)) (.skip)))) (.reg QLK))
abbrev QLM:IL:=[yg 2]
abbrev r41:RC:=jQ QLF (.seq (jQ QLG (.block 0 (.loop QLL))) (jQ QLM (.ret)))
abbrev o41:List RR:=[.tmp 2]
theorem k41:CT 41 20 r41 o41:=ck Tryz.func41 Tryz.ntmps41 (by decide +kernel)
abbrev QLN:IL:=[jf 1 1 0,jd 2 0]
abbrev QLO:IL:=[jb 7 6 1,jc 8 7,jh 9 1 8,⟨some 10,.val (.bin .num .add (.c (.int .i64 1)) (.t 9)),none⟩,ja 3 10]
abbrev QLP:IL:=[jd 4 0]
abbrev QLQ:IL:=[ja 11 4,jb 12 3 1,jc 13 12,jh 14 1 13,jo 15 11 14]
abbrev QLR:IL:=[ja 18 3,jb 19 3 1,jc 20 19,ja 21 4,jm 22 7 20 21,je 23 7 22,jr 24 15 23,yu 25 18 24,ja 3 25]
abbrev QLS:IL:=[ja 16 4,jn 17 16 1,ja 4 17]
abbrev QLT:RC:=.seq (jQ QLQ (jX 15 0)) (.seq (.block 1 (.reg QLR)) (.reg QLS))
abbrev QLU:IL:=[jd 5 0]
abbrev QLV:IL:=[ja 26 5,jb 27 4 1,jc 28 27,jh 29 1 28,jo 30 26 29]
abbrev QLW:IL:=[ja 33 3,jb 34 4 1,jx 35 0 1 34,ja 36 5,jm 37 14 35 36,jb 38 0 37,yp 39 7 38,jr 40 15 39,jb 41 4 1,jx 42 0 1 41,ja 43 5,jm 44 14 42 43,jb 45 7 44,yp 46 7 45,jr 47 15 46,yu 48 40 47,yu 49 33 48,ja 3 49]
abbrev QLX:IL:=[ja 31 5,jn 32 31 1,ja 5 32]
abbrev QLY:RC:=.seq (jQ QLV (jX 30 2)) (.seq (.block 3 (.draw QLW)) (.reg QLX))
abbrev QCl:IL:=[jd 6 0]
abbrev QCm:IL:=[ja 50 6,jb 51 5 1,jc 52 51,jh 53 1 52,jo 54 50 53]
abbrev QCn:IL:=[ja 57 3,jb 58 5 1,jc 59 58,ja 60 6,jm 61 8 59 60,jb 62 1 61,je 63 7 62,jr 64 15 63,yu 65 57 64,ja 3 65]
abbrev QCo:IL:=[ja 55 6,jn 56 55 1,ja 6 56]
abbrev QLZ:RC:=.seq (jQ QCm (jX 54 4)) (.seq (.block 5 (.reg QCn)) (.reg QCo))
abbrev QCp:IL:=[ja 66 3,ja 2 66]
abbrev r15:RC:=jQ QLN (jQ QLO (.seq (jQ QLP (.block 0 (.loop QLT))) (.seq (jQ QLU (.block 2 (.loop QLY))) (.seq (jQ QCl (.block 4 (.loop QLZ))) (jQ QCp (.ret))))))
abbrev o15:List RR:=[.tmp 2]
theorem k15:CT 15 67 r15 o15:=ck Tryz.func15 Tryz.ntmps15 (by decide +kernel)
end Go.Proofs.YtafhmlkilcmniaaGreatDoor.Rc

set_option linter.unusedSimpArgs false
namespace Go.Proofs.YtafhmlkilcmniaaGreatDoor.Va
open Go Am Rc Bt

def RB (v:AV):Prop:=∃b,v=.bool b
theorem RB.rf {v:AV}{l:List AV}(h:RB v):v.rf=true∧(AV.rfL l=true∨v.nl=true):=by
 obtain⟨b,rfl⟩:=h;exact⟨rfl,.inr rfl⟩

def isk (k:Int):Bool:=decide (k≥1)&&decide (k≤9)
def JA (k:Int):Bool:=k==7||k==8
theorem QCq (k:Int):Qi Tryz.prog 177 [.int .i64 k] (.bool (isk k)):=by
 refine QPa.fn (by simp) ?_;simp only[isk,Qa,seval];cases h:decide (k≥1)<;>simp only[Q0p,Q0c,Qa,seval]

theorem Pp (k:Int):Qi Tryz.prog 134 [.int .i64 k] (.bool (isk k)):=by
 refine QjN.fn (by simp) ?_;simp only[isk,Qa,seval];cases h:decide (k≥1)<;>simp only[Q0p,Q0c,Qa,seval]

theorem D3 (k:Int):Qi Tryz.prog 178 [.int .i64 k] (.bool (JA k)):=by
 refine QO7.fn (by simp) ?_;simp only[JA,Qa,seval];cases h:(k==7)<;>simp only[Q0r,Q0s,Qa,seval]

theorem QCr (k:Int):Qi Tryz.prog 193 [.int .i64 k] (.bool (JA k)):=by
 refine QjI.fn (by simp) ?_;simp only[JA,Qa,seval];cases h:(k==7)<;>simp only[Q0r,Q0s,Qa,seval]

def oc (n:Int)(s a:List UInt8)(c k kd t u:Int):AV:=.agg [.int .i64 n,.str s,.str a,.int .i64 c,.int .i64 k,.int .i64 kd,.int .i64 t,.int .i64 u]

section
variable (n:Int)(s a:List UInt8)(c k kd t u:Int)

end

theorem Ql (i:Nat)(n:Nat)(h:i<n)(hn:n≤maxLen):IntKind.i64.wrap ((i:Int)+1)=((i+1:Nat):Int):=by
 simp only[maxLen]at hn;rw[QU];omega

theorem Qw {i n:Nat}(h:i<n):decide ((i:Int)<(n:Int))=true:=by simp;omega
theorem Qy {i n:Nat}(h:¬i<n):decide ((i:Int)<(n:Int))=false:=by simp;omega
theorem Qj (i:Nat):(0≤(i:Int))=True:=by simp

open Br

def QS {α:Type}(p:α→Bool):List α→Nat→Int
 | [],_=>-1
 |x :: l,i=>if p x=true then(i:Int)else QS p l (i+1)

theorem Xi {α:Type}(p:α→Bool):∀(l:List α) (i:Nat),(QS p l i = -1∧l.find? p=none)∨∃k o,QS p l i=((i+k:Nat):Int)∧l[k]? = some o∧l.find? p=some o
 | [],_=>.inl ⟨rfl,rfl⟩
 |x :: l,i=>by
  unfold QS;rw[Q0t];cases h:p x with
  |true=>exact .inr ⟨0,x,by simp,rfl,rfl⟩
  |false=>
   simp only[QY3,if_false];rcases Xi p l (i+1)with h'|⟨k,o,h1,h2,h3⟩
   ·exact .inl h'
   ·exact .inr ⟨k+1,o,by rw[h1];congr 1;omega,by simpa using h2,h3⟩

theorem XD {α:Type}(p:α→Bool){l:List α}{i:Nat}{x:α}(hx:l[i]? = some x):QS p (l.drop i) i=if p x=true then(i:Int)else QS p (l.drop (i+1)) (i+1):=by
 have hlt:i<l.length:=(QYM.1 hx).1;rw[QZt hlt,show l[i]=x from(QYM.1 hx).2];rfl

def Xv (o:PO):AV:=.agg o.cells
def QW (g:PG):AV:=.agg g.cells
def UD (x:PI):AV:=.agg x.cells
def Xw (x:PE):AV:=.agg x.cells

section ops
variable (L:List PO)(hl:L.length≤maxLen)(p:PO→Bool)(c:Nat)(cap:AV)(m:Qk)

def IxO (k:Nat)(st:St):Prop :=
 ∃f i,st=⟨f,Qc :: m,[]⟩∧k=L.length-i∧QS p L 0=QS p (L.drop i) i∧f 0=.list (L.map Xv)∧f 1=.fn (.func c) [] [cap.sh]∧f 7=.int .i64 (L.length:Nat)∧f 8=.int .i64 (i:Nat)

include hl in
theorem QRq (hc:∀o∈L,Qf Tryz.prog c [Xv o,cap.sh] (Qc :: m) fun y m1=>y=.bool (p o)∧m1=Qc :: m) :
  Qf Tryz.prog 127 [.list (L.map Xv),.fn (.func c) [] [cap]] m fun y m1=>y=.int .i64 (QS p L 0)∧m1=m:=by
 refine QhR.go (by simp) ?_;simp only[QZ5,Qa,seval];refine Qe (IxO L p c cap m) _ ⟨_,0,rfl,rfl,rfl,rfl,rfl,rfl,rfl⟩ ?_;rintro _ st ⟨f,i,rfl,rfl,hx,h0,h1,h7,h8⟩;simp only[h7,h8,Qa,seval];by_cases hlt:i<L.length
 ·obtain⟨x,hi⟩:∃x,L[i]? = some x:=⟨L[i],QYN hlt⟩;have hcl:=hc x (QYY hi);have hg:(L.map Xv)[i]? = some (Xv x):=by simp[hi]
  have e1:=Ql i _ hlt hl;simp only[Xv,PO.cells]at hcl;simp only[Qw hlt,Qj,QZ8,Qd,hg,Xv,PO.cells,h0,h1,h8,eE,seval];refine Xa (fa:=[]) (fb:=[cap.sh]) rfl hcl (by simp only[QZh,QZG,QY6,QY5,Qa,seval]) ?_;rw[XD p hi]at hx;cases hp:p x
  ·rw[hp]at hx;simp only[QY3,if_false]at hx;simp only[h8,e1,Qa,seval];exact⟨L.length-(i+1),by omega,_,i+1,rfl,rfl,hx,h0,h1,h7,rfl⟩
  ·rw[hp]at hx;simp only[if_true]at hx;simp only[hx,Qa,seval]
 ·have hx':QS p L 0 = -1:=by rw[hx,QZm (by omega)];rfl
  simp only[Qy hlt,hx',Qa,seval]

end ops

def G7:PO:=⟨0,[],[],0,0,0,0,0⟩
def CR (p:PO→Bool)(L:List PO):AV:=.tup [Xv ((L.find? p).getD G7),.bool (L.find? p).isSome]

theorem y73 (g:PG)(hl:g.ops.length≤maxLen)(p:PO→Bool)(c:Nat)(cap:AV)(m:Qk)(hc:∀fr,∀o∈g.ops,Qf Tryz.prog c [Xv o,cap.sh.sh] (Qc :: fr :: m) fun y m1=>y=.bool (p o)∧m1=Qc :: fr :: m) :
  Qf Tryz.prog 73 [.agg [.fn (.func c) [] [cap]],QW g] m fun y m1=>y=CR p g.ops∧m1=m:=by
 refine k73.go (by simp) ?_;simp only[QW,PG.cells,eE,seval];refine Qb (QRq g.ops hl p c cap.sh _ fun o ho=>hc _ o ho) (by simp only[QZh,QZG,Qa,seval];rfl) ?_;rcases Xi p g.ops 0 with⟨h1,h2⟩|⟨j,o,h1,h2,h3⟩
 ·simp only[h1,CR,h2,Q0g,QZy,G7,Xv,PO.cells,splice,QZO,QY6,QZl,QZs,QZU,QZI,QYZ,QZR,QZS,List.all_nil,AV.leaf,eE,seval]
 ·have hj:(g.ops.map fun o=>AV.agg o.cells)[j]? = some (.agg o.cells):=by simp[h2]
  have d:decide ((j:Int)<0)=false:=Q0u (by omega);rw[QY9]at h1;simp only[PO.cells]at hj;simp only[h1,d,Qj,QZ8,Qd,QY9,hj,CR,h3,QZQ,Q0v,Xv,PO.cells,splice,QZO,QY6,QZl,QZs,QZU,QZI,QYZ,QZR,QZS,List.all_nil,AV.leaf,eE,seval]

section
variable (o:PO)(fr frO:Nat→Ob)

theorem y72 (n:Int)(hf:frO 3=.cells [.int .i64 n]):Qf Tryz.prog 72 [Xv o,.ptr 2 3 0] [Qc,fr,frO] fun y m1=>y=.bool (o.num==n)∧m1=[Qc,fr,frO]:=by
 refine k72.go (by simp) ?_;simp only[hf,Xv,PO.cells,eE,seval]

end

theorem y30 (g:PG)(hl:g.ops.length≤maxLen)(n:Int):Qi Tryz.prog 30 [QW g,.int .i64 n] (CR (fun o=>o.num==n) g.ops):=by
 refine k30.fn (by simp) ?_;simp only[QW,PG.cells,eE,seval];refine Qb (y73 g hl (fun o=>o.num==n) 72 (.ptr 0 3 0) _ fun fr o _=>y72 o fr _ n rfl) (by simp only[QZh,QZG,QW,PG.cells,Qa,seval]) ?_;simp only[CR,Xv,PO.cells,splice,QZO,QY6,QZl,QZs,QZU,QZI,QYZ,QZR,QZS,List.all_nil,AV.leaf,eE,seval]

def Xq (p:Nat→Bool):Nat→Bool
 |0=>true
 |n+1=>Xq p n&&p n

theorem Q1 {p:Nat→Bool}{n:Nat}:Xq p n=true↔∀i,i<n→p i=true:=by
 induction n with
 |zero=>simp[Xq]
 |succ n ih=>
  simp only[Xq,QY7,ih]
  constructor
  ·rintro⟨h1,h2⟩ i hi;rcases Q0w.1 hi with h|rfl
   ·exact h1 i h
   ·exact h2
  ·intro h;exact⟨fun i hi=>h i (by omega),h n (by omega)⟩

theorem Pq {p:Nat→Bool}{n i:Nat}(hi:i<n)(h:p i=false):Xq p n=false:=by
 rw[Q0x];intro h';rw[Q1.1 h' i hi]at h;cases h

theorem G8 {p q:Nat→Bool}{n:Nat}(h:∀i,i<n→p i=q i):Xq p n=Xq q n:=by
 induction n with
 |zero=>rfl
 |succ n ih=>simp only[Xq,ih fun i hi=>h i (by omega),h n (by omega)]

def K9 {α:Type}(l:List α)(lt:α→α→Bool)(i:Nat):Bool:=match i with
 |0=>true
 |k+1=>match l[k]?,l[k+1]? with
  |some x,some y=>lt x y
  |_,_=>true

theorem J7 {α:Type}{l:List α}{lt:α→α→Bool}{k:Nat}{x y:α}(h:l[k]? = some x)(h':l[k+1]? = some y):K9 l lt (k+1)=lt x y:=by
 unfold K9;simp only[h,h']
def XN {α:Type}(l:List α)(lt:α→α→Bool):Bool:=Xq (K9 l lt) l.length

def uniq {α:Type}(l:List α)(nm:α→List UInt8)(i:Nat):Bool:=match l[i]? with
 |some x=>(l.take i).all fun y=>!(nm y==nm x)
 |none=>true
theorem U4 {α:Type}{l:List α}{nm:α→List UInt8}{i:Nat}{x:α}(h:l[i]? = some x):uniq l nm i=(l.take i).all fun y=>!(nm y==nm x):=by
 unfold uniq;rw[h]
def YY {α:Type}(l:List α)(nm:α→List UInt8):Bool:=Xq (uniq l nm) l.length

theorem EP {α:Type}{l:List α}{q:α→Bool}{i:Nat}{x:α}(h:l[i]? = some x):(l.take (i+1)).all q=((l.take i).all q&&q x):=by
 rw[Q0j,h];simp
theorem N0 {α:Type}{l:List α}{q:α→Bool}{i:Nat}{x:α}(h:l[i]? = some x):(l.take (i+1)).any q=((l.take i).any q||q x):=by
 rw[Q0j,h];simp
theorem CS {α:Type}{l:List α}{q:α→Bool}:(l.all fun x=>!q x)=!l.any q:=by
 induction l with
 |nil=>rfl
 |cons x l ih=>simp[ih]

def J8 (c:UInt8):Bool:=(decide (97≤c.toNat)&&decide (c.toNat≤122))||(decide (65≤c.toNat)&&decide (c.toNat≤90))
def JB (c:UInt8):Bool:=J8 c||c.toNat==95||(decide (48≤c.toNat)&&decide (c.toNat≤57))
def Q9:List UInt8→Bool
 | []=>false
 |c :: t=>decide ((c :: t).length≤40)&&J8 c&&t.all JB
def YZ:List (List UInt8):=[[109,101,115,115,97,103,101],[101,110,117,109],[115,101,114,118,105,99,101],[117,110,105,111,110],[109,97,112],[108,105,115,116],[114,101,113,117,105,114,101,100],[111,112,116,105,111,110,97,108],[112,108,97,105,110],[100,101,102,97,117,108,116],[114,101,115,101,114,118,101,100],
 [105,109,112,111,114,116],[115,112,97,99,101],[114,112,99],[115,116,114,101,97,109],[114,101,116,117,114,110,115],[111,112,101,110],[116,114,117,101],[102,97,108,115,101],[110,97,110],[105,110,102]]
def ZL (s:List UInt8):Bool:=YZ.any fun w=>s==w
def Xo (s:List UInt8):Bool:=Q9 s && !ZL s
def Qm:List UInt8→List (List UInt8)
 | []=>[[]]
 |c :: t=>if c=46 then [] :: Qm t else match Qm t with
  | []=>[[c]]
  |p :: ps=>(c :: p) :: ps
def XE (s:List UInt8):Bool:=decide (s.length≤120)&&(Qm s).all Q9 && !(Qm s).any ZL

theorem KR:∀s:List UInt8,Qm s≠[]
 | []=>by simp[Qm]
 |c :: t=>by
  unfold Qm;split
  ·simp
  ·split<;>simp

theorem FS (a:List UInt8):∀s:List UInt8,(∀c∈a,c≠46)→Qm (a++s)=match Qm s with
  | []=>[a]
  |p :: ps=>(a++p) :: ps:=by
 induction a with
 |nil=>intro s _;cases h:Qm s with
  |nil=>exact absurd h (KR s)
  |cons p ps=>simp[h]
 |cons c a ih=>
  intro s h;have hc:c≠46:=h c (by simp);rw[QY5,Qm,QYR hc,ih s fun x hx=>h x (by simp[hx])];cases hs:Qm s with
  |nil=>exact absurd hs (KR s)
  |cons p ps=>rfl

theorem W8 {s:List UInt8}(h:∀c∈s,c≠46):Qm s=[s]:=by
 have:=FS s [] h
 simpa [Qm]using this

theorem G9 {a t:List UInt8}(h:∀c∈a,c≠46):Qm (a++46 :: t)=a :: Qm t:=by
 rw[FS a _ h,Qm,QYS rfl];simp

theorem Da {a t:List UInt8}(h:∀c∈t,c≠46):Qm (a++46 :: t)=Qm a++[t]:=by
 induction a with
 |nil=>
  show Qm (46 :: t)=[[]]++[t];rw[show Qm (46 :: t)=[] :: Qm t from by rw[Qm,QYS rfl],W8 h];rfl
 |cons c a ih=>
  rw[QY5,Qm,Qm,ih];split
  ·rfl
  ·cases hs:Qm a with
   |nil=>exact absurd hs (KR a)
   |cons p ps=>rfl

theorem UE (s:List UInt8):(Qm s).length=s.count 46+1:=by
 induction s with
 |nil=>rfl
 |cons c t ih=>
  unfold Qm;split
  ·rename_i h;subst h;simp[ih]
  ·rename_i h;rw[List.count_cons_of_ne (by simpa using h)];cases hs:Qm t with
   |nil=>exact absurd hs (KR t)
   |cons p ps=>rw[hs]at ih;simpa using ih

def QCt (g:PG):Bool:=decide (g.ops.length≤64)
def QCu (e:PE):Bool:=decide (1≤e.items.length)&&decide (e.items.length≤64)&&decide (e.free.length≤16)
def lim (P:PL):Bool:=decide (P.progs.length≤64)&&decide (P.enums.length≤64)&&P.progs.all QCt&&P.enums.all QCu
def QCv (g:PG):Bool:=XE g.name&&g.ops.all fun o=>Xo o.name
def QCw (e:PE):Bool:=XE e.name&&e.items.all fun o=>Xo o.name
def nam (P:PL):Bool:=P.progs.all QCv&&P.enums.all QCw
def Pr {α:Type}(f:α→Int)(x y:α):Bool:=decide (f x<f y)
def WM {α:Type}(f:α→List UInt8)(x y:α):Bool:=Op.bytesLess (f x) (f y)
def QCy (g:PG):Bool:=XN g.ops (Pr PO.num)
def QCz (e:PE):Bool:=XN e.items (Pr PI.num)
def TO (P:PL):Bool:=XN P.progs (WM PG.name)&&XN P.enums (WM PE.name)&&P.progs.all QCy&&P.enums.all QCz
def QCA (P:PL)(g:PG):Bool:=(P.enums.all fun e=>!(e.name==g.name))&&YY g.ops PO.name
def QCB (e:PE):Bool:=YY e.items PI.name
def sin (P:PL):Bool:=P.progs.all (QCA P)&&P.enums.all QCB
def QCD (o:PO):Bool:=decide (o.num≥1)&&decide (o.num≤65535)
def spn (x:PS):Bool:=decide (x.lo≥0)&&decide (x.hi≤2147483647)&&decide (x.lo≤x.hi)
def spt (x y:PS):Bool:=decide (y.lo > x.hi)
def kept (l:List PS)(n:Int):Bool:=l.any fun x=>decide (x.lo≤n)&&decide (n≤x.hi)
def QCE (e:PE)(x:PI):Bool:=decide (x.num≤2147483647) && !kept e.free x.num
def QCF (e:PE):Bool:=match e.items with
 | []=>true
 |x :: _=>x.num==0
def QCG (e:PE):Bool:=e.free.all spn&&XN e.free spt&&QCF e&&e.items.all (QCE e)
def rng (P:PL):Bool:=P.progs.all (fun g=>g.ops.all QCD)&&P.enums.all QCG

def Xd (x:PS):AV:=.agg x.cells
def Qo (x:List UInt8):AV:=.str x

theorem WN {α:Type}(p:α→Bool)(l:List α):decide (QS p l 0≥0)=l.any p:=by
 rcases Xi p l 0 with⟨h1,h2⟩|⟨k,o,h1,_,h3⟩
 ·rw[h1];have:l.any p=false:=by
   rw[Q0y];intro x hx;exact fun h=>by have:=Q0z.1 h2 x hx;exact this h
  rw[this];rfl
 ·rw[h1];have:l.any p=true:=Q0A.2 ⟨o,Q0B h3,Q0C h3⟩;rw[this];exact Q0D (by omega)

theorem KS (k n:Nat)(h:k+1<n)(hn:n≤maxLen):IntKind.i64.wrap (((k+1:Nat):Int)-1)=(k:Int):=by
 rw[QU];simp only[maxLen]at hn;omega

section
variable (L:List PG)(hl:L.length≤maxLen)(p:PG→Bool)(c:Nat)(cs:List AV)(m:Qk)

end

section
variable (L:List PO)(hl:L.length≤maxLen)(p:PO→Bool)(c:Nat)(cs:List AV)(m:Qk)

end

section
variable (L:List PE)(hl:L.length≤maxLen)(p:PE→Bool)(c:Nat)(cs:List AV)(m:Qk)

end

section
variable (L:List PI)(hl:L.length≤maxLen)(p:PI→Bool)(c:Nat)(cs:List AV)(m:Qk)

end

section
variable (L:List PS)(hl:L.length≤maxLen)(p:PS→Bool)(c:Nat)(cs:List AV)(m:Qk)

def JxS (k:Nat)(st:St):Prop :=
 ∃f i,st=⟨f,Qc :: m,[]⟩∧k=L.length-i∧QS p L 0=QS p (L.drop i) i∧f 0=.list (L.map Xd)∧f 1=.fn (.func c) [] (AV.shL cs)∧f 7=.int .i64 (L.length:Nat)∧f 8=.int .i64 (i:Nat)

include hl in
theorem QRr (hc:∀o∈L,Qf Tryz.prog c (Xd o :: AV.shL cs) (Qc :: m) fun y m1=>y=.bool (p o)∧m1=Qc :: m) :
  Qf Tryz.prog 253 [.list (L.map Xd),.fn (.func c) [] cs] m fun y m1=>y=.int .i64 (QS p L 0)∧m1=m:=by
 refine QsZ.go (by simp) ?_;simp only[QZ5,Qa,seval];refine Qe (JxS L p c cs m) _ ⟨_,0,rfl,rfl,rfl,rfl,rfl,rfl,rfl⟩ ?_;rintro _ st ⟨f,i,rfl,rfl,hx,h0,h1,h7,h8⟩;simp only[h7,h8,Qa,seval];by_cases hlt:i<L.length
 ·obtain⟨x,hi⟩:∃x,L[i]? = some x:=⟨L[i],QYN hlt⟩;have hcl:=hc x (QYY hi);have hg:(L.map Xd)[i]? = some (Xd x):=by simp[hi]
  have e1:=Ql i _ hlt hl;simp only[Xd,PS.cells]at hcl;simp only[Qw hlt,Qj,QZ8,Qd,hg,Xd,PS.cells,h0,h1,h8,eE,seval];refine Xa (fa:=[]) (fb:=AV.shL cs) rfl hcl (by simp only[QZh,QZG,QY6,QY5,Qa,seval]) ?_;rw[XD p hi]at hx;cases hp:p x
  ·rw[hp]at hx;simp only[QY3,if_false]at hx;simp only[h8,e1,Qa,seval];exact⟨L.length-(i+1),by omega,_,i+1,rfl,rfl,hx,h0,h1,h7,rfl⟩
  ·rw[hp]at hx;simp only[if_true]at hx;simp only[hx,Qa,seval]
 ·have hx':QS p L 0 = -1:=by rw[hx,QZm (by omega)];rfl
  simp only[Qy hlt,hx',Qa,seval]

include hl in
theorem QRs (hc:∀o∈L,Qf Tryz.prog c (Xd o :: AV.shL (AV.shL cs)) (Qc :: Qc :: m) fun y m1=>y=.bool (p o)∧m1=Qc :: Qc :: m) :
  Qf Tryz.prog 219 [.list (L.map Xd),.fn (.func c) [] cs] m fun y m1=>y=.bool (L.any p)∧m1=m:=by
 refine QsN.go (by simp) ?_;simp only[Qa,seval];refine Qb (QRr L hl p c (AV.shL cs) _ hc) (by simp only[QZh,QZG,Qa,seval]<;>rfl) ?_;simp only[WN,Qa,seval]

end

section
variable (L:List (List UInt8))(hl:L.length≤maxLen)(p:(List UInt8)→Bool)(c:Nat)(cs:List AV)(m:Qk)

def JxR (k:Nat)(st:St):Prop :=
 ∃f i,st=⟨f,Qc :: m,[]⟩∧k=L.length-i∧QS p L 0=QS p (L.drop i) i∧f 0=.list (L.map Qo)∧f 1=.fn (.func c) [] (AV.shL cs)∧f 7=.int .i64 (L.length:Nat)∧f 8=.int .i64 (i:Nat)

include hl in
theorem QRt (hc:∀o∈L,Qf Tryz.prog c (Qo o :: AV.shL cs) (Qc :: m) fun y m1=>y=.bool (p o)∧m1=Qc :: m) :
  Qf Tryz.prog 203 [.list (L.map Qo),.fn (.func c) [] cs] m fun y m1=>y=.int .i64 (QS p L 0)∧m1=m:=by
 refine Qqx.go (by simp) ?_;simp only[QZ5,Qa,seval];refine Qe (JxR L p c cs m) _ ⟨_,0,rfl,rfl,rfl,rfl,rfl,rfl,rfl⟩ ?_;rintro _ st ⟨f,i,rfl,rfl,hx,h0,h1,h7,h8⟩;simp only[h7,h8,Qa,seval];by_cases hlt:i<L.length
 ·obtain⟨x,hi⟩:∃x,L[i]? = some x:=⟨L[i],QYN hlt⟩;have hcl:=hc x (QYY hi);have hg:(L.map Qo)[i]? = some (Qo x):=by simp[hi]
  have e1:=Ql i _ hlt hl;simp only[Qo]at hcl;simp only[Qw hlt,Qj,QZ8,Qd,hg,Qo,h0,h1,h8,eE,seval];refine Xa (fa:=[]) (fb:=AV.shL cs) rfl hcl (by simp only[QZh,QZG,QY6,QY5,Qa,seval]) ?_;rw[XD p hi]at hx;cases hp:p x
  ·rw[hp]at hx;simp only[QY3,if_false]at hx;simp only[h8,e1,Qa,seval];exact⟨L.length-(i+1),by omega,_,i+1,rfl,rfl,hx,h0,h1,h7,rfl⟩
  ·rw[hp]at hx;simp only[if_true]at hx;simp only[hx,Qa,seval]
 ·have hx':QS p L 0 = -1:=by rw[hx,QZm (by omega)];rfl
  simp only[Qy hlt,hx',Qa,seval]

include hl in
theorem Ps (hc:∀o∈L,Qf Tryz.prog c (Qo o :: AV.shL (AV.shL cs)) (Qc :: Qc :: m) fun y m1=>y=.bool (p o)∧m1=Qc :: Qc :: m) :
  Qf Tryz.prog 148 [.list (L.map Qo),.fn (.func c) [] cs] m fun y m1=>y=.bool (L.any p)∧m1=m:=by
 refine Qql.go (by simp) ?_;simp only[Qa,seval];refine Qb (QRt L hl p c (AV.shL cs) _ hc) (by simp only[QZh,QZG,Qa,seval]<;>rfl) ?_;simp only[WN,Qa,seval]

end

section
variable (L:List PG)(hl:L.length≤maxLen)(lt:PG→PG→Bool)(c:Nat)(cs:List AV)(m:Qk)

end

section
variable (L:List PO)(hl:L.length≤maxLen)(lt:PO→PO→Bool)(c:Nat)(cs:List AV)(m:Qk)

end

section
variable (L:List PE)(hl:L.length≤maxLen)(lt:PE→PE→Bool)(c:Nat)(cs:List AV)(m:Qk)

end

section
variable (L:List PI)(hl:L.length≤maxLen)(lt:PI→PI→Bool)(c:Nat)(cs:List AV)(m:Qk)

end

def cl (c:Nat):Int:=if 97≤c∧c≤122 then 1 else if 65≤c∧c≤90 then 2 else if 48≤c∧c≤57 then 3 else if c=95 then 4 else 0

theorem QRu (c:Nat):Qi Tryz.prog 252 [.int .i32 (c:Nat)] (.int .i64 (cl c)):=by
 refine Qqb.fn (by simp) ?_;simp only[Qa,seval]
 repeat' (first|(refine XZ (fun h=>?_) (fun h=>?_)<;>simp only[h,Qa,seval])|(refine Zz (fun h=>?_) (fun h=>?_)<;>simp only[h,Qn,Qa,seval])|(refine ZA (fun h=>?_) (fun h=>?_)<;>simp only[h,Qn,eE,seval]))
 all_goals((try simp only[QZ2,Q0E,QY8,Q0F,ne_eq]at *)<;>unfold cl<;>(repeat' split)<;>first|rfl|(exfalso;omega))

theorem Pt {s:List UInt8}{i:Nat}{c:UInt8}(h:s[i]? = some c):(c.toNat<128→XA s i=(c.toNat,1))∧(128≤c.toNat→128≤(XA s i).1):=by
 have g0:(⟨⟨s⟩⟩:ByteArray).get! (i+0)=c:=by
  show(⟨s⟩:Array UInt8)[i+0]! = c;simp[h]
 constructor
 ·intro hc;simp only[XA,Utf8.decode,g0];rw[QYS hc]
 ·intro hc;simp only[XA,Utf8.decode,g0];rw[QYR (by omega)]
  (repeat' split)<;>simp only[ge_iff_le,QY7,QZ2,Utf8.runeError]at *<;>omega

def pq (s:List UInt8)(j:Nat):Bool:=match s[j]? with
 |some c=>if j=0 then J8 c else JB c
 |none=>true
theorem W9 {s:List UInt8}{j:Nat}{c:UInt8}(h:s[j]? = some c):pq s j=if j=0 then J8 c else JB c:=by
 unfold pq;rw[h]

theorem N1 {c:UInt8}(h:J8 c=true):JB c=true:=by unfold JB;rw[h];rfl

theorem Wa (s:List UInt8):Q9 s=(decide (1≤s.length)&&decide (s.length≤40)&&Xq (pq s) s.length):=by
 cases s with
 |nil=>rfl
 |cons c t=>
  have h1:decide (1≤(c :: t).length)=true:=by simp
  rw[h1,Q0p];show(decide ((c :: t).length≤40)&&J8 c&&t.all JB)=_;rw[Bool.and_assoc];congr 1
  rw[QZB,QY7,Q1,QYX]
  constructor
  ·rintro⟨h2,h3⟩ i hi;cases i with
   |zero=>rw[W9 (c:=c) rfl,QYS rfl];exact h2
   |succ i=>
    have hlt:i<t.length:=by simpa using hi
    rw[W9 (c:=t[i]) (by simp[QYN hlt]),QYR (by omega)];exact h3 _ (QZz _)
  ·intro h;refine⟨?_,fun x hx=>?_⟩
   ·have:=h 0 (by simp)
    rwa [W9 (c:=c) rfl,QYS rfl]at this
   ·obtain⟨i,hi⟩:=QYW.1 hx;have hlt:=(QYM.1 hi).1;have:=h (i+1) (by simpa using hlt)
    rwa [W9 (c:=x) (by simpa using hi),QYR (by omega)]at this

theorem QL0 {s:List UInt8}{i:Nat}{c:UInt8}(h:s[i]? = some c)(r:Nat)(hr:(c.toNat<128→r=c.toNat)∧(128≤c.toNat→128≤r)) :
  (cl r==0||((i:Int)==0&&(cl r != 1&&cl r != 2)))=!pq s i:=by
 rw[W9 h];obtain⟨h1,h2⟩:=hr;have hc:=c.toNat_lt;unfold cl J8 JB J8;generalize c.toNat=x at *;by_cases hx:x<128
 ·have e:=h1 hx;subst e;by_cases hi:i=0
  ·subst hi;rw[QYS rfl]
   (repeat' split)<;>simp<;>omega
  ·rw[QYR hi];have hz:((i:Int)==0)=false:=by simp;omega
   rw[hz]
   (repeat' split)<;>simp<;>omega
 ·have:=h2 (by omega);have e:(if 97≤r∧r≤122 then(1:Int)else if 65≤r∧r≤90 then 2 else if 48≤r∧r≤57 then 3 else if r=95 then 4 else 0)=0:=by
   rw[QYR (by omega),QYR (by omega),QYR (by omega),QYR (by omega)]
  rw[e];split<;>simp<;>omega

def PaI (s:List UInt8)(k:Nat)(st:St):Prop :=
 ∃f fr i,st=⟨f,[fr],[]⟩∧k=s.length-i∧i≤s.length∧Xq (pq s) i=true∧f 0=.str s∧f 7=.ptr 0 7 0∧fr 7=.iter (.str s) i

theorem QCI (s:List UInt8):Qi Tryz.prog 217 [.str s] (.bool (Q9 s)):=by
 refine QpY.fn (by simp) ?_;simp only[Qa,seval];refine FE rfl rfl ?_;simp only[Qa,seval];refine Qe (PaI s) s.length ⟨_,_,0,rfl,rfl,QYT _,rfl,rfl,rfl,rfl⟩ ?_;rintro _ st ⟨f,fr,i,rfl,rfl,hi,hx,h0,h7,m7⟩;simp only[Qa,seval];refine FG h7 m7 (fun hlt=>?_) (fun hge=>?_)
 ·obtain⟨c,hc⟩:∃c,s[i]? = some c:=⟨s[i],QYN hlt⟩;obtain⟨u1,u2⟩:=Pt hc;have hcl:=QRu (XA s i).1;have hq:=QL0 hc (XA s i).1 ⟨fun h=>by rw[u1 h],u2⟩;have hw:pq s i=true→(XA s i).2=1:=by
   intro h;rw[u1];rw[W9 hc]at h;have hp:JB c=true:=by
    split at h
    ·exact N1 h
    ·exact h
   unfold JB J8 at hp;simp at hp;omega
  generalize XA s i=cw at hcl hq hw;obtain⟨r,w⟩:=cw;simp only[Qa,seval];refine aC hcl ?_;have hstep:Xq (pq s) (i+1)=pq s i:=by rw[Xq,hx,Q0p]
  have hend:pq s i=false→Q9 s=false:=by
   intro h;rw[Wa,Pq hlt h,Q0G]
  simp only at hq hw;generalize cl r=k at hq;cases hp:pq s i
  ·rw[hp]at hq;have he:=hend hp;simp only[he,Qa,seval];cases a1:(k==0)
   ·cases a2:((i:Int)==0)
    ·simp[a1,a2]at hq
    ·cases a3:(k != 1)
     ·simp[a1,a2,a3]at hq
     ·cases a4:(k != 2)
      ·simp[a1,a2,a3,a4]at hq
      ·simp only[a2,a3,a4,Qa,seval]
   ·simp only[Qa,seval]
  ·rw[hp]at hq;have hw:=hw hp;subst hw;simp only[Qa,seval];cases a1:(k==0)
   ·cases a2:((i:Int)==0)
    ·simp only[a2,Qa,seval];exact⟨s.length-(i+1),by omega,_,_,i+1,rfl,rfl,by omega,by rw[hstep,hp],h0,h7,rfl⟩
    ·cases a3:(k != 1)
     ·simp only[a2,a3,Qa,seval];exact⟨s.length-(i+1),by omega,_,_,i+1,rfl,rfl,by omega,by rw[hstep,hp],h0,h7,rfl⟩
     ·cases a4:(k != 2)
      ·simp only[a2,a3,a4,Qa,seval];exact⟨s.length-(i+1),by omega,_,_,i+1,rfl,rfl,by omega,by rw[hstep,hp],h0,h7,rfl⟩
      ·simp[a1,a2,a3,a4]at hq
   ·simp[a1]at hq
 ·have hii:i=s.length:=by omega
  subst hii;have e1:decide (((s.length:Nat):Int)≥1)=decide (1≤s.length):=by rw[decide_eq_decide];omega
  have e2:decide (((s.length:Nat):Int)≤40)=decide (s.length≤40):=by rw[decide_eq_decide];omega
  have e3:Q9 s=(decide (1≤s.length)&&decide (s.length≤40)):=by rw[Wa,hx,QZT]
  simp only[h0,e1,e3,Qa,seval];cases a1:decide (1≤s.length)<;>simp only[Q0p,Q0c,h0,e2,Qa,seval]

theorem QRv (s:List UInt8):Qi Tryz.prog 207 [.str s] (.bool (ZL s)):=by
 refine EB.fn (by simp) ?_;simp only[Qs,Qa,seval];have e:ZL s=YZ.any fun w=>s==w:=rfl
 simp only[YZ,List.any_cons,List.any_nil,Q0H]at e
 repeat' (first|(refine XZ (fun h=>?_) (fun h=>?_)<;>simp only[h,Qs,Qa,seval])|(refine Zz (fun h=>?_) (fun h=>?_)<;>simp only[h,Qn,Qs,eE,seval])|(refine ZA (fun h=>?_) (fun h=>?_)<;>simp only[h,Qn,Qs,eE,seval]))
 all_goals(simp only[*,Q0r,Q0I,Q0H]at e;simp only[e])

theorem QRw (s:List UInt8):Qi Tryz.prog 260 [.str s,.str [46]] (.int .i64 (s.count 46:Nat)):=by
 refine QrM.fn (by simp) ?_;have b0:(((1:Nat):Int)==0)=false:=rfl;have b1:(((1:Nat):Int)==1)=true:=rfl;have b2:([(46:UInt8)])[Int.toNat 0]? = some 46:=rfl;simp only[QYZ,QZR,QY9,Qa,seval];refine V8 rfl rfl ?_;simp only[Gx,Lib.countByte,Qa,seval]
 try rfl

theorem QRx (s:List UInt8):Qi Tryz.prog 275 [.str s,.int .u8 46] (.int .i64 (Lib.indexByte s 46)):=by
 refine Qry.fn (by simp) ?_;simp only[Qa,seval];refine V8 rfl rfl ?_;simp only[Gx,QY3,Qa,seval]
 try rfl

theorem QRy (s:List UInt8):Qi Tryz.prog 271 [.str s,.str [46]] (.int .i64 (Lib.indexByte s 46)):=by
 refine QqX.fn (by simp) ?_;have b0:(((1:Nat):Int)==0)=false:=rfl;have b1:(((1:Nat):Int)==1)=true:=rfl;have b2:([(46:UInt8)])[Int.toNat 0]? = some 46:=rfl;have hk:=QRx s;simp only[Ph,Sr,Ss,Su,Sv,Sw,Sx,Sy,Sz,SA,Ph,EC,QYZ,QZR,QY9,Qs,Qa,seval];cases h:(([46]:List UInt8)==s)
 ·simp only[Qa,seval];refine aC hk ?_;simp only[Qa,seval]
 ·have hs:s=[46]:=by simpa using (QY8.1 h).symm
  subst hs;simp only[Qa,seval]
  try rfl

theorem QRz (s:List UInt8):Qi Tryz.prog 261 [.str s,.str [46]] (.int .i64 (Lib.indexByte s 46)):=by
 refine QqV.fn (by simp) ?_;simp only[Qa,seval];refine aC (QRy s) ?_;simp only[Qa,seval]

theorem TP {t:List UInt8}{o:Nat}(h:Lib.indexByte t 46=(o:Int)):o<t.length∧t=t.take o++46 :: t.drop (o+1)∧∀c∈t.take o,c≠46:=by
 obtain⟨h1,h2⟩:=Lib.indexByte_some h;have hlt:=(QYM.1 h1).1;refine⟨hlt,?_,?_⟩
 ·have h3:t[o]=46:=(QYM.1 h1).2;rw[←h3,←QZt hlt,QZV]
 ·intro c hc e;subst e;obtain⟨k,hk⟩:=QYW.1 hc;rw[QZo]at hk;split at hk
  ·exact h2 k ‹_› hk
  ·cases hk

theorem EQ {t:List UInt8}(h:Lib.indexByte t 46 = -1):Qm t=[t]:=by
 refine W8 fun c hc e=>?_
 subst e;obtain⟨k,hk⟩:=QYW.1 hc;exact Lib.indexByte_none h k hk

theorem TQ {t:List UInt8}{o:Nat}(h:Lib.indexByte t 46=(o:Int)):Qm t=t.take o :: Qm (t.drop (o+1)):=by
 obtain⟨_,h2,h3⟩:=TP h
 conv=>lhs;rw[h2]
 exact G9 h3

theorem QCJ (t:List UInt8):Lib.indexByte t 46 = -1∨∃o:Nat,Lib.indexByte t 46=(o:Int):=by
 have:=Lib.indexByte_ge t 46;by_cases h:Lib.indexByte t 46 = -1
 ·exact .inl h
 ·obtain⟨o,ho⟩:=Q0m (a:=Lib.indexByte t 46) (by omega);exact .inr ⟨o,ho⟩

def SpI (s:List UInt8)(n:Nat)(k:Nat)(st:St):Prop :=
 ∃f fr t done,st=⟨f,[fr],[]⟩∧k=(Qm t).length∧Qm s=done++Qm t∧n=done.length+(Qm t).length∧t.length≤s.length∧
  f 0=.str t∧f 1=.str [46]∧f 2=.int .i64 0∧f 3=.int .i64 ((n-1:Nat):Int)∧f 9=.vec 0 31 1 0 n false∧f 10=.int .i64 (done.length:Nat)∧fr 31=.vec 1 1 (done.map Qo++List.replicate (Qm t).length (.str []))

theorem ER (done:List (List UInt8))(x:List UInt8)(n:Nat)(h:0<n):(done.map Qo++List.replicate n (AV.str [])).set done.length (.str x)=(done++[x]).map Qo++List.replicate (n-1) (AV.str []):=by
 obtain⟨k,rfl⟩:∃k,n=k+1:=⟨n-1,by omega⟩;rw[List.set_append_right _ _ (by simp)];simp[Qo,List.replicate_succ]

theorem QRA (s:List UInt8)(hs:s.length≤17592186044000):Qi Tryz.prog 241 [.str s,.str [46],.int .i64 0,.int .i64 (-1)] (.list ((Qm s).map Qo)):=by
 have hl:=UE s;have hc:s.count 46≤s.length:=List.count_le_length;have hm:(Qm s).length≤s.length+1:=by omega
 have b0:((-1:Int)==0)=false:=rfl;have b1:decide ((-1:Int)<0)=true:=rfl;have e1:IntKind.i64.wrap ((s.count 46:Nat)+1:Int)=((Qm s).length:Nat):=by rw[QU];omega
 have e2:IntKind.i64.wrap ((s.length:Nat)+1:Int)=((s.length+1:Nat):Int):=by rw[QU];omega
 have e3':(((s.length+1:Nat):Int)<((Qm s).length:Nat))=False:=eq_false (by omega);have e4:IntKind.i64.wrap (((Qm s).length:Nat)-1:Int)=(((Qm s).length-1:Nat):Int):=by rw[QU];omega
 have hz:X6 1 [AV.str []]=.str []:=rfl;refine QqQ.fn (by simp) ?_;simp only[b0,Qs,Qa,seval];have b2:(([46]:List UInt8)==[])=false:=rfl;simp only[b2,Qa,seval];refine aC (QRw s) ?_;simp only[e1,e2,e3',Qa,seval];refine V9 (n:=(Qm s).length) (k:=(Qm s).length) rfl rfl (QYK _) (by omega) (by omega) rfl ?_;simp only[e4,hz,Qa,seval];refine Qe (SpI s (Qm s).length) _ ⟨_,_,s,[],rfl,rfl,rfl,by simp,QYK _,rfl,rfl,rfl,rfl,rfl,rfl,rfl⟩ ?_;rintro _ st ⟨f,fr,t,done,rfl,rfl,hp,hn,ht,h0,h1,h2,h3,h9,h10,m31⟩;simp only[h3,h10,Qa,seval];have hpos:0<(Qm t).length:=QZZ.2 (KR t);have ia:Qd [fr] 1 none (.vec 0 31 1 0 (Qm s).length false) ((done.length:Nat):Int)=some (.vptr 0 31 1 done.length 0):=by
  have e:Am.Qh [fr] 0 31=.vec 1 1 (done.map Qo++List.replicate (Qm t).length (.str [])):=m31;simp only[Qd,e,Qj,if_true,QZ8];simp;omega
 have ist:∀x:List UInt8,Q8 [fr] (.vptr 0 31 1 done.length 0) [.str x]=some [Qt fr 31 (.vec 1 1 ((done++[x]).map Qo++List.replicate ((Qm t).length-1) (.str [])))]:=by
  intro x;have e:Am.Qh [fr] 0 31=.vec 1 1 (done.map Qo++List.replicate (Qm t).length (.str [])):=m31;have hy:(done.map Qo++List.replicate (Qm t).length (.str []))[done.length]? = some (.str []):=by
   rw[QZ7 (by simp)];simp[hpos]
  have hx:Jt (.str []) 0 [.str x]=.str x:=rfl;simp only[Q8,e,hy,if_true,←ER done x _ hpos];simp[AV.cells,AV.rfL,AV.rf,Am.put,hx]
 have ew:IntKind.i64.wrap ((done.length:Nat)+1:Int)=((done.length+1:Nat):Int):=by rw[QU];omega
 rcases QCJ t with hd|⟨o,ho⟩
 ·have hp1:=EQ hd;have hl1:(Qm t).length=1:=by rw[hp1];rfl
  have d1:decide (((done.length:Nat):Int)<(((Qm s).length-1:Nat):Int))=false:=Q0u (by omega);have hi:=ist t;have hrow:(done++[t]).map Qo++List.replicate ((Qm t).length-1) (AV.str [])=(Qm s).map Qo:=by
   rw[hl1,hp,hp1];simp
  have hlen:done.length+1=(Qm s).length:=by omega
  rw[hrow]at hi;rw[hlen]at ew;have hle:((Qm s).length≤(Qm s).length)=True:=eq_true (QYK _);have ht:(((Qm s).map Qo).drop 0).take (Qm s).length=(Qm s).map Qo:=by rw[QZs];exact QZj (by simp)
  simp only[d1,ia,hi,h0,h9,h10,ew,eE,seval];simp only[Qj,if_true,QZ8,QYT,hle,true_and,and_true,QZY,QZy,Q0H,Zs,QZQ,Jz,Q0v];have el:Am.Qh [Qt fr 31 (Ob.vec 1 1 ((Qm s).map Qo))] 0 31=.vec 1 1 ((Qm s).map Qo):=QY _ _ _;simp only[AV.still,el,Q0p,bne_self_eq_false,QY3,if_false,QY9,QZ5,hle,QZJ,if_true,ht,QZP,AV.un,Q0v,QZQ]
 ·have hp1:=TQ ho;obtain⟨ho1,ho2,ho3⟩:=TP ho;have hl1:(Qm t).length=(Qm (t.drop (o+1))).length+1:=by rw[hp1];simp
  have hpos2:0<(Qm (t.drop (o+1))).length:=QZZ.2 (KR _);have d1:decide (((done.length:Nat):Int)<(((Qm s).length-1:Nat):Int))=true:=Q0D (by omega);have d2:decide ((o:Int)<0)=false:=Q0u (by omega);have w1:IntKind.i64.wrap ((o:Int)+0)=(o:Int):=by rw[QU];omega
  have w2:IntKind.i64.wrap ((o:Int)+1)=((o+1:Nat):Int):=by rw[QU];omega
  have hi:=ist (t.take o);simp only[d1,h0,h1,Qa,seval];refine aC (QRz t) ?_;have hle1:(0≤o∧o≤t.length)=True:=eq_true ⟨QYT _,by omega⟩;have hle2:(o+1≤t.length∧t.length≤t.length)=True:=eq_true ⟨by omega,QYK _⟩;have ht2:(t.drop (o+1)).take (t.length-(o+1))=t.drop (o+1):=QZj (by simp);simp only[ho,d2,w1,w2,Qj,QZ8,hle1,hle2,ht2,QZY,h0,h1,h2,h9,h10,eE,seval];simp only[ia,hi,ew,Qa,seval];have hlen:(done++[t.take o]).length=done.length+1:=by simp
  have hk:(Qm t).length-1=(Qm (t.drop (o+1))).length:=by omega
  exact⟨(Qm (t.drop (o+1))).length,by omega,_,_,t.drop (o+1),done++[t.take o],rfl,rfl,by rw[hp,hp1];simp,by rw[hlen];omega,by simp;omega,rfl,h1,h2,h3,h9,by rw[hlen]<;>first|rfl|simp only[eE,seval],by rw[←hk]<;>exact QY _ _ _⟩

def N2 (c:UInt8):Bool:=decide (97≤c.toNat)&&decide (c.toNat≤122)
def N3 (c:UInt8):Bool:=decide (65≤c.toNat)&&decide (c.toNat≤90)

theorem QCK (c:UInt8):Qi Tryz.prog 195 [.int .u8 (c.toNat:Nat)] (.bool (N2 c)):=by
 refine QRa.fn (by simp) ?_;have e1:decide ((c.toNat:Int)≥97)=decide (97≤c.toNat):=by rw[decide_eq_decide];omega
 have e2:decide ((c.toNat:Int)≤122)=decide (c.toNat≤122):=by rw[decide_eq_decide];omega
 simp only[e1,N2,Qa,seval];cases h:decide (97≤c.toNat)<;>simp only[e2,Q0p,Q0c,Qa,seval]

theorem QCL (c:UInt8):Qi Tryz.prog 196 [.int .u8 (c.toNat:Nat)] (.bool (N3 c)):=by
 refine QQ7.fn (by simp) ?_;have e1:decide ((c.toNat:Int)≥65)=decide (65≤c.toNat):=by rw[decide_eq_decide];omega
 have e2:decide ((c.toNat:Int)≤90)=decide (c.toNat≤90):=by rw[decide_eq_decide];omega
 simp only[e1,N3,Qa,seval];cases h:decide (65≤c.toNat)<;>simp only[e2,Q0p,Q0c,Qa,seval]

theorem ES (c:UInt8):JB c=(N2 c||N3 c || !((c.toNat:Int) != 95) || !(decide ((c.toNat:Int)<48)||decide ((c.toNat:Int) > 57))):=by
 unfold JB J8 N2 N3;generalize c.toNat=x;rw[QZB];simp only[QZE,QY7,QZ2,QY8,QZD,bne_eq_false_iff_eq,QZA,Q0E];omega

def PrI (s:List UInt8)(k:Nat)(st:St):Prop :=
 ∃f i,st=⟨f,[Qc],[]⟩∧k=s.length-i∧1≤i∧Xq (pq s) i=true∧f 0=.str s∧f 3=.int .i64 (i:Nat)

theorem ET (s:List UInt8):Qi Tryz.prog 141 [.str s] (.bool (Q9 s)):=by
 refine QQ4.fn (by simp) ?_;simp only[Qa,seval];by_cases hl:s.length=0
 ·have d0:((s.length:Int)==0)=true:=by rw[hl];rfl
  have e:Q9 s=false:=by rw[Wa,hl];rfl
  simp only[d0,e,Qa,seval]
 have d0:((s.length:Int)==0)=false:=by rw[Q0F];omega
 by_cases hm:s.length≤40
 case neg=>
  have d1:decide ((s.length:Int) > 40)=true:=Q0D (by omega);have e:Q9 s=false:=by rw[Wa,Q0u hm,Q0G,Q0c]
  simp only[d0,d1,e,Qa,seval]
 have d1:decide ((s.length:Int) > 40)=false:=Q0u (by omega);have hp:Q9 s=Xq (pq s) s.length:=by rw[Wa,Q0D hm,Q0D (by omega:1≤s.length)];rfl
 obtain⟨c,hc⟩:∃c,s[0]? = some c:=⟨s[0]'(by omega),QYN (by omega)⟩;have hq0:Xq (pq s) 1=(N2 c||N3 c):=by
  show(true&&pq s 0)=_;rw[W9 hc,QYS rfl];rfl
 have h1:=QCK c;have h2:=QCL c;have hn:Xq (pq s) 1=false→Q9 s=false:=fun h=>by
  rw[hp,Q0x];intro h';rw[Q1.2 fun k hk=>Q1.1 h' k (by omega)]at h;cases h
 have z1:Int.toNat 0=0:=rfl;have go:Xq (pq s) 1=true→∀(f:Fr),f 0=.str s→f 3=.int .i64 1→∀Q:Exit→St→Prop,(∀f,Xq (pq s) s.length=true→Q (.exit 0) ⟨f,[Qc],[]⟩)→(∀f,f 2=.bool false→Xq (pq s) s.length=false→Q .ret ⟨f,[Qc],[]⟩)→QN Tryz.prog (.loop TC) ⟨f,[Qc],[]⟩ Q:=by
  intro hq1 f h0 h3 Q hx hr;refine Qe (PrI s) _ ⟨_,1,rfl,rfl,QYK _,hq1,h0,h3⟩ ?_;clear h0 h3 hc hq0 h1 h2 hn;rintro _ st ⟨f,i,rfl,rfl,h1i,hx1,h0,h3⟩;simp only[h0,h3,Qa,seval];by_cases hlt:i<s.length
  ·obtain⟨c,hc⟩:∃c,s[i]? = some c:=⟨s[i],QYN hlt⟩;have e1:=Ql i _ hlt (by simp only[maxLen];omega);have hs1:=QCK c;have hs2:=QCL c;have hstep:Xq (pq s) (i+1)=JB c:=by
    rw[Xq,hx1,Q0p,W9 hc,QYR (by omega)]
   have hend:JB c=false→Xq (pq s) s.length=false:=fun h=>by
    rw[Q0x];intro h';rw[Q1.2 fun k hk=>Q1.1 h' k (by omega)]at hstep;rw[h]at hstep;cases hstep
   have fin:∀f':Fr,JB c=true→f' 0=.str s→f' 3=.int .i64 ((i+1:Nat):Int)→∃k,k<s.length-i∧PrI s k ⟨f',[Qc],[]⟩:=by
    intro f' hp h0 h3;exact⟨s.length-(i+1),by omega,f',i+1,rfl,rfl,by omega,by rw[hstep,hp],h0,h3⟩
   have hpc:=ES c;simp only[Qw hlt,Qj,QZ8,hc,h0,h3,Qa,seval];refine aC hs1 ?_;cases a1:N2 c
   ·simp only[Qj,QZ8,hc,h0,h3,QZN,Qa,seval];refine aC hs2 ?_;cases a2:N3 c
    ·cases a3:((c.toNat:Int) != 95)
     ·rw[a1,a2,a3]at hpc;simp only[a3,Qj,QZ8,hc,h0,h3,e1,QZN,Qa,seval];exact fin _ (by rw[hpc];rfl) h0 rfl
     ·cases a4:decide ((c.toNat:Int)<48)
      ·cases a5:decide ((c.toNat:Int) > 57)
       ·rw[a1,a2,a3,a4,a5]at hpc;simp only[a3,a4,a5,Qj,QZ8,hc,h0,h3,e1,QZN,Qa,seval];exact fin _ (by rw[hpc];rfl) h0 rfl
       ·rw[a1,a2,a3,a4,a5]at hpc;simp only[a3,a4,a5,Qj,QZ8,hc,h0,h3,QZN,Qa,seval];exact hr _ rfl (hend (by rw[hpc];rfl))
      ·rw[a1,a2,a3,a4]at hpc;simp only[a3,a4,Qj,QZ8,hc,h0,h3,QZN,Qa,seval];exact hr _ rfl (hend (by rw[hpc];rfl))
    ·rw[a1,a2]at hpc;simp only[h3,e1,Q0q,Qa,seval];exact fin _ (by rw[hpc];rfl) h0 rfl
   ·rw[a1]at hpc;simp only[h3,e1,Q0q,Qa,seval];exact fin _ (by rw[hpc];rfl) h0 rfl
  ·simp only[Qy hlt,Qa,seval];exact hx _ (Q1.2 fun k hk=>Q1.1 hx1 k (by omega))
 simp only[d0,d1,z1,hc,Qa,seval];refine aC h1 ?_;cases a1:N2 c
 ·simp only[z1,hc,QZN,Qa,seval];refine aC h2 ?_;cases a2:N3 c
  ·rw[a1,a2]at hq0;simp only[hn hq0,QZN,Qa,seval]
  ·rw[a1,a2]at hq0;simp only[Q0q,Qa,seval];refine go hq0 _ rfl rfl _ (fun f h=>?_) (fun f h2 h=>?_)
   ·simp only[hp,h,Qa,seval]
   ·simp only[hp,h,h2,Qa,seval]
 ·rw[a1,Q0r]at hq0;simp only[Q0q,Qa,seval];refine go hq0 _ rfl rfl _ (fun f h=>?_) (fun f h2 h=>?_)
  ·simp only[hp,h,Qa,seval]
  ·simp only[hp,h,h2,Qa,seval]

theorem QCM (s:List UInt8):Qi Tryz.prog 140 [.str s] (.bool (ZL s)):=by
 refine QQ1.fn (by simp) ?_;simp only[Qs,Qa,seval];have e:ZL s=YZ.any fun w=>s==w:=rfl
 simp only[YZ,List.any_cons,List.any_nil,Q0H]at e
 repeat' (first|(refine XZ (fun h=>?_) (fun h=>?_)<;>simp only[h,Qs,Qa,seval])|(refine Zz (fun h=>?_) (fun h=>?_)<;>simp only[h,Qn,Qs,eE,seval])|(refine ZA (fun h=>?_) (fun h=>?_)<;>simp only[h,Qn,Qs,eE,seval]))
 all_goals(simp only[*,Q0r,Q0I,Q0H]at e;simp only[e])

def FuI (s:List UInt8)(k:Nat)(st:St):Prop :=
 ∃f i p,st=⟨f,[Qc],[]⟩∧k=s.length-i∧i≤s.length∧p.length≤i∧(∀c∈p,c≠(46:UInt8))∧(Qm s).all Q9=(Qm (p++s.drop i)).all Q9∧f 0=.str s∧f 3=.str p∧f 4=.int .i64 (i:Nat)

theorem QRB (s:List UInt8):Qi Tryz.prog 138 [.str s] (.bool (decide (s.length≤120)&&(Qm s).all Q9)):=by
 refine QRg.fn (by simp) ?_;simp only[Qa,seval];by_cases hm:s.length≤120
 case neg=>
  have d1:decide ((s.length:Int) > 120)=true:=Q0D (by omega);simp only[d1,Q0u hm,Q0c,Qa,seval]
 have d1:decide ((s.length:Int) > 120)=false:=Q0u (by omega);simp only[d1,Q0D hm,Q0p,Qa,seval];refine Qe (FuI s) _ ⟨_,0,[],rfl,rfl,QYT _,QYK _,by simp,rfl,rfl,rfl,rfl⟩ ?_;rintro _ st ⟨f,i,p,rfl,rfl,hi,hpl,hpd,hx,h0,h3,h4⟩;simp only[h0,h4,Qa,seval];by_cases hlt:i<s.length
 ·obtain⟨c,hc⟩:∃c,s[i]? = some c:=⟨s[i],QYN hlt⟩;have e1:=Ql i _ hlt (by simp only[maxLen];omega);have hd:s.drop i=c :: s.drop (i+1):=by
   rw[QZt hlt];congr 1
   exact(QYM.1 hc).2
  have hts:(s.drop i).take (i+1-i)=[c]:=by
   rw[hd,show i+1-i=1 by omega];rfl
  simp only[Qw hlt,Qj,QZ8,hc,h0,h4,Qa,seval];by_cases hdot:c=46
  ·subst hdot;have b0:((((46:UInt8).toNat:Nat):Int) != 46)=false:=rfl;have hs:(Qm s).all Q9=(Q9 p&&(Qm (s.drop (i+1))).all Q9):=by
    rw[hx,hd,G9 hpd];rfl
   simp only[h3,Qa,seval];refine aC (ET p) ?_;cases hp:Q9 p
   ·rw[hp,Q0c]at hs;simp only[hs,QZN,Qa,seval]
   ·rw[hp,Q0p]at hs;simp only[h4,e1,Q0q,Qa,seval];exact⟨s.length-(i+1),by omega,_,i+1,[],rfl,rfl,by omega,QYT _,by simp,by rw[hs];rfl,h0,rfl,rfl⟩
  ·have b0:(((c.toNat:Nat):Int) != 46)=true:=by
    rw[QZc];intro h
    apply hdot
    rw[←UInt8.toNat_inj];have:c.toNat=46:=by omega
    rw[this];rfl
   have hle:(i≤i+1∧i+1≤s.length)=True:=eq_true ⟨by omega,by omega⟩;have hsum:(p.length≤9223372036854775806)=True:=eq_true (by omega);simp only[b0,h0,h3,h4,e1,Jx,Zm,Xg,Qj,QZ8,hle,hts,Qs,hsum,Qa,seval];exact⟨s.length-(i+1),by omega,_,i+1,p++[c],rfl,rfl,by omega,by simp;omega,fun x hx=>by
    rcases QZX.1 hx with h|h
    ·exact hpd x h
    ·simp at h;subst h;exact hdot,by rw[hx,hd];simp,h0,rfl,rfl⟩
 ·have hx':(Qm s).all Q9=Q9 p:=by
   rw[hx,QZm (by omega),QZI,W8 hpd];simp
  simp only[Qy hlt,h3,hx',Qa,seval];refine aC (ET p) ?_;simp only[Qa,seval]

def Ym (s:List UInt8):Nat→Option Nat
 |0=>none
 |j+1=>if s[j]? = some 46 then some j else Ym s j

theorem UF (s:List UInt8):∀n,match Ym s n with
  |none=>∀k,k<n→s[k]?≠some 46
  |some j=>j<n∧s[j]? = some 46∧∀k,j<k→k<n→s[k]?≠some 46
 |0=>by simp[Ym]
 |n+1=>by
  unfold Ym;split
  ·rename_i h;split at h
   ·cases h
   ·rename_i h';have:=UF s n;rw[h]at this;intro k hk;rcases Q0w.1 hk with h1|rfl
    ·exact this k h1
    ·exact h'
  ·rename_i j h;split at h
   ·rename_i h';cases h;exact⟨by omega,h',fun k h1 h2=>by omega⟩
   ·rename_i h';have:=UF s n;rw[h]at this;exact⟨by omega,this.2.1,fun k h1 h2=>by
     rcases Q0w.1 h2 with h3|rfl
     ·exact this.2.2 k h1 h3
     ·exact h'⟩

def Z7 (s:List UInt8):List UInt8×List UInt8:=match Ym s s.length with
 |none=>([],s)
 |some j=>(s.take j,s.drop (j+1))

theorem N4 (s:List UInt8):((Z7 s).1=[]∧(Z7 s).2=s∧∀c∈s,c≠46)∨(s=(Z7 s).1++46 :: (Z7 s).2∧∀c∈(Z7 s).2,c≠46):=by
 have h:=UF s s.length;unfold Z7;cases hl:Ym s s.length with
 |none=>
  rw[hl]at h;refine .inl ⟨rfl,rfl,fun c hc e=>?_⟩;subst e;obtain⟨k,hk⟩:=QYW.1 hc;exact h k (QYM.1 hk).1 hk
 |some j=>
  rw[hl]at h;obtain⟨h1,h2,h3⟩:=h;refine .inr ⟨?_,fun c hc e=>?_⟩
  ·have:s[j]=46:=(QYM.1 h2).2;show s=s.take j++46 :: s.drop (j+1);rw[←this,←QZt h1,QZV]
  ·subst e;obtain⟨k,hk⟩:=QYW.1 hc;rw[QZp]at hk;exact h3 (j+1+k) (by omega) (QYM.1 hk).1 hk

def SdI (s:List UInt8)(k:Nat)(st:St):Prop :=
 ∃f,st=⟨f,[Qc],[]⟩∧k≤s.length∧Ym s s.length=Ym s k∧f 0=.str s∧f 4=.int .i64 ((k:Int)-1)

theorem QRC (s:List UInt8)(hs:s.length≤120):Qi Tryz.prog 139 [.str s] (.tup [.str (Z7 s).1,.str (Z7 s).2]):=by
 refine QRd.fn (by simp) ?_;have w0:IntKind.i64.wrap ((s.length:Int)-1)=(s.length:Int)-1:=by rw[QU];omega
 simp only[w0,Qa,seval];refine Qe (SdI s) _ ⟨_,rfl,QYK _,rfl,rfl,rfl⟩ ?_;rintro k st ⟨f,rfl,hk,hx,h0,h4⟩;simp only[h4,Qa,seval];cases k with
 |zero=>
  have d0:decide (((0:Nat):Int)-1≥0)=false:=rfl;have e:Z7 s=([],s):=by unfold Z7;rw[hx];rfl
  simp only[e,h0,Qa,seval]
 |succ j=>
  have j1:((j+1:Nat):Int)-1=(j:Int):=by omega
  have d0:decide (((j:Nat):Int)≥0)=true:=Q0D (by omega);have w1:IntKind.i64.wrap ((j:Int)-1)=(j:Int)-1:=by rw[QU];omega
  have w2:IntKind.i64.wrap ((j:Int)+1)=((j+1:Nat):Int):=by rw[QU];omega
  obtain⟨c,hc⟩:∃c,s[j]? = some c:=⟨s[j]'(by omega),QYN (by omega)⟩;simp only[j1,Qj,QZ8,hc,h0,h4,Qa,seval];by_cases hdot:c=46
  ·subst hdot;have b0:((((46:UInt8).toNat:Nat):Int)==46)=true:=rfl;have e:Z7 s=(s.take j,s.drop (j+1)):=by
    unfold Z7;rw[hx];show(match (if s[j]? = some 46 then some j else Ym s j)with|none=>([],s)|some j=>(s.take j,s.drop (j+1)))=_;rw[QYS hc]
   have hle:(0≤j∧j≤s.length)=True:=eq_true ⟨by omega,by omega⟩;have hle2:(j+1≤s.length∧s.length≤s.length)=True:=eq_true ⟨by omega,QYK _⟩;have ht:((s.drop 0).take j)=s.take j:=by simp
   have ht2:((s.drop (j+1)).take (s.length-(j+1)))=s.drop (j+1):=QZj (by simp);simp only[w2,j1,e,Jx,Zm,Xg,QZY,Qj,QZ8,hle,hle2,ht2,h0,h4,Qa,seval]
  ·have b0:(((c.toNat:Nat):Int)==46)=false:=by
    rw[Q0F];intro h
    apply hdot
    rw[←UInt8.toNat_inj];have:c.toNat=46:=by omega
    rw[this];rfl
   have hne:¬s[j]? = some 46:=fun h=>by rw[hc]at h;cases h;exact hdot rfl
   simp only[b0,j1,w1,h4,Qa,seval];exact⟨j,by omega,_,rfl,by omega,by rw[hx];show(if s[j]? = some 46 then some j else Ym s j)=_;rw[QYR hne],h0,rfl⟩

def TR (u:List UInt8):Bool:=if u=[]then false else(Qm u).any ZL

theorem QCN (s:List UInt8)(hs:s.length≤17592186044000):Qi Tryz.prog 206 [.str s,.str [46]] (.list ((Qm s).map Qo)):=by
 refine QqC.fn (by simp) ?_;simp only[Qa,seval];refine aC (QRA s hs) ?_;simp only[Qa,seval]

def IfI (s:List UInt8)(k:Nat)(st:St):Prop :=
 ∃f i,st=⟨f,[Qc],[]⟩∧k=(Qm s).length-i∧((Qm s).take i).all Q9=true∧f 0=.str s∧f 6=.list ((Qm s).map Qo)∧f 7=.int .i64 ((Qm s).length:Nat)∧f 8=.int .i64 (i:Nat)

theorem QRD (s:List UInt8)(hs:s.length≤17592186044000):Qi Tryz.prog 205 [.str s] (.bool (decide (s.length≤120)&&(Qm s).all Q9)):=by
 have hl:=UE s;have hc:s.count 46≤s.length:=List.count_le_length;refine QsA.fn (by simp) ?_;simp only[Qa,seval];refine aC (QCN s hs) ?_;simp only[QZ5,Qa,seval];refine Qe (IfI s) _ ⟨_,0,rfl,rfl,rfl,rfl,rfl,rfl,rfl⟩ ?_;rintro _ st ⟨f,i,rfl,rfl,hx,h0,h6,h7,h8⟩;simp only[h7,h8,Qa,seval];by_cases hlt:i<(Qm s).length
 ·obtain⟨x,hi⟩:∃x,(Qm s)[i]? = some x:=⟨(Qm s)[i],QYN hlt⟩;have hg:((Qm s).map Qo)[i]? = some (.str x):=by simp[hi,Qo]
  have e1:=Ql i _ hlt (by simp only[maxLen];omega);have ht:=EP (q:=Q9) hi;rw[hx,Q0p]at ht;simp only[Qw hlt,Qj,QZ8,Qd,hg,h6,h8,eE,seval];refine aC (QCI x) ?_;cases hp:Q9 x
  ·have hf:(Qm s).all Q9=false:=by
    rw[Q0x];intro h';rw[QYX.1 h' x (QYY hi)]at hp;cases hp
   simp only[hf,QZN,Q0G,Qa,seval]
  ·rw[hp]at ht;simp only[h8,e1,Q0q,Qa,seval];exact⟨(Qm s).length-(i+1),by omega,_,i+1,rfl,rfl,ht,h0,h6,h7,rfl⟩
 ·rw[QZj (by omega)]at hx;have e:decide ((s.length:Int)≤120)=decide (s.length≤120):=by rw[decide_eq_decide];omega
  simp only[Qy hlt,h0,hx,e,QZT,Qa,seval]

theorem QL1 (s:List UInt8)(m:Qk):Qf Tryz.prog 207 [Qo s] m fun y m1=>y=.bool (ZL s)∧m1=m:=by
 refine EB.go (by simp) ?_;simp only[Qo,Qs,Qa,seval];have e:ZL s=YZ.any fun w=>s==w:=rfl
 simp only[YZ,List.any_cons,List.any_nil,Q0H]at e
 repeat' (first|(refine XZ (fun h=>?_) (fun h=>?_)<;>simp only[h,Qs,Qa,seval])|(refine Zz (fun h=>?_) (fun h=>?_)<;>simp only[h,Qn,Qs,eE,seval])|(refine ZA (fun h=>?_) (fun h=>?_)<;>simp only[h,Qn,Qs,eE,seval]))
 all_goals(simp only[*,Q0r,Q0I,Q0H]at e;simp only[e])

section
variable (m:Qk)

end

section
variable {M:Nat}(P:PL)(hP:P.ok M)(hM:M≤17592186044000)
include hP hM

end

theorem Bo (n c:Nat):AV.shN n (.fn (.func c) [] [])=.fn (.func c) [] []:=by
 induction n with
 |zero=>rfl
 |succ n ih=>rw[AV.shN,ih];rfl

section
variable (L:List PO)(hl:L.length≤maxLen)(nm:PO→List UInt8)(c:Nat)(m:Qk)

end

section
variable (L:List PI)(hl:L.length≤maxLen)(nm:PI→List UInt8)(c:Nat)(m:Qk)

end

section
variable {M:Nat}(P:PL)(hP:P.ok M)
include hP

end

theorem QRE (x:PS)(n:Int)(fr:Nat→Ob)(m:Qk)(h3:fr 3=.cells [.int .i64 n]):Qf Tryz.prog 220 [Xd x,.ptr 2 3 0] (Qc :: Qc :: fr :: m) fun y m1=>y=.bool (decide (x.lo≤n)&&decide (n≤x.hi))∧m1=Qc :: Qc :: fr :: m:=by
 refine Qs4.go (by simp) ?_;simp only[Xd,PS.cells,h3,eE,seval];cases h:decide (x.lo≤n)<;>simp only[h3,Q0p,Q0c,eE,seval]

theorem QCO (L:List PS)(hl:L.length≤maxLen)(n:Int):Qi Tryz.prog 162 [.list (L.map Xd),.int .i64 n] (.bool (kept L n)):=by
 refine QsI.fn (by simp) ?_;simp only[eE,seval];refine Qb (QRs L hl (fun x=>decide (x.lo≤n)&&decide (n≤x.hi)) 220 [.ptr 0 3 0] _ fun o _=>QRE o n _ _ rfl) (by simp only[QZh,QZG,Qa,seval]<;>rfl) ?_;simp only[kept,Qa,seval]

end Go.Proofs.YtafhmlkilcmniaaGreatDoor.Va

namespace Go.Proofs.YtafhmlkilcmniaaGreatDoor.Va
open Go Am Rc Bt

def bt (s:List UInt8)(i lo hi:Nat):Bool :=
 match s[i]? with
 |some b=>decide (lo≤b.toNat)&&decide (b.toNat≤hi)
 |none=>false
def tl (s:List UInt8):Nat→Nat→Bool
 |_,0=>true
 |i,n+1=>bt s i 128 191&&tl s (i+1) n
def FT (s:List UInt8)(i b:Nat):Nat :=
 if b<128 then 1
 else if 194≤b∧b≤223∧tl s (i+1) 1=true then 2
 else if b=224∧bt s (i+1) 160 191=true∧tl s (i+2) 1=true then 3
 else if b=237∧bt s (i+1) 128 159=true∧tl s (i+2) 1=true then 3
 else if 225≤b∧b≤239∧b≠237∧tl s (i+1) 2=true then 3
 else if b=240∧bt s (i+1) 144 191=true∧tl s (i+2) 2=true then 4
 else if 241≤b∧b≤243∧tl s (i+1) 3=true then 4
 else if b=244∧bt s (i+1) 128 143=true∧tl s (i+2) 2=true then 4
 else 0
def sz (s:List UInt8)(i:Nat):Nat :=
 match s[i]? with
 |none=>0
 |some c=>FT s i c.toNat
def Z8 (s:List UInt8):Nat→Nat→Int
 |0,_=>-1
 |k+1,i=>if i<s.length then(if sz s i=0 then(i:Int)else Z8 s k (i+sz s i))else -1
def Z9 (s:List UInt8):Bool:=decide (Z8 s s.length 0<0)

theorem QRF (c:UInt8)(n:Nat):decide ((c.toNat:Int)≥(n:Int))=decide (n≤c.toNat):=by simp
theorem QRG (c:UInt8)(n:Nat):decide ((c.toNat:Int)≤(n:Int))=decide (c.toNat≤n):=by simp

theorem N5 (s:List UInt8)(i lo hi:Nat):Qi Tryz.prog 240 [.str s,.int .i64 (i:Nat),.int .u8 (lo:Nat),.int .u8 (hi:Nat)] (.bool (bt s i lo hi)):=by
 refine QQU.fn (by simp) ?_;by_cases hlt:i<s.length
 ·obtain⟨c,hc⟩:∃c,s[i]? = some c:=⟨s[i],QYN hlt⟩;have hb:bt s i lo hi=(decide (lo≤c.toNat)&&decide (c.toNat≤hi)):=by simp only[bt,hc]
  simp only[Qw hlt,Qj,QZ8,hc,QRF,Qa,seval];by_cases h1:lo≤c.toNat
  ·have d1:decide (lo≤c.toNat)=true:=by simpa using h1
   simp only[d1,Qj,QZ8,hc,hb,QRG,Q0p,Qa,seval]
  ·have d1:decide (lo≤c.toNat)=false:=by simpa using h1
   simp only[d1,hb,Q0c,Qa,seval]
 ·have hb:bt s i lo hi=false:=by simp only[bt,QZ4 (Nat.le_of_not_lt hlt)]
  simp only[Qy hlt,hb,Qa,seval]

def QL2 (s:List UInt8)(i n:Nat)(k:Nat)(st:St):Prop :=
 ∃f j,st=⟨f,[Qc],[]⟩∧k=n-j∧j≤n∧tl s i n=tl s (i+j) (n-j)∧f 0=.str s∧f 1=.int .i64 (i:Nat)∧f 2=.int .i64 (n:Nat)∧f 7=.int .i64 (j:Nat)

theorem J2 (a b:Nat)(h:a+b≤maxLen):IntKind.i64.wrap ((a:Int)+(b:Int))=((a+b:Nat):Int):=by
 simp only[maxLen]at h;rw[QU];omega

theorem HW (s:List UInt8)(i n:Nat)(hi:i+n≤maxLen):Qi Tryz.prog 239 [.str s,.int .i64 (i:Nat),.int .i64 (n:Nat)] (.bool (tl s i n)):=by
 refine QQR.fn (by simp) ?_;simp only[Qa,seval];refine Qe (QL2 s i n) _ ⟨_,0,rfl,rfl,QYT _,rfl,rfl,rfl,rfl,rfl⟩ ?_;rintro _ st ⟨f,j,rfl,rfl,hj,ht,h0,h1,h2,h7⟩;simp only[h2,h7,Qa,seval];by_cases hlt:j<n
 ·have e0:=J2 i j (by omega);have e1:=Ql j _ hlt (by omega);simp only[Qw hlt,h0,h1,h7,e0,Qa,seval];refine aC (N5 s (i+j) 128 191) ?_;have hs:tl s i n=(bt s (i+j) 128 191&&tl s (i+(j+1)) (n-(j+1))):=by
   rw[ht];obtain⟨m,hm⟩:∃m,n-j=m+1:=⟨n-j-1,by omega⟩;rw[hm,show n-(j+1)=m by omega];rfl
  cases hb:bt s (i+j) 128 191
  ·rw[hb]at hs;simp only[hs,Q0c,Qa,seval]
  ·rw[hb,Q0p]at hs;simp only[h7,e1,Qa,seval];exact⟨n-(j+1),by omega,_,j+1,rfl,rfl,by omega,hs,h0,h1,h2,rfl⟩
 ·have hs:tl s i n=true:=by
   rw[ht,show n-j=0 by omega];rfl
  simp only[Qy hlt,hs,Qa,seval]

def N6 (s:List UInt8)(i:Nat)(c:UInt8)(D:Nat)(cond:Prop)(g:List Am.Item):Prop :=
 ∀Q:St→Prop,(∀f' B,(B=true↔cond)→f' 0=.str s→f' 1=.int .i64 (i:Nat)→f' 5=.int .u8 (c.toNat:Nat)→f' D=.bool B→Q ⟨f',[Qc],[]⟩)→
  ∀f,f 0=.str s→f 1=.int .i64 (i:Nat)→f 5=.int .u8 (c.toNat:Nat)→Qq Tryz.prog g ⟨f,[Qc],[]⟩ Q

section
variable {s:List UInt8}{i:Nat}{c:UInt8}(hi:i<s.length)(hs:s.length+8≤maxLen)
include hi hs

theorem QRH:N6 s i c 12 (194≤c.toNat∧c.toNat≤223∧tl s (i+1) 1=true) NC:=by
 intro Q hQ f h0 h1 h5;have e1:IntKind.i64.wrap ((i:Int)+1)=((i+1:Nat):Int):=J2 i 1 (by omega);have e2:IntKind.i64.wrap ((i:Int)+2)=((i+2:Nat):Int):=J2 i 2 (by omega);simp only[NC,h5,Qa,seval]
 repeat' (first|(refine XZ (fun h=>?_) (fun h=>?_)<;>simp only[h,h0,h1,h5,e1,e2,eE,seval])|(refine Zz (fun h=>?_) (fun h=>?_)<;>simp only[h,Qn,h0,h1,h5,e1,Qa,seval])|(refine ZA (fun h=>?_) (fun h=>?_)<;>simp only[h,Qn,h0,h1,h5,e1,e2,eE,seval])|((with_reducible apply Xu (k:=239));(case hy=>rfl);(case h1=>rfl);(case hk=>exact HW s (i+1) 1 (by omega));(case h2=>rfl);(case h3=>first|exact .inl rfl|exact .inr rfl);simp only[Qa,seval]))
 all_goals(refine hQ _ _ ?_ h0 h1 h5 rfl)
 all_goals simp only[QZ2,Q0E]at *
 all_goals
  constructor
  ·intro hh
   first
    |cases hh
    |(refine⟨by omega,?_⟩;first|exact hh|(refine⟨by omega,?_⟩;first|exact hh|(refine⟨by omega,?_⟩;exact hh))|exact⟨by assumption,hh⟩)
  ·intro hh
   first
    |exact hh.2.2.2
    |exact hh.2.2
    |(exfalso;omega)
    |(exfalso;simp_all;done)

theorem QRI:N6 s i c 25 (c.toNat=224∧bt s (i+1) 160 191=true∧tl s (i+2) 1=true) ND:=by
 intro Q hQ f h0 h1 h5;have e1:IntKind.i64.wrap ((i:Int)+1)=((i+1:Nat):Int):=J2 i 1 (by omega);have e2:IntKind.i64.wrap ((i:Int)+2)=((i+2:Nat):Int):=J2 i 2 (by omega);simp only[ND,h5,Qa,seval]
 repeat' (first|(refine XZ (fun h=>?_) (fun h=>?_)<;>simp only[h,h0,h1,h5,e1,e2,eE,seval])|(refine Zz (fun h=>?_) (fun h=>?_)<;>simp only[h,Qn,h0,h1,e1,e2,Qa,seval])|(refine ZA (fun h=>?_) (fun h=>?_)<;>simp only[h,Qn,h0,h1,h5,e1,e2,eE,seval])|((with_reducible apply Xu (k:=240));(case hy=>rfl);(case h1=>rfl);(case hk=>exact N5 s (i+1) 160 191);(case h2=>rfl);(case h3=>first|exact .inl rfl|exact .inr rfl);simp only[Qa,seval])|((with_reducible apply Xu (k:=239));(case hy=>rfl);(case h1=>rfl);(case hk=>exact HW s (i+2) 1 (by omega));(case h2=>rfl);(case h3=>first|exact .inl rfl|exact .inr rfl);simp only[Qa,seval]))
 all_goals(refine hQ _ _ ?_ h0 h1 h5 rfl)
 all_goals simp only[QY8,Q0F,ne_eq]at *
 all_goals
  constructor
  ·intro hh
   first
    |cases hh
    |(refine⟨by omega,?_⟩;first|exact hh|(refine⟨by omega,?_⟩;first|exact hh|(refine⟨by omega,?_⟩;exact hh))|exact⟨by assumption,hh⟩)
  ·intro hh
   first
    |exact hh.2.2.2
    |exact hh.2.2
    |(exfalso;omega)
    |(exfalso;simp_all;done)

theorem QRJ:N6 s i c 40 (c.toNat=237∧bt s (i+1) 128 159=true∧tl s (i+2) 1=true) NE:=by
 intro Q hQ f h0 h1 h5;have e1:IntKind.i64.wrap ((i:Int)+1)=((i+1:Nat):Int):=J2 i 1 (by omega);have e2:IntKind.i64.wrap ((i:Int)+2)=((i+2:Nat):Int):=J2 i 2 (by omega);simp only[NE,h5,Qa,seval]
 repeat' (first|(refine XZ (fun h=>?_) (fun h=>?_)<;>simp only[h,h0,h1,h5,e1,e2,eE,seval])|(refine Zz (fun h=>?_) (fun h=>?_)<;>simp only[h,Qn,h0,h1,e1,e2,Qa,seval])|(refine ZA (fun h=>?_) (fun h=>?_)<;>simp only[h,Qn,h0,h1,h5,e1,e2,eE,seval])|((with_reducible apply Xu (k:=240));(case hy=>rfl);(case h1=>rfl);(case hk=>exact N5 s (i+1) 128 159);(case h2=>rfl);(case h3=>first|exact .inl rfl|exact .inr rfl);simp only[Qa,seval])|((with_reducible apply Xu (k:=239));(case hy=>rfl);(case h1=>rfl);(case hk=>exact HW s (i+2) 1 (by omega));(case h2=>rfl);(case h3=>first|exact .inl rfl|exact .inr rfl);simp only[Qa,seval]))
 all_goals(refine hQ _ _ ?_ h0 h1 h5 rfl)
 all_goals simp only[QY8,Q0F,ne_eq]at *
 all_goals
  constructor
  ·intro hh
   first
    |cases hh
    |(refine⟨by omega,?_⟩;first|exact hh|(refine⟨by omega,?_⟩;first|exact hh|(refine⟨by omega,?_⟩;exact hh))|exact⟨by assumption,hh⟩)
  ·intro hh
   first
    |exact hh.2.2.2
    |exact hh.2.2
    |(exfalso;omega)
    |(exfalso;simp_all;done)

theorem QL3:N6 s i c 55 (225≤c.toNat∧c.toNat≤239∧c.toNat≠237∧tl s (i+1) 2=true) DZ:=by
 intro Q hQ f h0 h1 h5;have e1:IntKind.i64.wrap ((i:Int)+1)=((i+1:Nat):Int):=J2 i 1 (by omega);have e2:IntKind.i64.wrap ((i:Int)+2)=((i+2:Nat):Int):=J2 i 2 (by omega);simp only[DZ,h5,Qa,seval]
 repeat' (first|(refine XZ (fun h=>?_) (fun h=>?_)<;>simp only[h,h0,h1,h5,e1,e2,eE,seval])|(refine Zz (fun h=>?_) (fun h=>?_)<;>simp only[h,Qn,h0,h1,h5,e1,Qa,seval])|(refine ZA (fun h=>?_) (fun h=>?_)<;>simp only[h,Qn,h0,h1,h5,e1,e2,eE,seval])|((with_reducible apply Xu (k:=239));(case hy=>rfl);(case h1=>rfl);(case hk=>exact HW s (i+1) 2 (by omega));(case h2=>rfl);(case h3=>first|exact .inl rfl|exact .inr rfl);simp only[Qa,seval]))
 all_goals(refine hQ _ _ ?_ h0 h1 h5 rfl)
 all_goals simp only[QZ2,Q0E,QZc,bne_eq_false_iff_eq,ne_eq]at *
 all_goals
  constructor
  ·intro hh
   first
    |cases hh
    |(refine⟨by omega,?_⟩;first|exact hh|(refine⟨by omega,?_⟩;first|exact hh|(refine⟨by omega,?_⟩;exact hh))|exact⟨by assumption,hh⟩)
  ·intro hh
   first
    |exact hh.2.2.2
    |exact hh.2.2
    |(exfalso;omega)
    |(exfalso;simp_all;done)

theorem QL4:N6 s i c 72 (c.toNat=240∧bt s (i+1) 144 191=true∧tl s (i+2) 2=true) D0:=by
 intro Q hQ f h0 h1 h5;have e1:IntKind.i64.wrap ((i:Int)+1)=((i+1:Nat):Int):=J2 i 1 (by omega);have e2:IntKind.i64.wrap ((i:Int)+2)=((i+2:Nat):Int):=J2 i 2 (by omega);simp only[D0,h5,Qa,seval]
 repeat' (first|(refine XZ (fun h=>?_) (fun h=>?_)<;>simp only[h,h0,h1,h5,e1,e2,eE,seval])|(refine Zz (fun h=>?_) (fun h=>?_)<;>simp only[h,Qn,h0,h1,e1,e2,Qa,seval])|(refine ZA (fun h=>?_) (fun h=>?_)<;>simp only[h,Qn,h0,h1,h5,e1,e2,eE,seval])|((with_reducible apply Xu (k:=240));(case hy=>rfl);(case h1=>rfl);(case hk=>exact N5 s (i+1) 144 191);(case h2=>rfl);(case h3=>first|exact .inl rfl|exact .inr rfl);simp only[Qa,seval])|((with_reducible apply Xu (k:=239));(case hy=>rfl);(case h1=>rfl);(case hk=>exact HW s (i+2) 2 (by omega));(case h2=>rfl);(case h3=>first|exact .inl rfl|exact .inr rfl);simp only[Qa,seval]))
 all_goals(refine hQ _ _ ?_ h0 h1 h5 rfl)
 all_goals simp only[QY8,Q0F,ne_eq]at *
 all_goals
  constructor
  ·intro hh
   first
    |cases hh
    |(refine⟨by omega,?_⟩;first|exact hh|(refine⟨by omega,?_⟩;first|exact hh|(refine⟨by omega,?_⟩;exact hh))|exact⟨by assumption,hh⟩)
  ·intro hh
   first
    |exact hh.2.2.2
    |exact hh.2.2
    |(exfalso;omega)
    |(exfalso;simp_all;done)

theorem QL5:N6 s i c 87 (241≤c.toNat∧c.toNat≤243∧tl s (i+1) 3=true) D1:=by
 intro Q hQ f h0 h1 h5;have e1:IntKind.i64.wrap ((i:Int)+1)=((i+1:Nat):Int):=J2 i 1 (by omega);have e2:IntKind.i64.wrap ((i:Int)+2)=((i+2:Nat):Int):=J2 i 2 (by omega);simp only[D1,h5,Qa,seval]
 repeat' (first|(refine XZ (fun h=>?_) (fun h=>?_)<;>simp only[h,h0,h1,h5,e1,e2,eE,seval])|(refine Zz (fun h=>?_) (fun h=>?_)<;>simp only[h,Qn,h0,h1,h5,e1,Qa,seval])|(refine ZA (fun h=>?_) (fun h=>?_)<;>simp only[h,Qn,h0,h1,h5,e1,e2,eE,seval])|((with_reducible apply Xu (k:=239));(case hy=>rfl);(case h1=>rfl);(case hk=>exact HW s (i+1) 3 (by omega));(case h2=>rfl);(case h3=>first|exact .inl rfl|exact .inr rfl);simp only[Qa,seval]))
 all_goals(refine hQ _ _ ?_ h0 h1 h5 rfl)
 all_goals simp only[QZ2,Q0E]at *
 all_goals
  constructor
  ·intro hh
   first
    |cases hh
    |(refine⟨by omega,?_⟩;first|exact hh|(refine⟨by omega,?_⟩;first|exact hh|(refine⟨by omega,?_⟩;exact hh))|exact⟨by assumption,hh⟩)
  ·intro hh
   first
    |exact hh.2.2.2
    |exact hh.2.2
    |(exfalso;omega)
    |(exfalso;simp_all;done)

theorem QL6:N6 s i c 100 (c.toNat=244∧bt s (i+1) 128 143=true∧tl s (i+2) 2=true) D2:=by
 intro Q hQ f h0 h1 h5;have e1:IntKind.i64.wrap ((i:Int)+1)=((i+1:Nat):Int):=J2 i 1 (by omega);have e2:IntKind.i64.wrap ((i:Int)+2)=((i+2:Nat):Int):=J2 i 2 (by omega);simp only[D2,h5,Qa,seval]
 repeat' (first|(refine XZ (fun h=>?_) (fun h=>?_)<;>simp only[h,h0,h1,h5,e1,e2,eE,seval])|(refine Zz (fun h=>?_) (fun h=>?_)<;>simp only[h,Qn,h0,h1,e1,e2,Qa,seval])|(refine ZA (fun h=>?_) (fun h=>?_)<;>simp only[h,Qn,h0,h1,h5,e1,e2,eE,seval])|((with_reducible apply Xu (k:=240));(case hy=>rfl);(case h1=>rfl);(case hk=>exact N5 s (i+1) 128 143);(case h2=>rfl);(case h3=>first|exact .inl rfl|exact .inr rfl);simp only[Qa,seval])|((with_reducible apply Xu (k:=239));(case hy=>rfl);(case h1=>rfl);(case hk=>exact HW s (i+2) 2 (by omega));(case h2=>rfl);(case h3=>first|exact .inl rfl|exact .inr rfl);simp only[Qa,seval]))
 all_goals(refine hQ _ _ ?_ h0 h1 h5 rfl)
 all_goals simp only[QY8,Q0F,ne_eq]at *
 all_goals
  constructor
  ·intro hh
   first
    |cases hh
    |(refine⟨by omega,?_⟩;first|exact hh|(refine⟨by omega,?_⟩;first|exact hh|(refine⟨by omega,?_⟩;exact hh))|exact⟨by assumption,hh⟩)
  ·intro hh
   first
    |exact hh.2.2.2
    |exact hh.2.2
    |(exfalso;omega)
    |(exfalso;simp_all;done)

end

theorem QRK (s:List UInt8)(i:Nat)(hi:i<s.length)(hs:s.length+8≤maxLen):Qi Tryz.prog 202 [.str s,.int .i64 (i:Nat)] (.int .i64 (sz s i:Nat)):=by
 refine QQO.fn (by simp) ?_;obtain⟨c,hc⟩:∃c,s[i]? = some c:=⟨s[i],QYN hi⟩;have hz:sz s i=FT s i c.toNat:=by simp only[sz,hc]
 unfold FT at hz;simp only[Tt,Tu,Tv,Tw,Tx,TA,TB,CM,CN,CO,CP,CQ,QAq,QAr,Qj,QZ8,hc,Qa,seval];refine XZ (fun h=>?_) (fun h=>?_)
 ·have h:c.toNat<128:=by simp at h;omega
  rw[hz,QYS h];simp only[Qa,seval]
  try rfl
 have h:¬c.toNat<128:=by simp at h;omega
 rw[hz,QYR h];simp only[Qa,seval];refine QRH hi hs _ (fun f B hB h0 h1 h5 hd=>?_) _ rfl rfl rfl;by_cases hB1:B=true
 ·rw[QYS (hB.1 hB1)];subst hB1;simp only[hd,Qa,seval]
  try rfl
 rw[QYR (fun hh=>hB1 (hB.2 hh))];have hB2:B=false:=by simpa using hB1
 subst hB2;simp only[hd,Qa,seval];refine QRI hi hs _ (fun f B hB h0 h1 h5 hd=>?_) _ h0 h1 h5;by_cases hB1:B=true
 ·rw[QYS (hB.1 hB1)];subst hB1;simp only[hd,Qa,seval]
  try rfl
 rw[QYR (fun hh=>hB1 (hB.2 hh))];have hB2:B=false:=by simpa using hB1
 subst hB2;simp only[hd,Qa,seval];refine QRJ hi hs _ (fun f B hB h0 h1 h5 hd=>?_) _ h0 h1 h5;by_cases hB1:B=true
 ·rw[QYS (hB.1 hB1)];subst hB1;simp only[hd,Qa,seval]
  try rfl
 rw[QYR (fun hh=>hB1 (hB.2 hh))];have hB2:B=false:=by simpa using hB1
 subst hB2;simp only[hd,Qa,seval];refine QL3 hi hs _ (fun f B hB h0 h1 h5 hd=>?_) _ h0 h1 h5;by_cases hB1:B=true
 ·rw[QYS (hB.1 hB1)];subst hB1;simp only[hd,Qa,seval]
  try rfl
 rw[QYR (fun hh=>hB1 (hB.2 hh))];have hB2:B=false:=by simpa using hB1
 subst hB2;simp only[hd,Qa,seval];refine QL4 hi hs _ (fun f B hB h0 h1 h5 hd=>?_) _ h0 h1 h5;by_cases hB1:B=true
 ·rw[QYS (hB.1 hB1)];subst hB1;simp only[hd,Qa,seval]
  try rfl
 rw[QYR (fun hh=>hB1 (hB.2 hh))];have hB2:B=false:=by simpa using hB1
 subst hB2;simp only[hd,Qa,seval];refine QL5 hi hs _ (fun f B hB h0 h1 h5 hd=>?_) _ h0 h1 h5;by_cases hB1:B=true
 ·rw[QYS (hB.1 hB1)];subst hB1;simp only[hd,Qa,seval]
  try rfl
 rw[QYR (fun hh=>hB1 (hB.2 hh))];have hB2:B=false:=by simpa using hB1
 subst hB2;simp only[hd,Qa,seval];refine QL6 hi hs _ (fun f B hB h0 h1 h5 hd=>?_) _ h0 h1 h5;by_cases hB1:B=true
 ·rw[QYS (hB.1 hB1)];subst hB1;simp only[hd,Qa,seval]
  try rfl
 rw[QYR (fun hh=>hB1 (hB.2 hh))];have hB2:B=false:=by simpa using hB1
 subst hB2;simp only[hd,Qa,seval]
 try rfl

theorem QaF (s:List UInt8)(i:Nat)(hi:i<s.length)(_h:sz s i≠0):i+sz s i≤s.length:=by
 have tl1:∀n j,tl s j n=true→n≠0→j+n≤s.length:=by
  intro n
  induction n with
  |zero=>intro j _ h;exact absurd rfl h
  |succ n ih=>
   intro j hj _;simp only[tl,QY7]at hj;have hb:j<s.length:=by
    have h1:=hj.1;unfold bt at h1;split at h1
    ·rename_i b hb;exact(QYM.1 hb).1
    ·cases h1
   by_cases h0:n=0
   ·subst h0;omega
   ·have:=ih (j+1) hj.2 h0;omega
 obtain⟨c,hc⟩:∃c,s[i]? = some c:=⟨s[i],QYN hi⟩;simp only[sz,hc]at _h ⊢;unfold FT at _h ⊢
 (repeat' split)<;>first
  |omega
  |(rename_i hh;have:=tl1 _ _ hh.2.2 (by decide);omega)
  |(rename_i hh;have:=tl1 _ _ hh.2.2.2 (by decide);omega)
  |simp_all

def QRL (s:List UInt8)(k:Nat)(st:St):Prop :=
 ∃f i,st=⟨f,[Qc],[]⟩∧i≤s.length∧s.length-i≤k∧Z8 s s.length 0=Z8 s k i∧f 0=.str s∧f 3=.int .i64 (i:Nat)

theorem QRM (s:List UInt8)(hs:s.length+8≤maxLen):Qi Tryz.prog 147 [.str s] (.int .i64 (Z8 s s.length 0)):=by
 refine QQN.fn (by simp) ?_;simp only[Qa,seval];refine Qe (QRL s) s.length ⟨_,0,rfl,QYT _,QYK _,rfl,rfl,rfl⟩ ?_;rintro k st ⟨f,i,rfl,hi,hk,hb,h0,h3⟩;simp only[h0,h3,Qa,seval];by_cases hlt:i<s.length
 ·simp only[Qw hlt,h0,h3,Qa,seval];refine aC (QRK s i hlt hs) ?_;obtain⟨k,rfl⟩:∃n,k=n+1:=⟨k-1,by omega⟩;have hbk:Z8 s (k+1) i=if sz s i=0 then(i:Int)else Z8 s k (i+sz s i):=by
   show(if i<s.length then _ else _)=_;rw[QYS hlt]
  by_cases hz:sz s i=0
  ·have b0:((sz s i:Int)==0)=true:=by simp[hz]
   simp only[b0,h3,hb,hbk,QYS hz,Qa,seval]
  ·have b0:((sz s i:Int)==0)=false:=by simp;omega
   have hle:=QaF s i hlt hz;have e0:=J2 i (sz s i) (by omega);simp only[b0,h3,e0,Qa,seval];exact⟨k,by omega,_,i+sz s i,rfl,hle,by omega,by rw[hb,hbk,QYR hz],h0,rfl⟩
 ·have hbk:Z8 s k i = -1:=by
   cases k with
   |zero=>rfl
   |succ k=>
    show(if i<s.length then _ else _)=_;rw[QYR hlt]
  simp only[Qy hlt,hb,hbk,Qa,seval]

theorem c94 (s:List UInt8)(hs:s.length+8≤maxLen):Qi Tryz.prog 94 [.str s] (.bool (Z9 s)):=by
 refine k94.fn (by simp) ?_;simp only[Qa,seval];refine aC (QRM s hs) ?_;simp only[Qa,seval]
 try rfl

def Wh (s:List UInt8)(i:Nat):Bool:=(s.drop i).take 3==[239,191,189]

theorem QRN (s t:List UInt8):Qi Tryz.prog 272 [.str s,.str t] (.bool (s.take t.length==t)):=by
 refine Qjh.fn (by simp) ?_;by_cases h:t.length≤s.length
 ·have d0:decide ((s.length:Int)≥(t.length:Int))=true:=by simp;omega
  have s1:(0≤t.length∧t.length≤s.length)=True:=by simp;omega
  simp only[d0,Qj,s1,QZ8,Qs,QZY,QZs,Qa,seval]
 ·have d0:decide ((s.length:Int)≥(t.length:Int))=false:=by simp;omega
  have e0:(s.take t.length==t)=false:=by
   rw[Q0F];intro hh;have:=congrArg List.length hh;simp at this;omega
  simp only[d0,e0,Qa,seval]

theorem QRO (s t:List UInt8):Qi Tryz.prog 264 [.str s,.str t] (.bool (s.take t.length==t)):=by
 refine Qjc.fn (by simp) ?_;simp only[Qa,seval];refine aC (QRN s t) ?_;simp only[Qa,seval]

theorem QRP (s:List UInt8)(i:Nat)(hi:i≤s.length)(c:Nat):Qi Tryz.prog 250 [.str s,.int .i64 (i:Nat),.int .i32 (c:Nat)] (.bool (decide (c=65533) && !Wh s i)):=by
 refine Qi7.fn (by simp) ?_;by_cases hc:c=65533
 ·have b0:((c:Int)==65533)=true:=by simp[hc]
  have s1:(i≤s.length∧s.length≤s.length)=True:=by simp;omega
  simp only[b0,Qj,s1,QZ8,Qa,seval];refine aC (QRO (List.take (s.length-i) (List.drop i s)) [239,191,189]) ?_;have ht:List.take (s.length-i) (List.drop i s)=List.drop i s:=QZj (by simp);simp only[ht,Wh,hc,Qa,seval]
 ·have b0:((c:Int)==65533)=false:=by simp;omega
  simp only[b0,hc,Qa,seval];simp

open Vp

theorem J9 (s:List UInt8)(j:Nat)(c:UInt8)(h:s[j]? = some c):(⟨⟨s⟩⟩:ByteArray).get! j=c:=by
 show(⟨s⟩:Array UInt8)[j]! = c;simp[h]

theorem D4 (a:UInt8)(n:Nat)(hn:n<256):(a==UInt8.ofNat n)=decide (a.toNat=n):=by
 rw[QZB,QY8,QZ2]
 constructor
 ·rintro rfl;rw[Hz _ hn]
 ·intro h;rw[←UInt8.toNat_inj,Hz _ hn,h]

set_option maxHeartbeats 4000000 in
theorem QRQ (s:List UInt8)(i:Nat)(a b c d:UInt8)(t:List UInt8)(hr:s.drop i=a :: b :: c :: d :: t):(decide ((XA s i).1=65533) && !Wh s i)=decide (sz s i=0)∧(sz s i≠0→(XA s i).2=sz s i):=by
 have hsz:∀j,(s[i+j]? = (a :: b :: c :: d :: t)[j]?):=fun j=>by rw[←hr,QZp]
 have hn:ByteArray.size ⟨⟨s⟩⟩=s.length:=rfl;have hl:s.length=i+(a :: b :: c :: d :: t).length:=by
  have h:=congrArg List.length hr;simp at h ⊢;omega
 have h0:=hsz 0;have h1:=hsz 1;have h2:=hsz 2;have h3:=hsz 3;simp only[QZg]at h0;have g0:=J9 s i a h0;have g1:=J9 s (i+1) b h1;have g2:=J9 s (i+2) c h2;have g3:=J9 s (i+3) d h3;have l1:(i+1<s.length)=True:=by simp at hl ⊢;omega
 have l2:(i+2<s.length)=True:=by simp at hl ⊢;omega
 have l3:(i+3<s.length)=True:=by simp at hl ⊢;omega
 have wa:=a.toNat_lt;have wb:=b.toNat_lt;have wc:=c.toNat_lt;have wd:=d.toNat_lt;have hrep:Wh s i=(decide (a.toNat=239)&&(decide (b.toNat=191)&&decide (c.toNat=189))):=by
  rw[←D4 a 239 (by decide),←D4 b 191 (by decide),←D4 c 189 (by decide)];simp[Wh,hr]
 simp only[QZM,QZH]at h0 h1 h2 h3;generalize hD:XA s i=D;generalize hS:sz s i=S;rw[hrep];simp only[XA,Utf8.decode,Utf8.valid,Utf8.runeError,hn,l1,l2,l3,QZg,g0,g1,g2,g3,sz,h0,FT,tl,bt,QYJ,seval,h1,h2,h3,decide_true,Q0p,QZT,QY7,QZE,QZ2,QY8,ge_iff_le]at hD hS;clear hsz hr hl h0 h1 h2 h3 g0 g1 g2 g3 l1 l2 l3 hrep hn;generalize a.toNat=x at *;generalize b.toNat=y at *;generalize c.toNat=z at *;generalize d.toNat=u at *
 (repeat' split at hD)<;>subst hD<;>(repeat' split at hS)<;>subst hS<;>refine⟨?_,?_⟩<;>(try rw[QZB])<;>(try simp only[QY7,QZ2,QZD,Q0J,Q0E])<;>first|omega|(intro _;rfl)|(simp;done)|(simp;omega)

theorem EU (s:List UInt8)(i:Nat)(hi:i<s.length):(decide ((XA s i).1=65533) && !Wh s i)=decide (sz s i=0)∧(sz s i≠0→(XA s i).2=sz s i):=by
 have hsz:∀j,(s[i+j]? = (s.drop i)[j]?):=fun j=>by rw[QZp]
 have hn:ByteArray.size ⟨⟨s⟩⟩=s.length:=rfl;have hl:s.length=i+(s.drop i).length:=by simp;omega
 generalize hr:s.drop i=r at hsz hl;have h0:=hsz 0;have h1:=hsz 1;have h2:=hsz 2;have h3:=hsz 3;simp only[QZg]at h0
 match r,hl with
 | [],hl=>simp at hl;omega
 | [a],hl=>
  have g0:=J9 s i a h0;have l1:(i+1<s.length)=False:=by simp at hl ⊢;omega
  have l2:(i+2<s.length)=False:=by simp at hl ⊢;omega
  have l3:(i+3<s.length)=False:=by simp at hl ⊢;omega
  have wa:=a.toNat_lt;have hrep:Wh s i=false:=by simp[Wh,hr]
  simp only[QZM,List.getElem?_nil,QZH]at h0 h1 h2 h3;simp only[XA,Utf8.decode,Utf8.runeError,hn,l1,l2,l3,QZg,g0,sz,h0,FT,tl,bt,QYJ,seval,h1,h2,h3,hrep,decide_false,Q0c,Q0G,QZT,QY3,and_false]
  (repeat' split)<;>refine⟨?_,?_⟩<;>(try rw[QZB])<;>(try simp only[QZ2,QZN,QZT])<;>first|omega|(intro _;rfl)|(intro _;omega)|(simp;done)|(simp;omega)
 | [a,b],hl=>
  have g0:=J9 s i a h0;have g1:=J9 s (i+1) b h1;have l1:(i+1<s.length)=True:=by simp at hl ⊢;omega
  have l2:(i+2<s.length)=False:=by simp at hl ⊢;omega
  have l3:(i+3<s.length)=False:=by simp at hl ⊢;omega
  have wa:=a.toNat_lt;have wb:=b.toNat_lt;have hrep:Wh s i=false:=by simp[Wh,hr]
  simp only[QZM,List.getElem?_nil,QZH]at h0 h1 h2 h3;simp only[XA,Utf8.decode,Utf8.runeError,hn,l1,l2,l3,QZg,g0,g1,sz,h0,FT,tl,bt,QYJ,seval,h1,h2,h3,hrep,decide_false,decide_true,Q0c,Q0G,Q0p,QZT,QY3,and_false,QY7,QZ2,QY8,ge_iff_le]
  (repeat' split)<;>refine⟨?_,?_⟩<;>(try rw[QZB])<;>(try simp only[QZ2,QZN,QZT])<;>first|omega|(intro _;rfl)|(intro _;omega)|(simp;done)|(simp;omega)
 | [a,b,c],hl=>
  have g0:=J9 s i a h0;have g1:=J9 s (i+1) b h1;have g2:=J9 s (i+2) c h2;have l1:(i+1<s.length)=True:=by simp at hl ⊢;omega
  have l2:(i+2<s.length)=True:=by simp at hl ⊢;omega
  have l3:(i+3<s.length)=False:=by simp at hl ⊢;omega
  have wa:=a.toNat_lt;have wb:=b.toNat_lt;have wc:=c.toNat_lt;have hrep:Wh s i=(decide (a.toNat=239)&&(decide (b.toNat=191)&&decide (c.toNat=189))):=by
   rw[←D4 a 239 (by decide),←D4 b 191 (by decide),←D4 c 189 (by decide)];simp[Wh,hr]
  simp only[QZM,List.getElem?_nil,QZH]at h0 h1 h2 h3;simp only[XA,Utf8.decode,Utf8.valid,Utf8.runeError,hn,l1,l2,l3,QZg,g0,g1,g2,sz,h0,FT,tl,bt,QYJ,seval,h1,h2,h3,hrep,decide_false,decide_true,Q0c,Q0G,Q0p,QZT,QY3,and_false,QY7,QZE,QZ2,QY8,ge_iff_le]
  (repeat' split)<;>refine⟨?_,?_⟩<;>(try rw[QZB])<;>(try simp only[QY7,QZ2,QZD,Q0E,Q0J])<;>first|omega|(intro _;rfl)|(intro _;omega)|(simp;done)|(simp;omega)
 |a :: b :: c :: d :: t,hl=>exact QRQ s i a b c d t hr

def QRR (s:List UInt8)(k:Nat)(st:St):Prop :=
 ∃f fr i,st=⟨f,[fr],[]⟩∧i≤s.length∧s.length-i≤k∧Z8 s s.length 0=Z8 s k i∧f 0=.str s∧f 6=.ptr 0 6 0∧fr 6=.iter (.str s) i

theorem QRS (s:List UInt8):Qi Tryz.prog 214 [.str s] (.int .i64 (Z8 s s.length 0)):=by
 refine Qi2.fn (by simp) ?_;simp only[Qa,seval];refine FE rfl rfl ?_;simp only[Qa,seval];refine Qe (QRR s) s.length ⟨_,_,0,rfl,QYT _,QYK _,rfl,rfl,rfl,rfl⟩ ?_;rintro k st ⟨f,fr,i,rfl,hi,hk,hb,h0,h6,m6⟩;simp only[Qa,seval];refine FG h6 m6 (fun hlt=>?_) (fun hge=>?_)
 ·obtain⟨hd,hw⟩:=EU s i hlt;obtain⟨k,rfl⟩:∃n,k=n+1:=⟨k-1,by omega⟩;have hbk:Z8 s (k+1) i=if sz s i=0 then(i:Int)else Z8 s k (i+sz s i):=by
   show(if i<s.length then _ else _)=_;rw[QYS hlt]
  have hwr:=QRP s i hi (XA s i).1;rw[hd]at hwr;generalize XA s i=cw at hw hwr;obtain⟨c,w⟩:=cw;simp only[h0,Qa,seval];refine aC hwr ?_;by_cases hz:sz s i=0
  ·simp only[hz,decide_true,hb,hbk,Qa,seval]
  ·have hw:=hw hz;simp only at hw;have hle:=QaF s i hlt hz;simp only[hz,decide_false,Qa,seval];exact⟨k,by omega,_,_,i+sz s i,rfl,hle,by omega,by rw[hb,hbk,QYR hz],h0,h6,by rw[←hw]<;>first|rfl|simp only[eE,seval]⟩
 ·have hbk:Z8 s k i = -1:=by
   cases k with
   |zero=>rfl
   |succ k=>
    show(if i<s.length then _ else _)=_;rw[QYR (by omega)]
  simp only[hb,hbk,Qa,seval]

theorem Pu (s:List UInt8):Qi Tryz.prog 156 [.str s] (.bool (Z9 s)):=by
 refine QiR.fn (by simp) ?_;simp only[Qa,seval];refine aC (QRS s) ?_;simp only[Qa,seval]
 try rfl

end Go.Proofs.YtafhmlkilcmniaaGreatDoor.Va

namespace Go.Proofs.YtafhmlkilcmniaaGreatDoor.Va
open Go Am Rc Bt

def HX (k:Int)(b:Nat):Bool :=
 if k=1 then decide ((b:Int)≤1)else if k=2 then decide (IntKind.i64.wrap (b:Int)≥-2147483648)&&decide (IntKind.i64.wrap (b:Int)≤2147483647)
 else if k=4 then decide ((b:Int)<4294967296)else if k=9 then decide ((b:Int)<2147483648)else true

theorem QRT (k:Int)(b:Nat):Qi Tryz.prog 263 [.int .i64 k,.int .u64 (b:Nat)] (.bool (HX k b)):=by
 have e1:decide ((b:Int)≤4294967295)=decide ((b:Int)<4294967296):=by rw[decide_eq_decide];omega
 have e2:decide ((b:Int)≤2147483647)=decide ((b:Int)<2147483648):=by rw[decide_eq_decide];omega
 refine Qju.fn (by simp) ?_;simp only[Qa,seval];unfold HX;by_cases h1:k=1
 ·subst h1;have b1:((1:Int)==1)=true:=rfl;simp only[b1,Qa,seval]
 ·have b1:(k==1)=false:=by simp[h1]
  by_cases h2:k=2
  ·subst h2;have b2:((2:Int)==2)=true:=rfl;simp only[b1,b2,h1,Qa,seval];cases hd:decide (IntKind.i64.wrap (b:Int)≥-2147483648)<;>simp only[Q0p,Q0c,Qa,seval]
  ·have b2:(k==2)=false:=by simp[h2]
   by_cases h9:k=9
   ·subst h9;have b9:((9:Int)==9)=true:=rfl;simp only[b1,b2,b9,h1,h2,e2,Qa,seval]
   ·have b9:(k==9)=false:=by simp[h9]
    by_cases h4:k=4
    ·subst h4;have b4:((4:Int)==4)=true:=rfl;simp only[b1,b2,b9,b4,h1,h2,e1,Qa,seval]
    ·have b4:(k==4)=false:=by simp[h4]
     simp only[b1,b2,b9,b4,h1,h2,h4,h9,Qa,seval]

end Go.Proofs.YtafhmlkilcmniaaGreatDoor.Va

namespace Go.Proofs.YtafhmlkilcmniaaGreatDoor.Ev
open Go Am Rc

def tab:B0:=fun k=>match k with
 |11=>some (r11,o11,40)
 |26=>some (r26,o26,27)
 |67=>some (r67,o67,21)
 |10=>some (HG,X0,32)
 |24=>some (r24,o24,23)
 |61=>some (r61,o61,40)
 |115=>some (Ep,M6,8)
 |25=>some (r25,o25,77)
 |66=>some (r66,o66,107)
 |119=>some (Qhj,Qhk,34)
 |174=>some (Qho,Qhp,9)
 |230=>some (Qhz,QhA,19)
 |175=>some (QhD,QhE,9)
 |30=>some (r30,K8,12)
 |73=>some (r73,o73,20)
 |127=>some (QhP,QhQ,19)
 |72=>some (r72,o72,8)
 |64=>some (r64,o64,9)
 |118=>some (Qh1,Qh2,19)
 |65=>some (r65,o65,9)
 |63=>some (r63,o63,69)
 |117=>some (Qij,Qik,59)
 |172=>some (Qiq,Qir,31)
 |228=>some (QiD,QiE,49)
 |248=>some (QiK,QiL,39)
 |156=>some (QiP,QiQ,6)
 |214=>some (Qi0,Qi1,16)
 |250=>some (Qi5,Qi6,16)
 |264=>some (Qja,Qjb,8)
 |272=>some (Qjf,Qjg,18)
 |263=>some (Qjs,Qjt,28)
 |135=>some (QjB,QjC,28)
 |193=>some (QjG,QjH,9)
 |134=>some (QjL,QjM,9)
 |62=>some (r62,o62,74)
 |173=>some (QjZ,Qj0,44)
 |223=>some (Qj4,Qj5,9)
 |254=>some (Qkg,Qkh,19)
 |229=>some (Qkl,Qkm,9)
 |132=>some (Qkq,Qkr,9)
 |131=>some (QkD,QkE,62)
 |188=>some (QkQ,QkR,18)
 |192=>some (QkU,QkV,27)
 |235=>some (Qk6,Qk7,20)
 |257=>some (Qlb,Qlc,6)
 |236=>some (Qlo,Qlp,20)
 |258=>some (Qlt,Qlu,6)
 |35=>some (r35,o35,20)
 |79=>some (r79,o79,6)
 |191=>some (QlL,QlM,39)
 |190=>some (QlP,QlQ,17)
 |189=>some (Ql2,Ql3,39)
 |187=>some (Ql6,Ql7,17)
 |186=>some (Qmj,Qmk,39)
 |185=>some (Qmw,Qmx,39)
 |184=>some (QmI,QmJ,62)
 |237=>some (QmR,QmS,15)
 |133=>some (Qm3,Qm4,29)
 |183=>some (Qnf,Qng,33)
 |116=>some (Qnk,Qnl,9)
 |7=>some (r7,o7,45)
 |19=>some (r19,o19,48)
 |53=>some (r53,o53,18)
 |108=>some (QnD,QnE,8)
 |163=>some (QnP,QnQ,19)
 |164=>some (QnU,QnV,8)
 |52=>some (r52,o52,8)
 |18=>some (r18,o18,68)
 |51=>some (r51,o51,19)
 |50=>some (r50,RY,9)
 |49=>some (r49,o49,19)
 |106=>some (Qn8,Qn9,19)
 |107=>some (Qod,Qoe,9)
 |104=>some (Qop,Qoq,19)
 |105=>some (Qou,Qov,9)
 |48=>some (r48,o48,12)
 |17=>some (r17,o17,7)
 |47=>some (r47,o47,99)
 |103=>some (Eu,Ew,106)
 |157=>some (QoC,QoD,15)
 |97=>some (r97,o97,27)
 |215=>some (QoP,QoQ,31)
 |251=>some (Qo2,Qo3,56)
 |266=>some (Qo8,Qo9,15)
 |273=>some (Qpd,Qpe,7)
 |265=>some (Ey,EA,16)
 |150=>some (Qpo,Qpp,19)
 |204=>some (Qpt,Qpu,8)
 |159=>some (Qpy,Qpz,10)
 |207=>some (QpL,QpM,27)
 |217=>some (QpW,QpX,36)
 |252=>some (Qp9,Qqa,27)
 |153=>some (Qqe,Qqf,11)
 |148=>some (Qqj,Qqk,9)
 |203=>some (Qqv,Qqw,19)
 |206=>some (QqA,QqB,8)
 |241=>some (QqO,QqP,66)
 |261=>some (QqT,QqU,8)
 |271=>some (Ph,EC,143)
 |278=>some (Qra,Qrb,81)
 |280=>some (Qro,Qrp,39)
 |277=>some (Qrs,Qrt,6)
 |275=>some (Qrw,Qrx,8)
 |260=>some (QrK,QrL,34)
 |268=>some (QrT,QrU,10)
 |259=>some (Qr6,Qr7,50)
 |269=>some (Qsc,Qsd,19)
 |274=>some (Qsn,Qso,117)
 |205=>some (Qsy,Qsz,19)
 |102=>some (ED,EE,126)
 |155=>some (EG,EH,52)
 |162=>some (QsG,QsH,8)
 |219=>some (QsL,QsM,9)
 |253=>some (QsX,QsY,19)
 |220=>some (Qs2,Qs3,14)
 |161=>some (Qs7,Qs8,5)
 |160=>some (Qtc,Qtd,12)
 |218=>some (Qth,Qti,16)
 |101=>some (EI,EJ,79)
 |158=>some (Qtn,Qto,11)
 |216=>some (Qtt,Qtu,20)
 |151=>some (QtG,QtH,30)
 |154=>some (EK,EL,112)
 |213=>some (QtT,QtU,59)
 |249=>some (QtY,QtZ,11)
 |244=>some (Qt6,Qt7,19)
 |262=>some (Qub,Quc,8)
 |76=>some (r76,o76,14)
 |247=>some (Quh,Qui,34)
 |212=>some (Qus,Qut,50)
 |242=>some (Qux,Quy,9)
 |221=>some (QuJ,QuK,19)
 |246=>some (QuN,QuO,9)
 |245=>some (QuS,QuT,9)
 |211=>some (Qu5,Qu6,57)
 |210=>some (Qvc,Qvd,19)
 |209=>some (Qvh,Qvi,5)
 |208=>some (Qvm,Qvn,12)
 |243=>some (Qvr,Qvs,16)
 |100=>some (QvF,QvG,42)
 |152=>some (QvL,QvM,20)
 |99=>some (r99,o99,19)
 |149=>some (QvS,QvT,10)
 |98=>some (r98,o98,20)
 |96=>some (r96,o96,56)
 |_=>none

theorem QCP:GM Tryz.prog tab:=by
 intro k c rs N h;unfold tab at h;split at h
 ·cases h;exact k11
 ·cases h;exact k26
 ·cases h;exact k67
 ·cases h;exact FR
 ·cases h;exact k24
 ·cases h;exact k61
 ·cases h;exact QgU
 ·cases h;exact k25
 ·cases h;exact k66
 ·cases h;exact Qhl
 ·cases h;exact Er
 ·cases h;exact Es
 ·cases h;exact QhF
 ·cases h;exact k30
 ·cases h;exact k73
 ·cases h;exact QhR
 ·cases h;exact k72
 ·cases h;exact k64
 ·cases h;exact Qh3
 ·cases h;exact k65
 ·cases h;exact k63
 ·cases h;exact Qil
 ·cases h;exact Qis
 ·cases h;exact QiF
 ·cases h;exact QiM
 ·cases h;exact QiR
 ·cases h;exact Qi2
 ·cases h;exact Qi7
 ·cases h;exact Qjc
 ·cases h;exact Qjh
 ·cases h;exact Qju
 ·cases h;exact QjD
 ·cases h;exact QjI
 ·cases h;exact QjN
 ·cases h;exact k62
 ·cases h;exact Qj1
 ·cases h;exact Qj6
 ·cases h;exact Qki
 ·cases h;exact Qkn
 ·cases h;exact Qks
 ·cases h;exact QkF
 ·cases h;exact QOE
 ·cases h;exact QOF
 ·cases h;exact Qk8
 ·cases h;exact Qld
 ·cases h;exact Qlq
 ·cases h;exact Qlv
 ·cases h;exact k35
 ·cases h;exact k79
 ·cases h;exact QOG
 ·cases h;exact QOH
 ·cases h;exact QOI
 ·cases h;exact QOJ
 ·cases h;exact QOK
 ·cases h;exact QOL
 ·cases h;exact QmK
 ·cases h;exact QOM
 ·cases h;exact Et
 ·cases h;exact Qnh
 ·cases h;exact Qnm
 ·cases h;exact k7
 ·cases h;exact k19
 ·cases h;exact k53
 ·cases h;exact QnF
 ·cases h;exact QnR
 ·cases h;exact QnW
 ·cases h;exact k52
 ·cases h;exact k18
 ·cases h;exact k51
 ·cases h;exact k50
 ·cases h;exact k49
 ·cases h;exact Qoa
 ·cases h;exact Qof
 ·cases h;exact Qor
 ·cases h;exact Qow
 ·cases h;exact k48
 ·cases h;exact k17
 ·cases h;exact k47
 ·cases h;exact Qoz
 ·cases h;exact Ex
 ·cases h;exact Ng
 ·cases h;exact QoR
 ·cases h;exact Qo4
 ·cases h;exact Qpa
 ·cases h;exact Qpf
 ·cases h;exact Qpi
 ·cases h;exact Qpq
 ·cases h;exact Qpv
 ·cases h;exact QpA
 ·cases h;exact EB
 ·cases h;exact QpY
 ·cases h;exact Qqb
 ·cases h;exact Qqg
 ·cases h;exact Qql
 ·cases h;exact Qqx
 ·cases h;exact QqC
 ·cases h;exact QqQ
 ·cases h;exact QqV
 ·cases h;exact QqX
 ·cases h;exact QON
 ·cases h;exact QOO
 ·cases h;exact QOP
 ·cases h;exact Qry
 ·cases h;exact QrM
 ·cases h;exact QOQ
 ·cases h;exact QOR
 ·cases h;exact QOS
 ·cases h;exact QOT
 ·cases h;exact QsA
 ·cases h;exact QsB
 ·cases h;exact QsD
 ·cases h;exact QsI
 ·cases h;exact QsN
 ·cases h;exact QsZ
 ·cases h;exact Qs4
 ·cases h;exact Qs9
 ·cases h;exact Qte
 ·cases h;exact Qtj
 ·cases h;exact Qtk
 ·cases h;exact Qtp
 ·cases h;exact Qtv
 ·cases h;exact QtI
 ·cases h;exact QtJ
 ·cases h;exact QtV
 ·cases h;exact Qt0
 ·cases h;exact Qt8
 ·cases h;exact Qud
 ·cases h;exact k76
 ·cases h;exact Quj
 ·cases h;exact Quu
 ·cases h;exact Quz
 ·cases h;exact EM
 ·cases h;exact QuP
 ·cases h;exact QuU
 ·cases h;exact Qu7
 ·cases h;exact Qve
 ·cases h;exact Qvj
 ·cases h;exact Qvo
 ·cases h;exact Qvt
 ·cases h;exact QvH
 ·cases h;exact QvN
 ·cases h;exact k99
 ·cases h;exact QvU
 ·cases h;exact k98
 ·cases h;exact k96
 ·cases h

def X3:WK:=fun _ _ _=>none

theorem WO:W7 Tryz.prog X3:=by
 intro k args m v m' h;cases h

theorem TS:evT X3 tab 3000 11 []=true:=by decide +kernel

theorem HY:Qi Tryz.prog 11 [] (.bool true):=M5 WO QCP TS

end Go.Proofs.YtafhmlkilcmniaaGreatDoor.Ev

namespace Go.Proofs.YtafhmlkilcmniaaGreatDoor.Va
open Go Am Rc Bt

def vo (k:Int)(b:Nat)(t:List UInt8)(l p s r:List AV):AV:=.agg [.int .i64 k,.int .u64 (b:Nat),.str t,.list l,.list p,.list s,.list r]

section
variable (k:Int)(b:Nat)(t:List UInt8)(l p s r:List AV)

def Wb:Bool:=(l.length:Int)==0&&(p.length:Int)==0&&(s.length:Int)==0&&(r.length:Int)==0
def Db:Bool:=isk k&&Wb l p s r&&(b:Int)==0&&t==[]
def emp:Bool:=(k==11&&(l.length:Int)==0)||(k==12&&(p.length:Int)==0)||Db k b t l p s r

theorem QRU:Qi Tryz.prog 197 [vo k b t l p s r] (.bool (Wb l p s r)):=by
 refine QQX.fn (by simp) ?_;simp only[vo,Wb,eE,seval];cases h0:((l.length:Int)==0)<;>cases h1:((p.length:Int)==0)<;>cases h2:((s.length:Int)==0)<;>simp only[h1,h2,Q0p,Q0c,eE,seval]

theorem QCQ (hl:l.length≤140737488351232)(hp:p.length≤140737488351232)(hs:s.length≤140737488351232)(hr:r.length≤140737488351232) :
  Qi Tryz.prog 135 [vo k b t l p s r] (.bool (Wb l p s r&&(if JA k=true then(b:Int)==0 else t==[]))):=by
 refine QjD.fn (by simp) ?_;have w:IntKind.i64.wrap (IntKind.i64.wrap (IntKind.i64.wrap ((l.length:Int)+(p.length:Int))+(s.length:Int))+(r.length:Int))=(l.length+p.length+s.length+r.length:Nat):=by
  simp only[QU];omega
 simp only[vo,w,eE,seval];by_cases h:l.length+p.length+s.length+r.length=0
 ·have d:decide (((l.length+p.length+s.length+r.length:Nat):Int) > 0)=false:=Q0u (by omega);have e:Wb l p s r=true:=by
   unfold Wb;simp only[QY7,QY8];omega
  simp only[d,e,Q0p,eE,seval];refine aC (QCr k) ?_;cases JA k
  ·simp only[QY3,Qs,eE,seval]
  ·simp only[eE,seval]
 ·have d:decide (((l.length+p.length+s.length+r.length:Nat):Int) > 0)=true:=Q0D (by omega);have e:Wb l p s r=false:=by
   unfold Wb;rw[Q0x];simp only[ne_eq,QY7,QY8];omega
  simp only[d,e,Q0c,Qa,seval]

end

open Br

def key (o:PO):Bool:=if o.card=5 then decide (o.key≥1)&&decide (o.key≤7)&&o.key != 6 else o.key==0
def aim (P:PL)(o:PO):Bool :=
 if o.kind=10 then decide (o.target≥0)&&decide (o.target<(P.progs.length:Int))&&o.card != 3
 else if o.kind=9 then decide (o.target≥0)&&decide (o.target<(P.enums.length:Int))else isk o.kind&&o.target == -1
def Pv (P:PL)(o:PO):Bool:=Z9 o.alias&&decide ((o.alias.length:Int)≤4096)&&decide (o.card≥1)&&decide (o.card≤5)&&key o&&aim P o
def uok (o:PO):Bool:=o.union == -1||o.card==2
def KC:List PO→Int→Int→Option Int
 | [],n,_=>some n
 |o :: l,n,b=>if o.union=n then KC l (n+1) n else if o.union = -1∨o.union=b then KC l n o.union else none
def QCR (g:PG):Bool:=match KC g.ops 0 (-1)with
 |some n=>g.unions==n
 |none=>false
def X8 (k kd:Int)(b:Nat)(t:List UInt8)(l p s r:List AV):Bool :=
 isk k&&kd==k&&Wb l p s r&&(if JA kd=true then(b:Int)==0 else t==[])&&HX k b&&decide ((t.length:Int)≤4096)&&(k != 7||Z9 t)
def alias:List UInt8:=[97,108,105,97,115]
def nok:List AV→Bool
 | [.int _ kd,.int _ b,.str t,.list l,.list p,.list s,.list r]=>X8 7 kd b.toNat t l p s r
 |_=>false
def nte (i:PI):Bool:=match i.notes with
 | []=>true
 | [n]=>n.name==alias&&nok n.val
 |_=>false
def Pw (P:PL)(g:PG):Bool:=QCR g&&g.ops.all fun o=>Pv P o&&uok o
def QCS (x:PE):Bool:=x.notes.isEmpty&&x.items.all nte
def args (P:PL):Bool:=P.progs.all (Pw P)&&P.enums.all QCS

theorem Px (k kd:Int)(b:Nat)(t:List UInt8)(l p s r:List AV)(hl:l.length≤140737488351232)(hp:p.length≤140737488351232)(hs:s.length≤140737488351232)(hr:r.length≤140737488351232) :
  Qi Tryz.prog 248 [.int .i64 k,vo kd b t l p s r] (.bool (X8 k kd b t l p s r)):=by
 have hle:=QCQ kd b t l p s r hl hp hs hr;have hw:=QRT k b;simp only[vo]at hle;have n1:(kd != k)=!(kd==k):=rfl;have n2:(k != 7)=!(k==7):=rfl;have n3:decide ((t.length:Int) > 4096)=!decide ((t.length:Int)≤4096):=(by rw[QZB];simp only[QZ2,QZD,Q0E];omega);refine QiM.fn (by simp) ?_;simp only[vo,X8,n2,eE,seval];refine aC (Pp k) ?_;cases isk k
 ·simp only[Q0c,QZN,Qa,seval]
 simp only[Q0p,Q0q,n1,eE,seval];cases a1:(kd==k)
 ·simp only[Q0c,QZN,Qa,seval]
 simp only[Q0p,Q0q,eE,seval];refine aC hle ?_;cases(Wb l p s r&&(if JA kd=true then(b:Int)==0 else t==[]))
 ·simp only[Q0c,QZN,Qa,seval]
 simp only[Q0p,Q0q,eE,seval];refine aC hw ?_;cases HX k b
 ·simp only[Q0c,QZN,Qa,seval]
 simp only[Q0p,Q0q,n3,eE,seval];cases a2:decide ((t.length:Int)≤4096)
 ·simp only[Q0c,QZN,Qa,seval]
 simp only[Q0p,Q0q,n2,Qa,seval];cases a3:(k==7)
 ·simp only[QZN,Q0r,Qa,seval]
 ·simp only[Q0q,Q0s,eE,seval];refine aC (Pu t) ?_;simp only[Qa,seval]

section
variable (P:PL)

end

section
variable (kd:Int)(b:Nat)(t:List UInt8)(l p s r:List AV)(hl:l.length≤140737488351232)(hp:p.length≤140737488351232)(hs:s.length≤140737488351232)(hr:r.length≤140737488351232)

def nv:AV:=.agg [.str alias,.int .i64 kd,.int .u64 (b:Nat),.str t,.list l,.list p,.list s,.list r]

end

end Go.Proofs.YtafhmlkilcmniaaGreatDoor.Va

namespace Go.Proofs.YtafhmlkilcmniaaGreatDoor.Va
open Go Am Rc Bt

def KL (b:Nat):Nat :=
 let z:=b % 9223372036854775808
 if z > 9218868437227405312 then 0 else if z=9218868437227405312 then 1 else if z=0 then 2 else if z<4503599627370496 then 3 else 4

theorem QRV (b:Nat):Qi Tryz.prog 198 [.int .u64 (b:Nat)] (.int .i64 (KL b:Nat)):=by
 refine QwB.fn (by simp) ?_;have hm:(b:Int).tmod 9223372036854775808=((b % 9223372036854775808:Nat):Int):=by
  rw[Int.tmod_eq_emod_of_nonneg (by omega)];omega
 simp only[hm,Qa,seval];unfold KL;generalize b % 9223372036854775808=z
 repeat' (first|(refine XZ (fun h=>?_) (fun h=>?_)<;>simp only[h,Qa,seval])|(refine Zz (fun h=>?_) (fun h=>?_)<;>simp only[h,Qn,eE,seval])|(refine ZA (fun h=>?_) (fun h=>?_)<;>simp only[h,Qn,eE,seval]))
 all_goals(simp only[QZ2,Q0E,QY8,Q0F,ne_eq]at *)
 all_goals((repeat' split)<;>first|rfl|(exfalso;omega))

theorem TT (b:Nat):b &&& 4503599627370495=b % 4503599627370496:=Nat.and_two_pow_sub_one_eq_mod b 52
theorem TU (b:Nat):b &&& 9218868437227405312=(b / 4503599627370496 % 2048)*4503599627370496:=by
 have h1:(9218868437227405312:Nat)=2047 <<< 52:=by decide
 have h2:(b / 4503599627370496 % 2048)*4503599627370496=(b >>> 52 % 2 ^ 11) <<< 52:=by
  rw[Nat.shiftLeft_eq,Nat.shiftRight_eq_div_pow]
 rw[h1,h2]
 apply Nat.eq_of_testBit_eq
 intro i;rw[Nat.testBit_and,Nat.testBit_shiftLeft,Nat.testBit_shiftLeft,Nat.testBit_mod_two_pow,Nat.testBit_shiftRight,show(2047:Nat)=2 ^ 11-1 by decide,Nat.testBit_two_pow_sub_one];by_cases h:i≥52
 ·rw[show 52+(i-52)=i by omega];simp[h,Bool.and_comm]
 ·simp[h]

theorem QRW (b:Nat)(hb:b<18446744073709551616):Qi Tryz.prog 133 [.int .u64 (b:Nat)] (.int .i64 (KL b:Nat)):=by
 refine Et.fn (by simp) ?_;have a1:bits .and .u64 (b:Int) 9218868437227405312=(((b / 4503599627370496 % 2048)*4503599627370496:Nat):Int):=by
  have:=U2 b 9218868437227405312 hb (by decide);rw[TU]at this;exact this
 have a2:bits .and .u64 (b:Int) 4503599627370495=((b % 4503599627370496:Nat):Int):=by
  have:=U2 b 4503599627370495 hb (by decide);rw[TT]at this;exact this
 simp only[a1,a2,Qa,seval];unfold KL
 repeat' (first|(refine XZ (fun h=>?_) (fun h=>?_)<;>simp only[h,Qa,seval])|(refine Zz (fun h=>?_) (fun h=>?_)<;>simp only[h,Qn,Qa,seval])|(refine ZA (fun h=>?_) (fun h=>?_)<;>simp only[h,Qn,eE,seval]))
 all_goals(simp only[QY8,QZc,bne_eq_false_iff_eq,Q0F,ne_eq]at *)
 all_goals((repeat' split)<;>first|rfl|(exfalso;omega))

def XG (k:Int)(b:Nat):Nat:=if k=6∧KL b=0 then 9221120237041090560 else b

theorem N7 (b:Nat):((KL b:Int)==0)=decide (KL b=0):=by
 rw[QZB,QY8,QZ2];omega

end Go.Proofs.YtafhmlkilcmniaaGreatDoor.Va

namespace Go.Proofs.YtafhmlkilcmniaaGreatDoor.So

section
variable {α:Type}

def ZU (lt:α→α→Bool)(a:α):List α→List α
 | []=>[a]
 |x :: l=>bif lt x a then x :: ZU lt a l else a :: x :: l

def QD (lt:α→α→Bool):List α→List α
 | []=>[]
 |a :: l=>ZU lt a (QD lt l)

def mg (lt:α→α→Bool):List α→List α→List α
 | [],Y=>Y
 |x :: X,[]=>x :: X
 |x :: X,y :: Y=>bif lt y x then y :: mg lt (x :: X) Y else x :: mg lt X (y :: Y)
termination_by X Y=>X.length+Y.length

structure SW (lt:α→α→Bool):Prop where
 irr:∀x,lt x x=false
 tr:∀x y z,lt x y=true→lt y z=true→lt x z=true
 nt:∀x y z,lt x y=false→lt y z=false→lt x z=false

variable {lt:α→α→Bool}

theorem SW.as (h:SW lt){x y:α}(hx:lt x y=true):lt y x=false:=by
 cases hy:lt y x with
 |false=>rfl
 |true=>
  have:=h.tr x y x hx hy;rw[h.irr]at this;cases this

theorem JI (X:List α):mg lt X []=X:=by cases X<;>simp[mg]
theorem Jl (Y:List α):mg lt [] Y=Y:=by simp[mg]
theorem WP {x y:α}{X Y:List α}(h:lt y x=true):mg lt (x :: X) (y :: Y)=y :: mg lt (x :: X) Y:=by rw[mg,h];rfl
theorem Yn {x y:α}{X Y:List α}(h:lt y x=false):mg lt (x :: X) (y :: Y)=x :: mg lt X (y :: Y):=by rw[mg,h];rfl
theorem Ya {a x:α}{l:List α}(h:lt x a=true):ZU lt a (x :: l)=x :: ZU lt a l:=by rw[ZU,h];rfl
theorem Y0 {a x:α}{l:List α}(h:lt x a=false):ZU lt a (x :: l)=a :: x :: l:=by rw[ZU,h];rfl

theorem TV (a:α):∀Y:List α,mg lt [a] Y=ZU lt a Y
 | []=>by rw[JI];rfl
 |y :: Y=>by
  cases h:lt y a with
  |true=>rw[WP h,Ya h,TV a Y]
  |false=>rw[Yn h,Y0 h,Jl]

theorem QCT (h:SW lt)(a:α):∀(n:Nat) (X Y:List α),X.length+Y.length=n→mg lt (ZU lt a X) Y=ZU lt a (mg lt X Y):=by
 intro n
 induction n using Nat.strongRecOn with
 |_ n ih=>
 intro X Y hn;cases X with
 |nil=>
  show mg lt [a] Y=ZU lt a (mg lt [] Y);rw[Jl,TV]
 |cons x X=>
  cases Y with
  |nil=>rw[JI,JI]
  |cons y Y=>
   simp only[QYZ]at hn;cases hxa:lt x a with
   |false=>
    have hi:ZU lt a (x :: X)=a :: x :: X:=Y0 hxa;cases hya:lt y a with
    |true=>
     cases hyx:lt y x with
     |true=>
      have i:=ih (n-1) (by omega) (x :: X) Y (by simp only[QYZ];omega);rw[hi]at i ⊢;rw[WP hya,WP hyx,Ya hya,i]
     |false=>
      have:=h.nt y x a hyx hxa;rw[hya]at this;cases this
    |false=>
     rw[hi,Yn hya];cases hyx:lt y x with
     |true=>rw[WP hyx,Y0 hya]
     |false=>rw[Yn hyx,Y0 hxa]
   |true=>
    have hi:ZU lt a (x :: X)=x :: ZU lt a X:=Ya hxa;cases hyx:lt y x with
    |true=>
     have i:=ih (n-1) (by omega) (x :: X) Y (by simp only[QYZ];omega);rw[hi]at i ⊢;rw[WP hyx,WP hyx,Ya (h.tr y x a hyx hxa),i]
    |false=>
     have i:=ih (n-1) (by omega) X (y :: Y) (by simp only[QYZ];omega);rw[hi,Yn hyx,Yn hyx,Ya hxa,i]

theorem HZ (h:SW lt):∀A B:List α,mg lt (QD lt A) (QD lt B)=QD lt (A++B)
 | [],B=>Jl _
 |a :: A,B=>by
  show mg lt (ZU lt a (QD lt A)) (QD lt B)=ZU lt a (QD lt (A++B));rw[QCT h a _ _ _ rfl,HZ h A B]

theorem WQ:∀(n:Nat) (X1 Y1 X2 Y2:List α),X1.length+Y1.length=n→(∀y∈Y1,∀x∈X2,lt y x=true)→(∀x∈X1,∀y∈Y2,lt y x=false)→
  mg lt (X1++X2) (Y1++Y2)=mg lt X1 Y1++mg lt X2 Y2:=by
 intro n
 induction n using Nat.strongRecOn with
 |_ n ih=>
 intro X1 Y1 X2 Y2 hn h1 h2;cases X1 with
 |nil=>
  cases Y1 with
  |nil=>rw[Jl];rfl
  |cons y Y1=>
   cases X2 with
   |nil=>simp[Jl]
   |cons x X2=>
    simp only[QYZ,QZR]at hn;have i:=ih (n-1) (by omega) [] Y1 (x :: X2) Y2 (by simp only[QZR];omega) (fun z hz=>h1 z (QY0 _ hz)) h2;simp only[QY6,QY5,Jl]at i ⊢;rw[WP (h1 y (by simp) x (by simp)),i]
 |cons x X1=>
  simp only[QYZ]at hn;cases Y1 with
  |nil=>
   cases Y2 with
   |nil=>simp[JI]
   |cons y Y2=>
    have i:=ih (n-1) (by omega) X1 [] X2 (y :: Y2) (by simp only[QZR]at hn ⊢;omega) h1 (fun z hz=>h2 z (QY0 _ hz));simp only[QY6,QY5,JI]at i ⊢;rw[Yn (h2 x (by simp) y (by simp)),i]
  |cons y Y1=>
   simp only[QYZ]at hn;simp only[QY5];cases hyx:lt y x with
   |true=>
    have i:=ih (n-1) (by omega) (x :: X1) Y1 X2 Y2 (by simp only[QYZ];omega) (fun z hz=>h1 z (QY0 _ hz)) h2;simp only[QY5]at i;rw[WP hyx,WP hyx,i];rfl
   |false=>
    have i:=ih (n-1) (by omega) X1 (y :: Y1) X2 Y2 (by simp only[QYZ];omega) h1 (fun z hz=>h2 z (QY0 _ hz));simp only[QY5]at i;rw[Yn hyx,Yn hyx,i];rfl

theorem QfD {x:α}{Y1 Y2:List α}(h1:∀y∈Y1,lt y x=true)(h2:∀y∈Y2,lt y x=false):mg lt [x] (Y1++Y2)=Y1++x :: Y2:=by
 have a:=WQ (lt:=lt) _ [] Y1 [x] Y2 rfl (fun y hy z hz=>by rw[Q0K.1 hz];exact h1 y hy) (by simp);have b:=WQ (lt:=lt) _ [x] [] [] Y2 rfl (by simp) (fun z hz y hy=>by rw[Q0K.1 hz];exact h2 y hy);simp only[QY6,QZI,Jl,JI]at a b;rw[a,b];rfl

theorem N8 {y:α}{X1 X2:List α}(h1:∀x∈X1,lt y x=false)(h2:∀x∈X2,lt y x=true):mg lt (X1++X2) [y]=X1++y :: X2:=by
 have a:=WQ (lt:=lt) _ X1 [y] X2 [] rfl (fun z hz x hx=>by rw[Q0K.1 hz];exact h2 x hx) (by simp);have b:=WQ (lt:=lt) _ X1 [] [] [y] rfl (by simp) (fun x hx z hz=>by rw[Q0K.1 hz];exact h1 x hx);simp only[QY6,QZI,Jl,JI]at a b;rw[a,b];simp

def ZV (lt:α→α→Bool)(l:List α):Prop:=l.Pairwise fun x y=>lt y x=false

theorem D5 {a z:α}:∀ {l:List α},z∈ZU lt a l→z=a∨z∈l
 | [],h=>.inl (Q0K.1 h)
 |x :: l,h=>by
  cases hx:lt x a with
  |true=>
   rw[Ya hx]at h;rcases QZ0.1 h with rfl|h
   ·exact .inr QY2
   ·rcases D5 h with h|h
    ·exact .inl h
    ·exact .inr (QY0 _ h)
  |false=>
   rw[Y0 hx]at h;rcases QZ0.1 h with rfl|h
   ·exact .inl rfl
   ·exact .inr h

theorem UG {z:α}:∀ {l:List α},z∈QD lt l→z∈l
 | [],h=>h
 |a :: l,h=>by
  rcases D5 (l:=QD lt l) h with rfl|h
  ·exact QY2
  ·exact QY0 _ (UG h)

theorem CU (h:SW lt)(a:α):∀ {l:List α},ZV lt l→ZV lt (ZU lt a l)
 | [],_=>List.pairwise_singleton _ _
 |x :: l,hs=>by
  obtain⟨h1,h2⟩:=Q0f.1 hs;cases hx:lt x a with
  |true=>
   rw[Ya hx];refine Q0f.2 ⟨fun z hz=>?_,CU h a h2⟩;rcases D5 hz with rfl|hz
   ·exact h.as hx
   ·exact h1 z hz
  |false=>
   rw[Y0 hx];refine Q0f.2 ⟨fun z hz=>?_,hs⟩;rcases QZ0.1 hz with rfl|hz
   ·exact hx
   ·exact h.nt z x a (h1 z hz) hx

theorem JJ (h:SW lt):∀l:List α,ZV lt (QD lt l)
 | []=>List.Pairwise.nil
 |a :: l=>CU h a (JJ h l)

theorem CV (a:α):∀l:List α,(ZU lt a l).length=l.length+1
 | []=>rfl
 |x :: l=>by
  cases hx:lt x a with
  |true=>rw[Ya hx,QYZ,CV a l,QYZ]
  |false=>rw[Y0 hx];rfl

theorem JK:∀l:List α,(QD lt l).length=l.length
 | []=>rfl
 |a :: l=>by show(ZU lt a (QD lt l)).length=_;rw[CV,JK l];rfl

theorem QCU:∀(n:Nat) (X Y:List α),X.length+Y.length=n→(mg lt X Y).length=n:=by
 intro n
 induction n using Nat.strongRecOn with
 |_ n ih=>
 intro X Y hn;cases X with
 |nil=>rw[Jl];simpa using hn
 |cons x X=>
  cases Y with
  |nil=>rw[JI];simpa using hn
  |cons y Y=>
   simp only[QYZ]at hn;cases hyx:lt y x with
   |true=>
    rw[WP hyx,QYZ,ih (n-1) (by omega) (x :: X) Y (by simp only[QYZ];omega)];omega
   |false=>
    rw[Yn hyx,QYZ,ih (n-1) (by omega) X (y :: Y) (by simp only[QYZ];omega)];omega

theorem QCV {z:α}:∀(n:Nat) (X Y:List α),X.length+Y.length=n→z∈mg lt X Y→z∈X∨z∈Y:=by
 intro n
 induction n using Nat.strongRecOn with
 |_ n ih=>
 intro X Y hn hz;cases X with
 |nil=>rw[Jl]at hz;exact .inr hz
 |cons x X=>
  cases Y with
  |nil=>rw[JI]at hz;exact .inl hz
  |cons y Y=>
   simp only[QYZ]at hn;cases hyx:lt y x with
   |true=>
    rw[WP hyx]at hz;rcases QZ0.1 hz with rfl|hz
    ·exact .inr QY2
    ·exact(ih (n-1) (by omega) (x :: X) Y (by simp only[QYZ];omega) hz).imp id (QY0 _)
   |false=>
    rw[Yn hyx]at hz;rcases QZ0.1 hz with rfl|hz
    ·exact .inl QY2
    ·exact(ih (n-1) (by omega) X (y :: Y) (by simp only[QYZ];omega) hz).imp (QY0 _) id

theorem KT (h:SW lt){l:List α}(hs:ZV lt l){i j:Nat}{u v x:α}(hij:i≤j)(hi:l[i]? = some u)(hj:l[j]? = some v)(hv:lt v x=true):lt u x=true:=by
 rcases Nat.lt_or_eq_of_le hij with hlt|rfl
 ·obtain⟨h1,rfl⟩:=QYM.1 hi;obtain⟨h2,rfl⟩:=QYM.1 hj;have:=Q0L.1 hs i j h1 h2 hlt;cases hu:lt l[i] x with
  |true=>rfl
  |false=>
   have:=h.nt _ _ _ this hu;rw[hv]at this;cases this
 ·rw[hi]at hj;cases hj;exact hv

theorem Yt {l:List α}(hs:ZV lt l)(h:SW lt){i j:Nat}{u v:α}(hij:i≤j)(hi:l[i]? = some u)(hj:l[j]? = some v):lt v u=false:=by
 rcases Nat.lt_or_eq_of_le hij with hlt|rfl
 ·obtain⟨h1,rfl⟩:=QYM.1 hi;obtain⟨h2,rfl⟩:=QYM.1 hj;exact Q0L.1 hs i j h1 h2 hlt
 ·rw[hi]at hj;cases hj;exact h.irr _

def Xh (lt:α→α→Bool)(s:Nat):Nat→List α→List α
 |0,_=>[]
 |n+1,l=>QD lt (l.take s)++Xh lt s n (l.drop s)

theorem D6 (s:Nat):∀k,Xh lt s k []=[]
 |0=>rfl
 |k+1=>by rw[Xh,List.take_nil,QZU,D6 s k];rfl

theorem U5 (s:Nat):∀(k:Nat) (l:List α),(Xh lt s k l).length=min (s*k) l.length
 |0,l=>by simp[Xh]
 |k+1,l=>by
  rw[Xh,QZn,JK,U5 s k,QZC,QZr,Nat.mul_succ];omega

theorem Wx {s:Nat}{z:α}:∀ {k:Nat} {l:List α},z∈Xh lt s k l→z∈l
 |0,l,h=>by cases h
 |k+1,l,h=>by
  rw[Xh]at h;rcases QZX.1 h with h|h
  ·exact QZw (UG h)
  ·exact QZv (Wx h)

theorem Y3 (s:Nat):∀(k:Nat) (l:List α),Xh lt s (k+1) l=Xh lt s k l++QD lt ((l.drop (s*k)).take s)
 |0,l=>by simp[Xh]
 |k+1,l=>by
  rw[Xh,Y3 s k (l.drop s),Xh,QY4,QZe,Nat.mul_succ,Nat.add_comm s (s*k)]

theorem CW {s k:Nat}{l:List α}(h:l.length≤s)(hk:l.length≤s*k):Xh lt s k l=QD lt l:=by
 cases k with
 |zero=>
  have:l=[]:=QZK (by omega);subst this;rfl
 |succ k=>rw[Xh,QZj h,QZm h,D6,QZI]

theorem EV (s:Nat)(l:List α):l.take s++(l.drop s).take s=l.take (2*s):=by
 rw[show 2*s=s+s by omega,List.take_add]

end

end Go.Proofs.YtafhmlkilcmniaaGreatDoor.So

namespace Go.Proofs.YtafhmlkilcmniaaGreatDoor.Va
open Go Am Rc Bt Br Up So

def nK:List (List UInt8×Int×List Int):=[
 ([100,101,112,114,101,99,97,116,101,100],1,[1,2,3,4,5,6]),
 ([100,111,99],7,[1,2,3,4,5,6]),
 ([97,108,105,97,115],7,[2,4,6]),
 ([115,105,110,99,101],4,[2,4,6]),
 ([117,110,116,105,108],4,[2,4,6]),
 ([109,105,110],3,[2]),
 ([109,97,120],3,[2]),
 ([108,101,110,103,116,104],4,[2]),
 ([115,101,99,114,101,116],1,[2]),
 ([105,100,101,109,112,111,116,101,110,116],1,[6]),
 ([116,105,109,101,111,117,116],4,[6]),
 ([114,111,117,116,101],7,[6]),
 ([111,119,110,101,114],7,[1,5])]
def CX (s:List UInt8):Option (Int×List Int):=(nK.find? fun x=>x.1==s).map Prod.snd
def XW (s:List UInt8):Int:=((CX s).getD (0,[])).1
def TW (s:List UInt8)(t:Int):Bool:=((CX s).getD (0,[])).2.contains t
def _root_.Go.Proofs.YtafhmlkilcmniaaGreatDoor.Br.V.fitk (k:Int)(v:V):Bool:=X8 k v.kd v.bits v.text (v.list.map V.av) (v.pairs.map V.pav) (v.slots.map V.sav) (v.raws.map R.av)
def FU (n:SN):Bool:=XW n.name != 0&&n.val.fitk (XW n.name)
def KD (t:Int)(last:Option (List UInt8))(n:SN):Int :=
 if XW n.name=0 then 8 else if TW n.name t=false then 1 else if n.val.fitk (XW n.name)=false then 12 else
 match last with
 |none=>0
 |some s=>if Op.bytesLess n.name s=true then 11 else if n.name=s then 9 else 0
def Uo (t:Int):Option (List UInt8)→List SN→Int
 |_,[]=>0
 |last,n :: l=>if KD t last n=0 then Uo t (some n.name) l else KD t last n
def Zo (l:List SN)(t:Int):Int:=if l.length > 8 then 3 else Uo t none l

def Q6 (S:SC)(n:List UInt8):Bool:=S.msgs.any fun m=>m.name==n
def D7 (S:SC)(n:List UInt8):Bool:=S.enums.any fun m=>m.name==n
def D8 (c k:Int):Bool:=if c=5 then decide (k≥1)&&decide (k≤7)&&k != 6 else k==0
def Yu (f:SF):Bool:=decide (f.card≥1)&&decide (f.card≤5)&&D8 f.card f.key
def JL (S:SC)(f:SF):Bool :=
 if 1≤f.kind∧f.kind≤8 then f.tname==[]else if f.kind=9 then D7 S f.tname else if f.kind=10 then Q6 S f.tname&&f.card != 3 else false
def JM (m:SM)(i:Nat):Bool:=match m.fields[i]? with
 |none=>true
 |some f=>f.union==[]||(f.card==2&&Xo f.union && !(m.fields.any fun x=>x.name==f.union) &&
   (!((m.fields.take i).any fun x=>x.union==f.union)||(match i with
    |0=>true
    |j+1=>match m.fields[j]? with
     |none=>true
     |some y=>y.union==f.union)))
def _root_.Go.Proofs.YtafhmlkilcmniaaGreatDoor.Br.V.zro (v:V):Bool:=v.kd==0&&v.bits==0&&v.text==[]&&v.list.length+v.pairs.length+v.slots.length+v.raws.length==0
def Yb (S:SC)(f:SF):Bool :=
 if f.hasd=false then f.dflt.zro
 else if f.card=2∧f.union=[]∧f.dflt.fitk f.kind=true∧XG f.dflt.kd f.dflt.bits=f.dflt.bits then
  (if f.kind=9 then(match S.enums.find? fun e=>e.name==f.tname with
   |none=>false
   |some e=>e.items.any fun it=>(IntKind.u64.wrap it.num)==(f.dflt.bits:Int))else true)
 else false
def UH (S:SC)(m:SM)(i:Nat):Bool:=match m.fields[i]? with
 |none=>true
 |some f=>decide (f.num≥1)&&decide (f.num≤65535)&&(match i with
   |0=>true
   |j+1=>match m.fields[j]? with
    |none=>true
    |some y=>decide (f.num > y.num))&&Xo f.name && !((m.fields.take i).any fun x=>x.name==f.name) && !(kept m.free f.num) && !(m.gone.contains f.name) &&
   Yu f&&JL S f&&JM m i&&Yb S f&&Zo f.notes 2==0
def D9 (lo hi:Int)(l:List PS):Bool:=(l.all fun x=>decide (x.lo≥lo)&&decide (x.hi≤hi)&&decide (x.lo≤x.hi))&&XN l spt

def Zj (m:SM):List (List UInt8):=(m.fields.filter fun f=>f.card==1&&f.kind==10).map SF.tname
def ZM (S:SC)(X:List (List UInt8))(m:SM):List (List UInt8):=match S.msgs.find? fun x=>x.name==m.name with
 |none=>X
 |some f=>if (Zj f).any (fun n=>Q6 S n && !X.contains n)=true then X else if X.contains m.name=true then X else X++[m.name]
def H0 (S:SC)(X:List (List UInt8)):List (List UInt8):=S.msgs.foldl (ZM S) X
def Y4 (S:SC):Nat→List (List UInt8)
 |0=>[]
 |k+1=>H0 S (Y4 S k)
def Y5 (S:SC):List (List UInt8):=Y4 S (S.msgs.length+1)
def Dc (S:SC)(m:SM):Bool:=(Zj m).any fun n=>Q6 S n && !(Y5 S).contains n

def H1 (S:SC)(m:SM):Bool:=XE m.name&&decide (m.fields.length≤64)&&decide (m.free.length≤16)&&decide (m.gone.length≤16)&&Xq (UH S m) m.fields.length&&D9 1 65535 m.free &&
 (m.gone.all Z9)&&Zo m.notes 1==0 && !Dc S m
def UI (e:SE)(i:Nat):Bool:=match e.items[i]? with
 |none=>true
 |some x=>decide (x.num≥0)&&decide (x.num≤2147483647)&&(match i with
   |0=>x.num==0
   |j+1=>match e.items[j]? with
    |none=>true
    |some y=>decide (x.num > y.num))&&Xo x.name && !((e.items.take i).any fun y=>y.name==x.name) && !(kept e.free x.num)&&Zo x.notes 4==0
def H2 (e:SE):Bool:=XE e.name&&decide (e.items.length≥1)&&decide (e.items.length≤64)&&decide (e.free.length≤16)&&Xq (UI e) e.items.length&&D9 0 2147483647 e.free&&Zo e.notes 3==0
def Py (S:SC)(v:SQ)(i:Nat):Bool:=match v.meths[i]? with
 |none=>true
 |some x=>Xo x.name&&(match i with
   |0=>true
   |j+1=>match v.meths[j]? with
    |none=>true
    |some y=>Op.bytesLess y.name x.name)&&Q6 S x.inn&&Q6 S x.out&&decide (x.shape≥1)&&decide (x.shape≤4)&&Zo x.notes 6==0
def EX (S:SC)(v:SQ):Bool:=XE v.name&&decide (v.meths.length≤64)&&Xq (Py S v) v.meths.length&&Zo v.notes 5==0
def Kh (S:SC):Bool:=!(S.enums.any fun e=>S.msgs.any fun m=>m.name==e.name) && !(S.servs.any fun v=>S.msgs.any fun m=>m.name==v.name) && !(S.servs.any fun v=>S.enums.any fun e=>e.name==v.name)
def EY (S:SC):Bool:=XN S.msgs (WM SM.name)&&XN S.enums (WM SE.name)&&XN S.servs (WM SQ.name)
def EZ (S:SC):Bool:=decide (S.msgs.length≤64)&&decide (S.enums.length≤64)&&decide (S.servs.length≤64)
def JN (S:SC):Bool:=EZ S&&EY S&&Kh S&&S.msgs.all (H1 S)&&S.enums.all H2&&S.servs.all (EX S)

def unl:List (List UInt8)→List SF→List (List UInt8)
 |us,[]=>us
 |us,f :: l=>unl (if f.union=[]∨us.contains f.union=true then us else us++[f.union]) l
def Zk (us:List (List UInt8))(s:List UInt8):Int:=QS (fun u=>u==s) us 0
def Xx (l:List SN):Option V:=(l.find? fun n=>n.name==alias).map SN.val
def Zp (S:SC)(f:SF):Int:=if f.kind=10 then QS (fun m:SM=>m.name==f.tname) S.msgs 0 else if f.kind=9 then QS (fun m:SE=>m.name==f.tname) S.enums 0 else -1
def QX (S:SC)(us:List (List UInt8))(f:SF):PO :=
 ⟨f.num,f.name,((Xx f.notes).map V.text).getD [],f.card,f.key,f.kind,Zp S f,if f.union=[]then -1 else Zk us f.union⟩
def QO (S:SC)(m:SM):PG:=⟨m.name,m.fields.map (QX S (unl [] m.fields)),((unl [] m.fields).length:Int)⟩
def JO (x:SI):PI:=⟨x.name,x.num,match Xx x.notes with
 |none=>[]
 |some v=>[⟨alias,v.cells⟩]⟩
def Jm (e:SE):PE:=⟨e.name,e.opn,e.items.map JO,e.free,[]⟩
def Qp (S:SC):PL:=⟨S.msgs.map (QO S),S.enums.map Jm⟩

def Wm (S:SC)(n:List UInt8):Int:=QS (fun m:SM=>m.name==n) S.msgs 0
def Xm (S:SC)(F:List Bool)(m:SM):Bool:=(Zj m).any fun n=>decide (Wm S n≥0) && !(F[(Wm S n).toNat]?.getD false)
def KM (S:SC)(F:List Bool)(i:Nat):List Bool:=match S.msgs[i]? with
 |none=>F
 |some m=>if F[i]? = some false∧Xm S F m=false then F.set i true else F
def Xc (S:SC)(F:List Bool):Nat→List Bool
 |0=>F
 |i+1=>KM S (Xc S F i) i
def Z1 (S:SC):Nat→List Bool→List Bool
 |0,F=>F
 |k+1,F=>if Xc S F S.msgs.length=F then F else Z1 S k (Xc S F S.msgs.length)
def QV (S:SC):List Bool:=Z1 S S.msgs.length (List.replicate S.msgs.length false)

theorem QfE (S:SC)(F:List Bool)(i:Nat):(KM S F i).length=F.length:=by
 unfold KM;split
 ·rfl
 ·split
  ·exact List.length_set ..
  ·rfl
theorem KU (S:SC)(F:List Bool):∀i,(Xc S F i).length=F.length
 |0=>rfl
 |i+1=>by rw[Xc,QfE,KU S F i]
theorem H3 (S:SC):∀(k:Nat) (F:List Bool),(Z1 S k F).length=F.length
 |0,_=>rfl
 |k+1,F=>by
  rw[Z1];split
  ·rfl
  ·rw[H3 S k,KU]

def Uq (F:List Bool):Nat:=F.countP id
theorem CY {F:List Bool}{i:Nat}(h:F[i]? = some false):Uq (F.set i true)=Uq F+1:=by
 induction F generalizing i with
 |nil=>cases h
 |cons b F ih=>
  cases i with
  |zero=>
   simp only[QZH,QZb]at h;subst h;simp[Uq]
  |succ i=>
   simp only[QZM]at h;have:=ih h;unfold Uq at this ⊢;rw[List.set_cons_succ,List.countP_cons,List.countP_cons,this];omega
theorem QCW (F:List Bool):Uq F≤F.length:=List.countP_le_length
theorem Fa (S:SC)(F:List Bool)(i:Nat):KM S F i=F∨Uq (KM S F i)=Uq F+1:=by
 unfold KM;split
 ·exact .inl rfl
 ·split
  ·rename_i h;exact .inr (CY h.1)
  ·exact .inl rfl
theorem Wy (S:SC)(F:List Bool):∀i,Xc S F i=F∨Uq F<Uq (Xc S F i)
 |0=>.inl rfl
 |i+1=>by
  rw[Xc];rcases Wy S F i with h|h
  ·rw[h];rcases Fa S F i with g|g
   ·exact .inl g
   ·exact .inr (by omega)
  ·rcases Fa S (Xc S F i) i with g|g
   ·exact .inr (by rw[g];exact h)
   ·exact .inr (by omega)
theorem Y6 (S:SC):∀(k:Nat) (F:List Bool),F.length-Uq F≤k→Xc S (Z1 S k F) S.msgs.length=Z1 S k F
 |0,F,h=>by
  rw[Z1];rcases Wy S F S.msgs.length with g|g
  ·exact g
  ·have h1:=QCW (Xc S F S.msgs.length);rw[KU]at h1;omega
 |k+1,F,h=>by
  rw[Z1];split
  ·rename_i e;exact e
  ·rename_i e;refine Y6 S k _ ?_;rcases Wy S F S.msgs.length with g|g
   ·exact absurd g e
   ·rw[KU];omega

theorem UJ (S:SC):∀(k:Nat) (F:List Bool),∃j,j≤k∧Z1 S k F=Nat.repeat (fun F=>Xc S F S.msgs.length) j F∧(j<k→Xc S (Z1 S k F) S.msgs.length=Z1 S k F)
 |0,F=>⟨0,QYK _,rfl,fun h=>by omega⟩
 |k+1,F=>by
  by_cases e:Xc S F S.msgs.length=F
  ·exact⟨0,QYT _,by rw[Z1,QYS e];rfl,fun _=>by rw[Z1,QYS e];exact e⟩
  ·obtain⟨j,h1,h2,h3⟩:=UJ S k (Xc S F S.msgs.length);have hrep:∀(j:Nat) (F:List Bool),Nat.repeat (fun F=>Xc S F S.msgs.length) (j+1) F=Nat.repeat (fun F=>Xc S F S.msgs.length) j (Xc S F S.msgs.length):=by
    intro j
    induction j with
    |zero=>intro F;rfl
    |succ j ih=>intro F;show Xc S (Nat.repeat _ (j+1) F) _=_;rw[ih F];rfl
   refine⟨j+1,by omega,by rw[Z1,QYR e,h2,hrep],fun hj=>?_⟩;rw[Z1,QYR e];exact h3 (by omega)

def UK (S:SC)(F:List Bool)(X:List (List UInt8)):Prop:=F.length=S.msgs.length∧∀(i:Nat) (m:SM),S.msgs[i]? = some m→(X.contains m.name=true↔F[i]? = some true)
def TX (S:SC):Prop:=∀(i j:Nat) (m n:SM),S.msgs[i]? = some m→S.msgs[j]? = some n→m.name=n.name→i=j

section
variable {S:SC}(hD:TX S)
include hD
theorem TY {i:Nat}{m:SM}(h:S.msgs[i]? = some m):Wm S m.name=(i:Int):=by
 unfold Wm;rcases Xi (fun x:SM=>x.name==m.name) S.msgs 0 with⟨_,hn⟩|⟨k,o,h1,h2,h3⟩
 ·have:=Q0z.1 hn m (QYY h);simp at this
 ·have hn:o.name=m.name:=by simpa using Q0C h3
  have:=hD k i o m h2 h hn;rw[h1];omega
theorem Fc {i:Nat}{m:SM}(h:S.msgs[i]? = some m):S.msgs.find? (fun x=>x.name==m.name)=some m:=by
 rcases Xi (fun x:SM=>x.name==m.name) S.msgs 0 with⟨_,hn⟩|⟨k,o,h1,h2,h3⟩
 ·have:=Q0z.1 hn m (QYY h);simp at this
 ·have hn:o.name=m.name:=by simpa using Q0C h3
  have:=hD k i o m h2 h hn;subst this;rw[h2]at h;cases h;exact h3
theorem CZ {F:List Bool}{X:List (List UInt8)}(h:UK S F X)(m:SM):(Zj m).any (fun n=>Q6 S n && !X.contains n)=Xm S F m:=by
 unfold Xm;congr 1
 funext n;cases hm:Q6 S n with
 |false=>
  have:¬Wm S n≥0:=by
   unfold Wm;rcases Xi (fun x:SM=>x.name==n) S.msgs 0 with⟨h1,_⟩|⟨k,o,_,h2,h3⟩
   ·rw[h1];decide
   ·unfold Q6 at hm;have:=Q0y.1 hm o (QYY h2);exact absurd (Q0C h3) this
  rw[Q0u this];rfl
 |true=>
  unfold Q6 at hm;obtain⟨x,hx,hxn⟩:=Q0A.1 hm;obtain⟨i,hi,rfl⟩:=Q0M hx;have hxi:S.msgs[i]? = some S.msgs[i]:=QYN hi;have hxn:S.msgs[i].name=n:=by simpa using hxn
  subst hxn;rw[TY hD hxi,Q0D (by omega),QZ8];obtain⟨hl,h2⟩:=h;have h3:=h2 i _ hxi;have hF:F[i]? = some (F[i]'(by omega)):=QYN (by omega);rw[hF]at h3 ⊢;simp only[QZb,QZQ]at h3 ⊢;cases hb:F[i]'(by omega)<;>cases hc:X.contains S.msgs[i].name<;>simp_all
theorem QfF {F:List Bool}{X:List (List UInt8)}(h:UK S F X){i:Nat}{m:SM}(hm:S.msgs[i]? = some m):UK S (KM S F i) (ZM S X m):=by
 have hne:=CZ hD h m;unfold ZM KM;rw[hm,Fc hD hm];dsimp only;rw[hne];obtain⟨hl,h2⟩:=h;have h3:=h2 i m hm;have hi:i<S.msgs.length:=(QYM.1 hm).1;have hF:F[i]? = some (F[i]'(by omega)):=QYN (by omega);cases hs:Xm S F m with
 |true=>
  rw[QYS (show true=true from rfl),QYR (fun h:F[i]? = some false∧true=false=>by cases h.2)];exact⟨hl,h2⟩
 |false=>
  rw[QYR (show ¬(false=true)by decide)];by_cases hc:X.contains m.name=true
  ·have:=h3.1 hc;rw[QYS hc,QYR (fun h:F[i]? = some false∧false=false=>by rw[this]at h;cases h.1)];exact⟨hl,h2⟩
  ·have hf:F[i]? = some false:=by
    cases hb:F[i]'(by omega)with
    |false=>rw[hF,hb]
    |true=>exact absurd (h3.2 (by rw[hF,hb])) hc
   rw[QYR hc,QYS (show F[i]? = some false∧false=false from⟨hf,rfl⟩)];refine⟨by rw[List.length_set];exact hl,fun j n hn=>?_⟩;have h4:=h2 j n hn;rw[List.getElem?_set];by_cases hij:i=j
   ·subst hij;rw[hm]at hn;cases hn;rw[QYS rfl,QYS (by omega)];simp
   ·rw[QYR hij,←h4];have hnn:n.name≠m.name:=fun e=>hij (hD i j m n hm hn e.symm)
    simp only[Q0N,QZX,Q0K];exact⟨fun h=>h.resolve_right hnn,.inl⟩
theorem N9 {F:List Bool}{X:List (List UInt8)}(h:UK S F X):∀i,i≤S.msgs.length→UK S (Xc S F i) ((S.msgs.take i).foldl (ZM S) X)
 |0,_=>by simpa [Xc]using h
 |i+1,hi=>by
  have ih:=N9 h i (by omega);have hm:S.msgs[i]? = some (S.msgs[i]'(by omega)):=QYN (by omega);rw[Xc,Q0j,hm,List.foldl_append];exact QfF hD ih hm
theorem TZ {F:List Bool}{X:List (List UInt8)}(h:UK S F X):UK S (Xc S F S.msgs.length) (H0 S X):=by
 have:=N9 hD h S.msgs.length (QYK _)
 rwa [Q0h]at this
theorem Vb {F:List Bool}{X:List (List UInt8)}(h:UK S F X):∀(k:Nat),UK S (Nat.repeat (fun F=>Xc S F S.msgs.length) k F) (Nat.repeat (H0 S) k X)
 |0=>h
 |k+1=>TZ hD (Vb h k)
theorem QCX:UK S (QV S) (Y5 S):=by
 have h0:UK S (List.replicate S.msgs.length false) []:=by
  refine⟨QZ9,fun i m hm=>?_⟩;have hi:=(QYM.1 hm).1;rw[List.getElem?_replicate,QYS hi];simp
 obtain⟨j,h1,h2,h3⟩:=UJ S S.msgs.length (List.replicate S.msgs.length false);have hfix:Xc S (QV S) S.msgs.length=QV S:=Y6 S _ _ (by rw[QZ9];omega);have hX:∀k,Y4 S k=Nat.repeat (H0 S) k []:=by
  intro k
  induction k with
  |zero=>rfl
  |succ k ih=>rw[Y4,ih];rfl
 have hstay:∀d,Nat.repeat (fun F=>Xc S F S.msgs.length) d (QV S)=QV S:=by
  intro d
  induction d with
  |zero=>rfl
  |succ d ih=>show Xc S (Nat.repeat _ d (QV S)) _=_;rw[ih,hfix]
 have hadd:∀d (F:List Bool),Nat.repeat (fun F=>Xc S F S.msgs.length) (d+j) F=Nat.repeat (fun F=>Xc S F S.msgs.length) d (Nat.repeat (fun F=>Xc S F S.msgs.length) j F):=by
  intro d
  induction d with
  |zero=>intro F;rw[QY9];rfl
  |succ d ih=>intro F;rw[show d+1+j=(d+j)+1 by omega];show Xc S (Nat.repeat _ (d+j) F) _=_;rw[ih F];rfl
 have:=Vb hD h0 (S.msgs.length+1);rw[←hX,show S.msgs.length+1=(S.msgs.length+1-j)+j by omega,hadd,←h2,show Z1 S S.msgs.length (List.replicate S.msgs.length false)=QV S from rfl,hstay]at this;rw[show(S.msgs.length+1-j)+j=S.msgs.length+1 by omega]at this;exact this
theorem T0 (m:SM):Dc S m=Xm S (QV S) m:=CZ hD (QCX hD) m
end

end Go.Proofs.YtafhmlkilcmniaaGreatDoor.Va

namespace Go.Proofs.YtafhmlkilcmniaaGreatDoor.Va
open Go Am Rc Bt Br

def Wi (B:List Bool)(o:PO):Bool:=o.card==1&&o.kind==10 && !(B[o.target.toNat]?.getD false)
def Ur (G:List PG)(B:List Bool)(i:Nat):List Bool:=match G[i]? with
 |some g=>B.set i (!g.ops.any (Wi B))
 |none=>B
def Vc (G:List PG)(B:List Bool):Nat→List Bool
 |0=>B
 |i+1=>Ur G (Vc G B i) i
def Qg (G:List PG):Nat→List Bool
 |0=>List.replicate G.length false
 |c+1=>Vc G (Qg G c) G.length
def fin (P:PL):Bool:=(Qg P.progs P.progs.length).all id

theorem QfG (G:List PG)(B:List Bool)(i:Nat):(Ur G B i).length=B.length:=by
 unfold Ur;split<;>simp
theorem C0 (G:List PG)(B:List Bool):∀i,(Vc G B i).length=B.length
 |0=>rfl
 |i+1=>by rw[Vc,QfG,C0 G B i]
theorem C1 (G:List PG):∀c,(Qg G c).length=G.length
 |0=>by simp[Qg]
 |c+1=>by rw[Qg,C0,C1 G c]

def FX (G:List PG)(B:List Bool):Prop:=∀(i:Nat) (g:PG),G[i]? = some g→B[i]? = some true→g.ops.any (Wi B)=false

theorem T1 {B B':List Bool}(h:∀k:Nat,B[k]?.getD false=true→B'[k]?.getD false=true){o:PO}(hn:Wi B o=false):Wi B' o=false:=by
 unfold Wi at *;cases hc:(o.card==1&&o.kind==10)
 ·rfl
 ·rw[hc]at hn;simp only[Q0p,Bool.not_eq_false']at hn ⊢;rw[h _ hn]

theorem QfH {G:List PG}{B:List Bool}(h:FX G B)(i:Nat):FX G (Ur G B i)∧∀k:Nat,B[k]?.getD false=true→(Ur G B i)[k]?.getD false=true:=by
 have mono:∀k:Nat,B[k]?.getD false=true→(Ur G B i)[k]?.getD false=true:=by
  intro k hk;unfold Ur;split
  ·rename_i g hg;by_cases hki:i=k
   ·subst hki;have hb:B[i]? = some true:=by
     cases hB:B[i]? with
     |none=>rw[hB]at hk;cases hk
     |some b=>rw[hB]at hk;simp at hk;rw[hk]
    have hlt:=(QYM.1 hb).1;rw[List.getElem?_set_self hlt,h i g hg hb];rfl
   ·rw[Q0O hki];exact hk
  ·exact hk
 refine⟨fun j g hg hb=>?_,mono⟩;rw[Q0y];intro o ho;rw[Bool.not_eq_true];have hB:B[j]? = some true∨g.ops.any (Wi B)=false:=by
  unfold Ur at hb;split at hb
  ·rename_i g' hg';by_cases hij:i=j
   ·subst hij;rw[hg]at hg';cases hg'
    right
    by_cases hlt:i<B.length
    ·rw[List.getElem?_set_self hlt]at hb
     simpa using hb
    ·rw[QZ4 (by simp;omega)]at hb;cases hb
   ·rw[Q0O hij]at hb;exact .inl hb
  ·exact .inl hb
 have ha:g.ops.any (Wi B)=false:=hB.elim (h j g hg) id;rw[Q0y]at ha;exact T1 mono (by simpa using ha o ho)

theorem Fe {G:List PG}{B:List Bool}(h:FX G B):∀i,FX G (Vc G B i)
 |0=>h
 |i+1=>(QfH (Fe h i) i).1
theorem C2 (G:List PG):∀c,FX G (Qg G c)
 |0=>by
  intro i g _ hb;rw[Qg,List.getElem?_replicate]at hb;split at hb<;>cases hb
 |c+1=>Fe (C2 G c) _

theorem QCY {G:List PG}{B:List Bool}(h:FX G B){i:Nat}{g:PG}{b:Bool}(hg:G[i]? = some g)(hb:B[i]? = some b):Ur G B i=B.set i (b || !g.ops.any (Wi B)):=by
 unfold Ur;rw[hg];cases b with
 |false=>rfl
 |true=>
  show B.set i _=B.set i (true||_);rw[h i g hg hb];rfl

structure En (P:PL)(c:Nat)(B:List Bool)(f:Fr)(fr:Nat→Ob):Prop where
 h1:f 1=.ptr 0 1 0
 m1:fr 1=.cells [.list (P.progs.map QW),.list (P.enums.map Xw)]
 h3:f 3=.ptr 0 3 0
 m3:fr 3=.cells [.vec 0 9 1 0 P.progs.length false]
 m9:fr 9=.vec 1 1 (B.map AV.bool)
 h12:f 12=.int .i64 (P.progs.length:Nat)
 h13:f 13=.int .i64 (c:Nat)
 r5:∀s∈[5],(fr s).isRow=false

theorem En.drop {P:PL}{c:Nat}{B:List Bool}{f f':Fr}{fr fr':Nat→Ob}(h:En P c B f fr)(hf:∀i,f' i=M3 [5] (f i))(hm:∀i,i∉[5]→fr' i=GL [5] (fr i))(hn:∀i∈[5],fr' i=.none):En P c B f' fr' where
 h1:=by rw[hf,h.h1]<;>rfl
 m1:=by rw[hm 1 (by decide),h.m1]<;>rfl
 h3:=by rw[hf,h.h3]<;>rfl
 m3:=by rw[hm 3 (by decide),h.m3]<;>rfl
 m9:=by rw[hm 9 (by decide),h.m9]<;>rfl
 h12:=by rw[hf,h.h12]<;>rfl
 h13:=by rw[hf,h.h13]<;>rfl
 r5:=fun s hs=>by rw[hn s hs]<;>rfl

def ck (P:PL):Int :=
 if lim P=false then 3 else if nam P=false then 8 else if TO P=false then 11 else if sin P=false then 9 else if rng P=false then 6 else if args P=false then 1 else if fin P=false then 19 else 0

def Pc (P:PL):List AV:=[.list (P.progs.map QW),.list (P.enums.map Xw)]

section
variable {M:Nat}(P:PL)(hP:P.ok M)(fr:Nat→Ob)(m1:fr 1=.cells (Pc P))(f:Fr)(b:Bool)(h1:f 1=.ptr 0 1 0)(h3:f 3=.bool b)(Q:Exit→St→Prop)
include hP m1 h1 h3

end

section
variable {M:Nat}(P:PL)(hP:P.ok M)
include hP

end

theorem z87 (L:List PS)(hl:L.length≤maxLen)(n:Int):Qi Tryz.prog 87 [.list (L.map Xd),.int .i64 n] (.bool (kept L n)):=by
 let I:Nat→St→Prop:=fun k st=>∃f i,st=⟨f,[Qc],[]⟩∧k=L.length-i∧kept L n=kept (L.drop i) n∧f 0=.list (L.map Xd)∧f 1=.int .i64 n∧f 5=.int .i64 (i:Nat)
 refine k87.fn (by simp) ?_;simp only[Qa,seval];refine Qe I _ ⟨_,0,rfl,rfl,rfl,rfl,rfl,rfl⟩ ?_;rintro _ st ⟨f,i,rfl,rfl,hx,h0,h1,h5⟩;simp only[QZ5,h0,h5,Qa,seval];by_cases hlt:i<L.length
 ·obtain⟨x,hi⟩:∃x,L[i]? = some x:=⟨L[i],QYN hlt⟩;have hg:(L.map Xd)[i]? = some (Xd x):=by simp[hi]
  have e1:=Ql i _ hlt hl;have hd:kept (L.drop i) n=((decide (x.lo≤n)&&decide (n≤x.hi))||kept (L.drop (i+1)) n):=by
   unfold kept;rw[QZt hlt,show L[i]=x from(QYM.1 hi).2];rfl
  rw[hd]at hx;simp only[Qw hlt,Qj,QZ8,Qd,hg,Xd,PS.cells,h0,h1,h5,eE,seval];cases a1:decide (x.lo≤n)
  ·rw[a1,Q0c,Q0s]at hx;simp only[h5,e1,Qa,seval];exact⟨L.length-(i+1),by omega,_,i+1,rfl,rfl,hx,h0,h1,rfl⟩
  ·cases a2:decide (n≤x.hi)
   ·rw[a1,a2,Q0G,Q0s]at hx;simp only[a2,Qj,QZ8,Qd,hg,Xd,PS.cells,h0,h1,h5,e1,eE,seval];exact⟨L.length-(i+1),by omega,_,i+1,rfl,rfl,hx,h0,h1,rfl⟩
   ·rw[a1,a2,QZT,Q0r]at hx;simp only[a2,Qj,QZ8,Qd,hg,Xd,PS.cells,h0,h1,h5,hx,eE,seval]
 ·have hx':kept L n=false:=by rw[hx,QZm (by omega)];rfl
  simp only[Qy hlt,hx',Qa,seval]

section
variable {M:Nat}(P:PL)(hP:P.ok M)(fr:Nat→Ob)(m1:fr 1=.cells (Pc P))(f:Fr)(b:Bool)(h1:f 1=.ptr 0 1 0)(h3:f 3=.bool b)(Q:Exit→St→Prop)

include hP m1 h1 h3

end

section
variable (kd:Int)(b:Nat)(t:List UInt8)(l p s r:List AV)(ht:t.length+8≤maxLen)
include ht

end

section
variable (P:PL)

end

def oth (k:Int)(b:Nat)(t:List UInt8)(l p s r:List AV):Bool :=
 (k != 11&&decide ((l.length:Int) > 0))||(k != 12&&decide ((p.length:Int) > 0))||(k != 10&&decide (((s.length+r.length:Nat):Int) > 0))||((b:Int) != 0&&(JA k||k==10||k==11||k==12))||(!(t==[]) && !JA k)

section
variable (k:Int)(b:Nat)(t:List UInt8)(l p s r:List AV)(hs:s.length≤140737488351232)(hr:r.length≤140737488351232)

set_option maxHeartbeats 2000000 in
include hs hr in
theorem z62:Qi Tryz.prog 62 [vo k b t l p s r] (.bool (oth k b t l p s r)):=by
 have w:IntKind.i64.wrap ((s.length:Int)+(r.length:Int))=((s.length+r.length:Nat):Int):=by simp only[QU];omega
 have n4:((b:Int) != 0)=!((b:Int)==0):=rfl;have n5:(t != [])=!(t==[]):=rfl;refine k62.fn (by simp) ?_;simp only[vo,oth,JA,n4,eE,seval];rcases(by omega:k=7∨k=8∨k=10∨k=11∨k=12∨(k≠7∧k≠8∧k≠10∧k≠11∧k≠12))with rfl|rfl|rfl|rfl|rfl|⟨h7,h8,h10,h11,h12⟩
 ·have b7:((7:Int)==7)=true:=by decide
  have b8:((7:Int)==8)=false:=by decide
  have b10:((7:Int)==10)=false:=by decide
  have b11:((7:Int)==11)=false:=by decide
  have b12:((7:Int)==12)=false:=by decide
  have c10:((7:Int) != 10)=true:=by decide
  have c11:((7:Int) != 11)=true:=by decide
  have c12:((7:Int) != 12)=true:=by decide
  have g1:decide ((7:Int)≥10)=false:=by decide
  have g2:decide ((7:Int)≤12)=true:=by decide
  simp only[b7,b8,b10,b11,b12,c10,c11,c12,Q0p,Q0H,Q0G,QZT,Q0q,eE,seval];cases a1:decide ((l.length:Int) > 0)<;>try simp only[c12,Q0s,Q0r,eE,seval]
  all_goals(cases a2:decide ((p.length:Int) > 0)<;>try simp only[c10,Q0s,Q0r,w,eE,seval])
  all_goals(cases a3:decide (((s.length+r.length:Nat):Int) > 0)<;>try simp only[Q0s,Q0r,eE,seval])
  all_goals(cases a4:((b:Int)==0)<;>try simp only[a4,n4,QZN,Q0q,Qs,eE,seval])
  all_goals(cases a5:(t==[])<;>try simp only[QZN,Q0q,Qa,seval])

 ·have b7:((8:Int)==7)=false:=by decide
  have b8:((8:Int)==8)=true:=by decide
  have b10:((8:Int)==10)=false:=by decide
  have b11:((8:Int)==11)=false:=by decide
  have b12:((8:Int)==12)=false:=by decide
  have c10:((8:Int) != 10)=true:=by decide
  have c11:((8:Int) != 11)=true:=by decide
  have c12:((8:Int) != 12)=true:=by decide
  have g1:decide ((8:Int)≥10)=false:=by decide
  have g2:decide ((8:Int)≤12)=true:=by decide
  simp only[b7,b8,b10,b11,b12,c10,c11,c12,Q0p,Q0H,Q0I,Q0G,QZT,Q0q,eE,seval];cases a1:decide ((l.length:Int) > 0)<;>try simp only[c12,Q0s,Q0r,eE,seval]
  all_goals(cases a2:decide ((p.length:Int) > 0)<;>try simp only[c10,Q0s,Q0r,w,eE,seval])
  all_goals(cases a3:decide (((s.length+r.length:Nat):Int) > 0)<;>try simp only[Q0s,Q0r,eE,seval])
  all_goals(cases a4:((b:Int)==0)<;>try simp only[a4,n4,QZN,Q0q,Qs,eE,seval])
  all_goals(cases a5:(t==[])<;>try simp only[QZN,Q0q,Qa,seval])

 ·have b7:((10:Int)==7)=false:=by decide
  have b8:((10:Int)==8)=false:=by decide
  have b10:((10:Int)==10)=true:=by decide
  have b11:((10:Int)==11)=false:=by decide
  have b12:((10:Int)==12)=false:=by decide
  have c10:((10:Int) != 10)=false:=by decide
  have c11:((10:Int) != 11)=true:=by decide
  have c12:((10:Int) != 12)=true:=by decide
  have g1:decide ((10:Int)≥10)=true:=by decide
  have g2:decide ((10:Int)≤12)=true:=by decide
  simp only[b7,b8,b10,b11,b12,c10,c11,c12,Q0p,Q0c,Q0H,Q0I,QZT,QZN,eE,seval];cases a1:decide ((l.length:Int) > 0)<;>try simp only[c12,Q0s,Q0r,eE,seval]
  all_goals(cases a2:decide ((p.length:Int) > 0)<;>try simp only[c10,Q0s,Q0r,eE,seval])
  all_goals(cases a3:decide (((s.length+r.length:Nat):Int) > 0)<;>try simp only[a3,g1,g2,b7,b8,b10,b11,b12,c10,c11,c12,Q0p,Q0c,Q0H,Q0I,Q0s,Q0r,Q0G,QZT,QZN,Q0q,w,Qs,eE,seval])
  all_goals(cases a4:((b:Int)==0)<;>try simp only[a4,n4,Q0s,Q0r,QZN,Q0q,Qs,eE,seval])
  all_goals(cases a5:(t==[])<;>try simp only[QZN,Q0q,Qa,seval])

 ·have b7:((11:Int)==7)=false:=by decide
  have b8:((11:Int)==8)=false:=by decide
  have b10:((11:Int)==10)=false:=by decide
  have b11:((11:Int)==11)=true:=by decide
  have b12:((11:Int)==12)=false:=by decide
  have c10:((11:Int) != 10)=true:=by decide
  have c11:((11:Int) != 11)=false:=by decide
  have c12:((11:Int) != 12)=true:=by decide
  have g1:decide ((11:Int)≥10)=true:=by decide
  have g2:decide ((11:Int)≤12)=true:=by decide
  simp only[b7,b8,b10,b11,b12,c10,c11,c12,Q0p,Q0c,Q0H,Q0I,Q0s,QZT,QZN,eE,seval];cases a1:decide ((l.length:Int) > 0)<;>try simp only[a1,g1,g2,b7,b8,b10,b11,b12,c10,c11,c12,Q0p,Q0c,Q0H,Q0I,Q0s,Q0r,Q0G,QZT,QZN,Q0q,w,Qs,eE,seval]
  all_goals(cases a2:decide ((p.length:Int) > 0)<;>try simp only[c10,Q0s,Q0r,w,eE,seval])
  all_goals(cases a3:decide (((s.length+r.length:Nat):Int) > 0)<;>try simp only[Q0s,Q0r,eE,seval])
  all_goals(cases a4:((b:Int)==0)<;>try simp only[a4,n4,Q0s,Q0r,QZN,Q0q,Qs,eE,seval])
  all_goals(cases a5:(t==[])<;>try simp only[QZN,Q0q,Qa,seval])

 ·have b7:((12:Int)==7)=false:=by decide
  have b8:((12:Int)==8)=false:=by decide
  have b10:((12:Int)==10)=false:=by decide
  have b11:((12:Int)==11)=false:=by decide
  have b12:((12:Int)==12)=true:=by decide
  have c10:((12:Int) != 10)=true:=by decide
  have c11:((12:Int) != 11)=true:=by decide
  have c12:((12:Int) != 12)=false:=by decide
  have g1:decide ((12:Int)≥10)=true:=by decide
  have g2:decide ((12:Int)≤12)=true:=by decide
  simp only[b7,b8,b10,b11,b12,c10,c11,c12,Q0p,Q0c,Q0H,Q0I,QZT,QZN,eE,seval];cases a1:decide ((l.length:Int) > 0)<;>try simp only[c10,c12,Q0s,Q0r,w,eE,seval]
  all_goals(cases a2:decide ((p.length:Int) > 0)<;>try simp only[a2,g1,g2,b7,b8,b10,b11,b12,c10,c11,c12,Q0p,Q0c,Q0H,Q0I,Q0s,Q0r,Q0G,QZT,QZN,Q0q,w,Qs,eE,seval])
  all_goals(cases a3:decide (((s.length+r.length:Nat):Int) > 0)<;>try simp only[Q0s,Q0r,eE,seval])
  all_goals(cases a4:((b:Int)==0)<;>try simp only[a4,n4,Q0s,Q0r,QZN,Q0q,Qs,eE,seval])
  all_goals(cases a5:(t==[])<;>try simp only[QZN,Q0q,Qa,seval])
 ·have b7:(k==7)=false:=by simp[h7]
  have b8:(k==8)=false:=by simp[h8]
  have b10:(k==10)=false:=by simp[h10]
  have b11:(k==11)=false:=by simp[h11]
  have b12:(k==12)=false:=by simp[h12]
  have c10:(k != 10)=true:=by simp[h10]
  have c11:(k != 11)=true:=by simp[h11]
  have c12:(k != 12)=true:=by simp[h12]
  rcases(by omega:(k≥10∧¬k≤12)∨¬k≥10)with⟨q1,q2⟩|q1
  ·have g1:decide (k≥10)=true:=Q0D q1;have g2:decide (k≤12)=false:=Q0u q2;simp only[b7,b8,b10,b11,b12,c10,c11,c12,Q0p,Q0H,Q0G,QZT,QZN,eE,seval];cases a1:decide ((l.length:Int) > 0)<;>try simp only[c12,Q0s,Q0r,eE,seval]
   all_goals(cases a2:decide ((p.length:Int) > 0)<;>try simp only[c10,Q0s,Q0r,w,eE,seval])
   all_goals(cases a3:decide (((s.length+r.length:Nat):Int) > 0)<;>try simp only[Q0s,Q0r,eE,seval])
   all_goals(cases a4:((b:Int)==0)<;>try simp only[a4,n4,g1,g2,QZN,Q0q,Qs,eE,seval])
   all_goals(cases a5:(t==[])<;>try simp only[QZN,Q0q,Qa,seval])
  ·have g1:decide (k≥10)=false:=Q0u q1;simp only[b7,b8,b10,b11,b12,c10,c11,c12,Q0p,Q0H,Q0G,QZT,QZN,eE,seval];cases a1:decide ((l.length:Int) > 0)<;>try simp only[c12,Q0s,Q0r,eE,seval]
   all_goals(cases a2:decide ((p.length:Int) > 0)<;>try simp only[c10,Q0s,Q0r,w,eE,seval])
   all_goals(cases a3:decide (((s.length+r.length:Nat):Int) > 0)<;>try simp only[Q0s,Q0r,eE,seval])
   all_goals(cases a4:((b:Int)==0)<;>try simp only[a4,n4,g1,QZN,Q0q,Qs,eE,seval])
   all_goals(cases a5:(t==[])<;>try simp only[QZN,Q0q,Qa,seval])

end

section
variable (k:Int)(b:Nat)(t:List UInt8)(l p s r:List AV)(hs:s.length≤140737488351232)(hr:r.length≤140737488351232)

end

def zc:List AV:=[.int .i64 0,.str [],.str [],.int .i64 0,.int .i64 0,.int .i64 0,.int .i64 0,.int .i64 0]

section progs
variable (L:List PG)(hl:L.length≤maxLen)(p:PG→Bool)(c:Nat)(cap:AV)(m:Qk)

def IxG (k:Nat)(st:St):Prop :=
 ∃f i,st=⟨f,Qc :: m,[]⟩∧k=L.length-i∧QS p L 0=QS p (L.drop i) i∧f 0=.list (L.map QW)∧f 1=.fn (.func c) [] [cap.sh]∧f 7=.int .i64 (L.length:Nat)∧f 8=.int .i64 (i:Nat)

include hl in
theorem y20 (hc:∀o∈L,Qf Tryz.prog c [QW o,cap.sh] (Qc :: m) fun y m1=>y=.bool (p o)∧m1=Qc :: m) :
  Qf Tryz.prog 20 [.list (L.map QW),.fn (.func c) [] [cap]] m fun y m1=>y=.int .i64 (QS p L 0)∧m1=m:=by
 refine k20.go (by simp) ?_;simp only[QZ5,Qa,seval];refine Qe (IxG L p c cap m) _ ⟨_,0,rfl,rfl,rfl,rfl,rfl,rfl,rfl⟩ ?_;rintro _ st ⟨f,i,rfl,rfl,hx,h0,h1,h7,h8⟩;simp only[h7,h8,Qa,seval];by_cases hlt:i<L.length
 ·obtain⟨x,hi⟩:∃x,L[i]? = some x:=⟨L[i],QYN hlt⟩;have hcl:=hc x (QYY hi);have hg:(L.map QW)[i]? = some (QW x):=by simp[hi]
  have e1:=Ql i _ hlt hl;simp only[QW,PG.cells]at hcl;simp only[Qw hlt,Qj,QZ8,Qd,hg,QW,PG.cells,h0,h1,h8,eE,seval];refine Xa (fa:=[]) (fb:=[cap.sh]) rfl hcl (by simp only[QZh,QZG,QY6,QY5,Qa,seval]) ?_;rw[XD p hi]at hx;cases hp:p x
  ·rw[hp]at hx;simp only[QY3,if_false]at hx;simp only[h8,e1,Qa,seval];exact⟨L.length-(i+1),by omega,_,i+1,rfl,rfl,hx,h0,h1,h7,rfl⟩
  ·rw[hp]at hx;simp only[if_true]at hx;simp only[hx,Qa,seval]
 ·have hx':QS p L 0 = -1:=by rw[hx,QZm (by omega)];rfl
  simp only[Qy hlt,hx',Qa,seval]

end progs

section items
variable (L:List PI)(hl:L.length≤maxLen)(p:PI→Bool)(c:Nat)(cap:AV)(m:Qk)

def IxI (k:Nat)(st:St):Prop :=
 ∃f i,st=⟨f,Qc :: m,[]⟩∧k=L.length-i∧QS p L 0=QS p (L.drop i) i∧f 0=.list (L.map UD)∧f 1=.fn (.func c) [] [cap.sh]∧f 7=.int .i64 (L.length:Nat)∧f 8=.int .i64 (i:Nat)

include hl in
theorem QRX (hc:∀o∈L,Qf Tryz.prog c [UD o,cap.sh] (Qc :: m) fun y m1=>y=.bool (p o)∧m1=Qc :: m) :
  Qf Tryz.prog 230 [.list (L.map UD),.fn (.func c) [] [cap]] m fun y m1=>y=.int .i64 (QS p L 0)∧m1=m:=by
 refine Es.go (by simp) ?_;simp only[QZ5,Qa,seval];refine Qe (IxI L p c cap m) _ ⟨_,0,rfl,rfl,rfl,rfl,rfl,rfl,rfl⟩ ?_;rintro _ st ⟨f,i,rfl,rfl,hx,h0,h1,h7,h8⟩;simp only[h7,h8,Qa,seval];by_cases hlt:i<L.length
 ·obtain⟨x,hi⟩:∃x,L[i]? = some x:=⟨L[i],QYN hlt⟩;have hcl:=hc x (QYY hi);have hg:(L.map UD)[i]? = some (UD x):=by simp[hi]
  have e1:=Ql i _ hlt hl;simp only[UD,PI.cells]at hcl;simp only[Qw hlt,Qj,QZ8,Qd,hg,UD,PI.cells,h0,h1,h8,eE,seval];refine Xa (fa:=[]) (fb:=[cap.sh]) rfl hcl (by simp only[QZh,QZG,QY6,QY5,Qa,seval]) ?_;rw[XD p hi]at hx;cases hp:p x
  ·rw[hp]at hx;simp only[QY3,if_false]at hx;simp only[h8,e1,Qa,seval];exact⟨L.length-(i+1),by omega,_,i+1,rfl,rfl,hx,h0,h1,h7,rfl⟩
  ·rw[hp]at hx;simp only[if_true]at hx;simp only[hx,Qa,seval]
 ·have hx':QS p L 0 = -1:=by rw[hx,QZm (by omega)];rfl
  simp only[Qy hlt,hx',Qa,seval]

theorem Yv {α:Type}(p:α→Bool)(l:List α):decide (QS p l 0≥0)=l.any p:=by
 rcases Xi p l 0 with⟨h1,h2⟩|⟨k,o,h1,_,h3⟩
 ·rw[h1];have:l.any p=false:=by
   rw[Q0y];intro x hx;exact fun h=>by have:=Q0z.1 h2 x hx;exact this h
  rw[this];rfl
 ·rw[h1];have:l.any p=true:=Q0A.2 ⟨o,Q0B h3,Q0C h3⟩;rw[this];exact Q0D (by omega)

include hl in
theorem QRY (hc:∀o∈L,Qf Tryz.prog c [UD o,cap.sh.sh] (Qc :: Qc :: m) fun y m1=>y=.bool (p o)∧m1=Qc :: Qc :: m) :
  Qf Tryz.prog 174 [.list (L.map UD),.fn (.func c) [] [cap]] m fun y m1=>y=.bool (L.any p)∧m1=m:=by
 refine Er.go (by simp) ?_;simp only[Qa,seval];refine Qb (QRX L hl p c cap.sh _ hc) (by simp only[QZh,QZG,Qa,seval]) ?_;simp only[Yv,Qa,seval]

end items

def C3 (b:Nat)(x:PI):Bool:=IntKind.u64.wrap x.num==(b:Int)
theorem y21 (g:PG)(frO:Nat→Ob)(s:List UInt8)(hf:frO 3=.cells [.str s]):Qf Tryz.prog 21 [QW g,.ptr 1 3 0] [Qc,frO] fun y m1=>y=.bool (g.name==s)∧m1=[Qc,frO]:=by
 refine k21.go (by simp) ?_;simp only[hf,QW,PG.cells,Qs,eE,seval]

theorem QRZ (x:PI)(b:Nat)(frO:Nat→Ob)(hf:frO 5=.cells [.int .u64 (b:Nat)]):Qf Tryz.prog 175 [UD x,.ptr 2 5 0] [Qc,Qc,frO] fun y m1=>y=.bool (C3 b x)∧m1=[Qc,Qc,frO]:=by
 refine QhF.go (by simp) ?_;simp only[hf,UD,PI.cells,C3,eE,seval]

def pfr (s:List UInt8)(L:List PG):AV:=.tup [.int .i64 (if QS (fun g:PG=>g.name==s) L 0<0 then 0 else QS (fun g:PG=>g.name==s) L 0),.bool (decide (QS (fun g:PG=>g.name==s) L 0≥0))]

theorem y8 (P:PL)(hl:P.progs.length≤maxLen)(s:List UInt8):Qi Tryz.prog 8 [P.av,.str s] (pfr s P.progs):=by
 refine k8.fn (by simp) ?_;simp only[PL.av,eE,seval];refine Qb (y20 P.progs hl (fun g=>g.name==s) 21 (.ptr 0 3 0) _ fun g _=>y21 g _ s rfl) (by simp only[QZh,QZG,Qa,seval]<;>rfl) ?_;unfold pfr;by_cases h:QS (fun g:PG=>g.name==s) P.progs 0<0
 ·have d:decide (QS (fun g:PG=>g.name==s) P.progs 0<0)=true:=Q0D h;simp only[QYS h,Qa,seval]
 ·have d:decide (QS (fun g:PG=>g.name==s) P.progs 0<0)=false:=Q0u h;simp only[QYR h,Qa,seval]

def Wc (E:List PE)(t:Int)(b:Nat):Bool :=
 if 0≤t∧t<E.length∧b≤2147483647 then
  match E[t.toNat]? with
  |some x=>x.opn||x.items.any (C3 b)
  |none=>false
 else false

theorem QC0 {M:Nat}(P:PL)(hP:P.ok M)(t:Int)(b:Nat):Qi Tryz.prog 119 [P.av,.int .i64 t,.int .u64 (b:Nat)] (.bool (Wc P.enums t b)):=by
 have e0:P.av=.agg [.list (P.progs.map QW),.list (P.enums.map Xw)]:=rfl;refine Qhl.fn (by simp) ?_;simp only[e0,eE,seval];by_cases h1:0≤t
 ·have d1:decide (t<0)=false:=Q0u (by omega);by_cases h2:t<P.enums.length
  ·have d2:decide (t≥(P.enums.length:Int))=false:=Q0u (by omega);by_cases h3:b≤2147483647
   ·have d3:decide ((b:Int) > 2147483647)=false:=Q0u (by omega);obtain⟨n,rfl⟩:=Q0m h1;have hn:n<P.enums.length:=by omega
    obtain⟨x,hi⟩:∃x,P.enums[n]? = some x:=⟨P.enums[n],QYN hn⟩;have hx:=hP.enums x (QYY hi);have hg:(P.enums.map Xw)[n]? = some (.agg x.cells):=by simp[hi,Xw]
    simp only[PE.cells]at hg;have ha:Wc P.enums (n:Int) b=(x.opn||x.items.any (C3 b)):=by
     unfold Wc;rw[QYS ⟨h1,h2,h3⟩,QZ8,hi]
    simp only[d1,d2,QZ5,d3,Qj,QZ8,Qd,hg,ha,eE,seval];cases ho:x.opn
    ·simp only[Q0s,eE,seval];refine Qb (QRY x.items hx.len1 (C3 b) 175 (.ptr 0 5 0) _ fun y _=>QRZ y b _ rfl) (by simp only[QZh,QZG,Qa,seval]<;>rfl) ?_;simp only[Qa,seval]
    ·simp only[Q0r,Qa,seval]
   ·have d3:decide ((b:Int) > 2147483647)=true:=Q0D (by omega);have ha:Wc P.enums t b=false:=by
     unfold Wc;rw[QYR (by omega)]
    simp only[d1,d2,QZ5,d3,ha,eE,seval]
  ·have d2:decide (t≥(P.enums.length:Int))=true:=Q0D (by omega);have ha:Wc P.enums t b=false:=by
    unfold Wc;rw[QYR (by omega)]
   simp only[d1,d2,QZ5,ha,eE,seval]
 ·have d1:decide (t<0)=true:=Q0D (by omega);have ha:Wc P.enums t b=false:=by
   unfold Wc;rw[QYR (by omega)]
  simp only[d1,ha,Qa,seval]

def Ff (P:PL)(k tg kd:Int)(b:Nat)(t:List UInt8)(l p s r:List AV):Int :=
 if (kd != k||oth kd b t l p s r)=true then 12 else if decide ((t.length:Int) > 4096)=true then 3 else if (k==7 && !Z9 t)=true then 7
 else if (!X8 k kd b t l p s r)=true then 12 else if (k==9 && !Wc P.enums tg b)=true then 16 else 0

section
variable {M:Nat}(P:PL)(hP:P.ok M)(k tg kd:Int)(b:Nat)(t:List UInt8)(l p s r:List AV)(hl:l.length≤140737488351232)(hp:p.length≤140737488351232)(hs:s.length≤140737488351232)(hr:r.length≤140737488351232)

include hP hl hp hs hr in
theorem QR0:Qi Tryz.prog 228 [P.av,.int .i64 k,.int .i64 tg,vo kd b t l p s r] (.int .i64 (Ff P k tg kd b t l p s r)):=by
 have e0:P.av=.agg [.list (P.progs.map QW),.list (P.enums.map Xw)]:=rfl;have ho:=z62 kd b t l p s r hs hr;have hf:=Px k kd b t l p s r hl hp hs hr;have ha:=QC0 P hP tg b;simp only[vo]at ho hf;simp only[e0]at ha;refine QiF.fn (by simp) ?_;simp only[e0,vo,Ff,eE,seval];cases a1:(kd != k)
 ·simp only[Q0s,eE,seval];refine aC ho ?_;cases oth kd b t l p s r
  ·simp only[QY3,eE,seval];cases a2:decide ((t.length:Int) > 4096)
   ·simp only[QY3,Qa,seval];have fin:∀c:Bool,True:=fun _=>trivial
    cases a3:(k==7)
    ·simp only[Q0c,QY3,eE,seval];refine aC hf ?_;cases X8 k kd b t l p s r
     ·simp only[QZN,Qa,seval]
     ·simp only[Q0q,QY3,Qa,seval];cases a4:(k==9)
      ·simp only[Q0c,QY3,Qa,seval]
      ·simp only[Q0p,eE,seval];refine aC ha ?_;cases Wc P.enums tg b<;>simp only[QZN,Q0q,QY3,Qa,seval]
    ·simp only[Q0p,eE,seval];refine aC (Pu t) ?_;cases Z9 t
     ·simp only[QZN,Qa,seval]
     ·have a4:(k==9)=false:=by
       rw[QY8]at a3;subst a3;rfl
      simp only[Q0q,QY3,eE,seval];refine aC hf ?_;cases X8 k kd b t l p s r
      ·simp only[QZN,Qa,seval]
      ·simp only[Q0q,a4,Q0c,QY3,Qa,seval]
   ·simp only[Qa,seval]
  ·simp only[Qa,seval]
 ·simp only[Q0r,Qa,seval]

end
open Up

def Xj (f:Nat→Int):Nat→Nat→Int
 |0,_=>0
 |k+1,i=>if f i=0 then Xj f k (i+1)else f i

theorem T2 {f:Nat→Int}{n i:Nat}(h:i<n):Xj f (n-i) i=if f i=0 then Xj f (n-(i+1)) (i+1)else f i:=by
 rw[show n-i=(n-(i+1))+1 by omega];rfl
theorem Wd {f:Nat→Int}{n i:Nat}(h:i<n)(e:f i=0):Xj f (n-i) i=Xj f (n-(i+1)) (i+1):=by
 rw[T2 h,QYS e]
theorem Jn {f:Nat→Int}{n i:Nat}{v:Int}(h:i<n)(e:f i=v)(hv:v≠0):Xj f (n-i) i=v:=by
 rw[T2 h,QYR (by rw[e];exact hv),e]
theorem Kn {f:Nat→Int}{n i:Nat}(h:¬i<n):Xj f (n-i) i=0:=by
 rw[show n-i=0 by omega];rfl
theorem Jf {f:Nat→Int}:∀ {k i:Nat},Xj f k i=0→∀j,i≤j→j<i+k→f j=0
 |0,_,_,_,h1,h2=>by omega
 |k+1,i,h,j,h1,h2=>by
  rw[Xj]at h;split at h
  ·rename_i h0;by_cases e:j=i
   ·rw[e];exact h0
   ·exact Jf h j (by omega) (by omega)
  ·rename_i h0;exact absurd h h0

def _root_.Go.Proofs.YtafhmlkilcmniaaGreatDoor.Br.V.oth (v:V):Bool:=Va.oth v.kd v.bits v.text (v.list.map V.av) (v.pairs.map V.pav) (v.slots.map V.sav) (v.raws.map R.av)
def _root_.Go.Proofs.YtafhmlkilcmniaaGreatDoor.Br.V.one (P:PL)(k tg:Int)(v:V):Int:=Ff P k tg v.kd v.bits v.text (v.list.map V.av) (v.pairs.map V.pav) (v.slots.map V.sav) (v.raws.map R.av)

theorem U6 (v:V):v.av=vo v.kd v.bits v.text (v.list.map V.av) (v.pairs.map V.pav) (v.slots.map V.sav) (v.raws.map R.av):=by
 rw[V.av,V.eta];rfl

def Jo (P:PL)(t:Int):PG:=P.progs[t.toNat]?.getD ⟨[],[],0⟩
def Ko (a b:V):Bool:=a.bits==b.bits&&a.text==b.text
def X4 (g:PG)(n:Int):Option PO:=g.ops.find? fun o=>o.num==n

section
variable (m:PG→V→Int)(P:PL)
def Xt (o:PO)(v:V):Int:=if o.kind=10 then m (Jo P o.target) v else v.one P o.kind o.target
def J3 (o:PO)(ps:List (V×V))(i:Nat):Int:=match ps[i]? with
 |none=>0
 |some x=>if x.1.one P o.key (-1)=0 then(if (ps.take i).any (fun q=>Ko q.1 x.1)=true then 9 else Xt m P o x.2)else x.1.one P o.key (-1)
def WR (o:PO)(l:List V)(i:Nat):Int:=match l[i]? with
 |none=>0
 |some x=>Xt m P o x
def Zq (o:PO)(v:V):Int :=
 if o.card=5 then(if (v.kd != 12||v.oth)=true then 12 else Xj (J3 m P o v.pairs) v.pairs.length 0)
 else if o.card=4 then(if (v.kd != 11||v.oth)=true then 12 else Xj (WR m P o v.list) v.list.length 0)
 else Xt m P o v
def Jv (g:PG)(o:PO)(y:Int×V):Bool:=o.union != -1&&(((X4 g y.1).getD G7).union==o.union)
def XB (g:PG)(sl:List (Int×V))(i:Nat):Int:=match sl[i]? with
 |none=>0
 |some x=>match X4 g x.1 with
  |none=>8
  |some o=>if (sl.take i).any (fun y=>y.1==x.1)=true then 9 else if (sl.take i).any (Jv g o)=true then 15 else Zq m P o x.2
def Dd (g:PG)(f:R):Bool:=match X4 g f.num with
 |none=>true
 |some o=>o.kind==9&&o.card != 5&&f.wire==0&&decide ((f.bits:Int)≤2147483647) && !Wc P.enums o.target f.bits
def Wj (g:PG)(f:R):Int :=
 if (decide (f.num<1)||decide (f.num > 65535)||decide (f.wire<0)||decide (f.wire > 6))=true then 1
 else if (decide (f.wire≤2) && !(f.data==[])||decide (f.wire > 2) && !((f.bits:Int)==0))=true then 1
 else if (!Dd P g f)=true then 1
 else if (f.wire==3&&decide ((f.data.length:Int) > 4096)||decide ((f.data.length:Int) > 65536))=true then 3 else 0
def JC (g:PG)(l:List R)(i:Nat):Int:=match l[i]? with
 |none=>0
 |some f=>Wj P g f
def Wk (g:PG)(sl:List (Int×V)):Bool:=g.ops.any fun o=>o.card==1 && !sl.any fun y=>y.1==o.num
def Yc (g:PG)(v:V):Int :=
 if Xj (XB m P g v.slots) v.slots.length 0=0 then
  (if Wk g v.slots=true then 14 else Xj (JC P g v.raws) v.raws.length 0)
 else Xj (XB m P g v.slots) v.slots.length 0
end

theorem Yw {m:PG→V→Int}{P:PL}{o:PO}{ps:List (V×V)}{i:Nat}{x:V×V}(h:ps[i]? = some x) :
  J3 m P o ps i=if x.1.one P o.key (-1)=0 then(if (ps.take i).any (fun q=>Ko q.1 x.1)=true then 9 else Xt m P o x.2)else x.1.one P o.key (-1):=by
 unfold J3;rw[h]
theorem Yx {m:PG→V→Int}{P:PL}{o:PO}{l:List V}{i:Nat}{x:V}(h:l[i]? = some x):WR m P o l i=Xt m P o x:=by
 unfold WR;rw[h]
theorem WS {P:PL}{g:PG}{l:List R}{i:Nat}{x:R}(h:l[i]? = some x):JC P g l i=Wj P g x:=by
 unfold JC;rw[h]

def XF (P:PL):Nat→PG→V→Int
 |0,_,v=>if (v.kd != 10||v.oth)=true then 12 else 17
 |n+1,g,v=>if (v.kd != 10||v.oth)=true then 12 else Yc (XF P n) P g v

mutual
def _root_.Go.Proofs.YtafhmlkilcmniaaGreatDoor.Br.V.cnt:V→Nat
 |.mk _ _ _ l p s r=>1+r.length+Xy l+XX p+XI s
def Xy:List V→Nat
 | []=>0
 |x :: l=>x.cnt+Xy l
def XX:List (V×V)→Nat
 | []=>0
 |(a,b) :: l=>a.cnt+b.cnt+XX l
def XI:List (Int×V)→Nat
 | []=>0
 |(_,a) :: l=>a.cnt+XI l
end

theorem XY:∀v:V,v.cnt=1+v.raws.length+Xy v.list+XX v.pairs+XI v.slots
 |.mk k b t l p s r=>by rw[V.cnt];rfl

theorem FY {l:List V}{i:Nat}{x:V}(h:l[i]? = some x):Xy (l.take (i+1))=Xy (l.take i)+x.cnt:=by
 induction l generalizing i with
 |nil=>simp at h
 |cons y l ih=>
  cases i with
  |zero=>simp at h;subst h;simp[Xy]
  |succ i=>
   simp only[QZi,Xy];rw[ih (by simpa using h)];omega
theorem T3 {l:List (V×V)}{i:Nat}{x:V×V}(h:l[i]? = some x):XX (l.take (i+1))=XX (l.take i)+(x.1.cnt+x.2.cnt):=by
 induction l generalizing i with
 |nil=>simp at h
 |cons y l ih=>
  obtain⟨y1,y2⟩:=y;cases i with
  |zero=>simp at h;subst h;simp[XX]
  |succ i=>
   simp only[QZi,XX];rw[ih (by simpa using h)];omega
theorem T4 {l:List (Int×V)}{i:Nat}{x:Int×V}(h:l[i]? = some x):XI (l.take (i+1))=XI (l.take i)+x.2.cnt:=by
 induction l generalizing i with
 |nil=>simp at h
 |cons y l ih=>
  obtain⟨y1,y2⟩:=y;cases i with
  |zero=>simp at h;subst h;simp[XI]
  |succ i=>
   simp only[QZi,XI];rw[ih (by simpa using h)];omega

inductive Thin:V→Prop
 |mk {v:V} (n:v.list.length+2*v.pairs.length+v.slots.length≤1099511627776) (list:∀x∈v.list,Thin x) (keys:∀x∈v.pairs,Thin x.1) (vals:∀x∈v.pairs,Thin x.2) (slots:∀x∈v.slots,Thin x.2):Thin v

theorem U7 {v:V}(h:v.oth=false):(v.kd≠11→v.list=[])∧(v.kd≠12→v.pairs=[])∧(v.kd≠10→v.slots=[]):=by
 unfold V.oth Va.oth at h;simp only[QZA,Q0J,bne_eq_false_iff_eq,Q0E,QZ5]at h;obtain⟨⟨⟨⟨h1,h2⟩,h3⟩,_⟩,_⟩:=h;refine⟨fun h=>?_,fun h=>?_,fun h=>?_⟩
 ·rcases h1 with h1|h1
  ·exact absurd h1 h
  ·exact Q0P.1 (by omega)
 ·rcases h2 with h2|h2
  ·exact absurd h2 h
  ·exact Q0P.1 (by omega)
 ·rcases h3 with h3|h3
  ·exact absurd h3 h
  ·exact Q0P.1 (by omega)

theorem De {P:PL}{k tg:Int}{v:V}(h:v.one P k tg=0):v.kd=k∧v.oth=false∧X8 k v.kd v.bits v.text (v.list.map V.av) (v.pairs.map V.pav) (v.slots.map V.sav) (v.raws.map R.av)=true:=by
 unfold V.one Ff at h;split at h
 ·omega
 ·rename_i h1;split at h
  ·omega
  ·split at h
   ·omega
   ·split at h
    ·omega
    ·rename_i h2;simp only[Bool.not_eq_true,QZA,bne_eq_false_iff_eq]at h1;exact⟨h1.1,h1.2,by simpa using h2⟩

theorem E0 {k kd:Int}{b:Nat}{t:List UInt8}{l p s r:List AV}(h:X8 k kd b t l p s r=true):isk k=true:=by
 unfold X8 at h;simp only[QY7]at h;exact h.1.1.1.1.1.1

theorem QC1 {k:Int}(h:isk k=true):k≠10∧k≠11∧k≠12:=by
 unfold isk at h;simp only[QY7,QZ2]at h;omega

theorem Vd {P:PL}{k tg:Int}{v:V}(h:v.one P k tg=0):Thin v:=by
 obtain⟨h1,h2,h3⟩:=De h;obtain⟨i1,i2,i3⟩:=QC1 (E0 h3);obtain⟨o1,o2,o3⟩:=U7 h2;rw[←h1]at i1 i2 i3;refine .mk ?_ ?_ ?_ ?_ ?_
 ·rw[o1 i2,o2 i3,o3 i1];simp
 ·rw[o1 i2];simp
 ·rw[o2 i3];simp
 ·rw[o2 i3];simp
 ·rw[o3 i1];simp

theorem Ve {P:PL}{M:Nat}:∀(n:Nat) (g:PG) (v:V),v.ok M→XF P n g v=0→Thin v:=by
 intro n
 induction n with
 |zero=>
  intro g v _ h;unfold XF at h;split at h<;>omega
 |succ n ih=>
  intro g v hv h;unfold XF at h;split at h
  ·omega
  rename_i h0;simp only[Bool.not_eq_true,QZA,bne_eq_false_iff_eq]at h0;obtain⟨o1,o2,o3⟩:=U7 h0.2;have e1:=o1 (by omega);have e2:=o2 (by omega);unfold Yc at h;have hs:Xj (XB (XF P n) P g v.slots) v.slots.length 0=0:=by
   split at h
   ·assumption
   ·exact h
  refine .mk ?_ (by rw[e1];simp) (by rw[e2];simp) (by rw[e2];simp) ?_
  ·rw[e1,e2];have:=hv.ns;simp;omega
  ·intro x hx;obtain⟨i,hi⟩:=QYW.1 hx;have hlt:=(QYM.1 hi).1;have h1:=Jf hs i (QYT _) (by omega);unfold XB at h1;rw[hi]at h1;dsimp only at h1;split at h1
   ·omega
   rename_i o _;split at h1
   ·omega
   split at h1
   ·omega
   have hx2:=hv.slots x hx;have helem:∀y:V,y.ok M→Xt (XF P n) P o y=0→Thin y:=by
    intro y hy he;unfold Xt at he;split at he
    ·exact ih _ _ hy he
    ·exact Vd he
   unfold Zq at h1;split at h1
   ·split at h1
    ·omega
    rename_i h2;simp only[Bool.not_eq_true,QZA,bne_eq_false_iff_eq]at h2;obtain⟨o1,o2,o3⟩:=U7 h2.2;have e1:=o1 (by omega);have e3:=o3 (by omega);have hp:∀y∈x.2.pairs,Thin y.1∧Thin y.2:=by
     intro y hy;obtain⟨j,hj⟩:=QYW.1 hy;have hlt:=(QYM.1 hj).1;have h3:=Jf h1 j (QYT _) (by omega);unfold J3 at h3;rw[hj]at h3;dsimp only at h3;split at h3
     ·rename_i hk;split at h3
      ·omega
      ·exact⟨Vd hk,helem _ (hx2.vals y hy) h3⟩
     ·rename_i hk;exact absurd h3 hk
    refine .mk ?_ (by rw[e1];simp) (fun y hy=>(hp y hy).1) (fun y hy=>(hp y hy).2) (by rw[e3];simp);rw[e1,e3];have:=hx2.np;simp;omega
   ·split at h1
    ·split at h1
     ·omega
     rename_i h2;simp only[Bool.not_eq_true,QZA,bne_eq_false_iff_eq]at h2;obtain⟨o1,o2,o3⟩:=U7 h2.2;have e2:=o2 (by omega);have e3:=o3 (by omega);refine .mk ?_ ?_ (by rw[e2];simp) (by rw[e2];simp) (by rw[e3];simp)
     ·rw[e2,e3];have:=hx2.nl;simp;omega
     ·intro y hy;obtain⟨j,hj⟩:=QYW.1 hy;have hlt:=(QYM.1 hj).1;have h3:=Jf h1 j (QYT _) (by omega);unfold WR at h3;rw[hj]at h3;exact helem _ (hx2.list y hy) h3
    ·exact helem _ hx2 h1

end Go.Proofs.YtafhmlkilcmniaaGreatDoor.Va

/- Parts of the proof, in order. -/
import Derived.Lib.IndexLaws
import Derived.Test.YtaiflhahcglpgaaGreatDoorMPlanMakes1

namespace Go.Proofs.YtaiflhahcglpgaaGreatDoor.Rc
open Go Am
abbrev Qgp:IL:=[je 2]
abbrev Qgq:IL:=[ja 5 0,jk 6 0 5,yr 7 6 120]
abbrev Qgr:IL:=[je 2]
abbrev Qgs:IL:=[zn 3]
abbrev Qgt:IL:=[jd 4 0]
abbrev Qgu:IL:=[ja 8 4,ja 9 0,jk 10 0 9,jr 11 8 10]
abbrev Qgv:IL:=[ja 14 0,ja 15 4,DP 16 14 15,⟨some 17,.val (.bin .num .neq (.t 16) (.c (.int .u8 46))),none⟩]
abbrev Qgw:IL:=[ja 18 3,ja 19 0,ja 20 4,ja 21 4,jn 22 21 1,⟨some 23,.val (.slc none (.t 19) (some (.t 20)) (some (.t 22)) none),none⟩,⟨some 24,.val (.bin .str .add (.t 18) (.t 23)),none⟩,ja 3 24]
abbrev Qgx:IL:=[ja 25 3,js 26 170 25,jy 27 26]
abbrev S7:IL:=[je 2]
abbrev S8:IL:=[zn 3]
abbrev Qgy:IL:=[ja 12 4,jn 13 12 1,ja 4 13]
abbrev Qgz:RC:=.seq (jQ Qgu (jX 11 0)) (.seq (.block 1 (.seq (jQ Qgv (.cond (.t 17) (jQ Qgw (.exit 1)) (.skip))) (.seq (jQ Qgx (.cond (.t 27) (jQ S7 (.ret)) (.skip))) (.reg S8)))) (.reg Qgy))
abbrev S9:IL:=[ja 28 3,js 29 170 28,ja 2 29]
abbrev Qse:RC:=jQ Qgp (.seq (jQ Qgq (.cond (.t 7) (jQ Qgr (.ret)) (.skip))) (jQ Qgs (.seq (jQ Qgt (.block 0 (.loop Qgz))) (jQ S9 (.ret)))))
abbrev Qsf:List RR:=[.tmp 2]
theorem Qsg:CT 167 30 Qse Qsf:=ck Tryz.func167 Tryz.ntmps167 (by decide +kernel)
abbrev QgA:IL:=[zn 2,zn 3]
abbrev QgB:IL:=[ja 5 0,jk 6 0 5,Nh 7 6 1,ja 4 7]
abbrev QgC:IL:=[ja 8 4,yd 9 8 0]
abbrev QgD:IL:=[ja 12 0,ja 13 4,DP 14 12 13,Np 15 14 46]
abbrev QgE:IL:=[ja 16 0,ja 17 4,⟨some 18,.val (.slc none (.t 16) none (some (.t 17)) none),none⟩,ja 19 0,ja 20 4,jn 21 20 1,No 22 19 21,ja 2 18,ja 3 22]
abbrev QgF:IL:=[ja 10 4,Nh 11 10 1,ja 4 11]
abbrev QgG:RC:=.seq (jQ QgC (jX 9 0)) (.seq (.block 1 (jQ QgD (.cond (.t 15) (jD QgE (.ret)) (.skip)))) (.reg QgF))
abbrev QgH:IL:=[ja 23 0,zn 2,ja 3 23]
abbrev Qsh:RC:=jQ QgA (.seq (jQ QgB (.block 0 (.loop QgG))) (jQ QgH (.ret)))
abbrev Qsi:List RR:=[.tmp 2,.tmp 3]
theorem Qsj:CT 168 24 Qsh Qsi:=ck Tryz.func168 Tryz.ntmps168 (by decide +kernel)
abbrev QgI:IL:=[je 2]
abbrev QgJ:IL:=[ja 3 0]
abbrev QgK:IL:=[⟨some 5,.val (.bin .str .eql (.t 3) (.c (.str [109,101,115,115,97,103,101]))),none⟩,ja 4 5]
abbrev QgL:IL:=[⟨some 6,.val (.bin .str .eql (.t 3) (.c (.str [101,110,117,109]))),none⟩,ja 4 6]
abbrev QgM:IL:=[⟨some 7,.val (.bin .str .eql (.t 3) (.c (.str [115,101,114,118,105,99,101]))),none⟩,ja 4 7]
abbrev QgN:IL:=[⟨some 8,.val (.bin .str .eql (.t 3) (.c (.str [117,110,105,111,110]))),none⟩,ja 4 8]
abbrev QgO:IL:=[⟨some 9,.val (.bin .str .eql (.t 3) (.c (.str [109,97,112]))),none⟩,ja 4 9]
abbrev QgP:IL:=[⟨some 10,.val (.bin .str .eql (.t 3) (.c (.str [108,105,115,116]))),none⟩,ja 4 10]
abbrev QgQ:IL:=[⟨some 11,.val (.bin .str .eql (.t 3) (.c (.str [114,101,113,117,105,114,101,100]))),none⟩,ja 4 11]
abbrev QgR:IL:=[⟨some 12,.val (.bin .str .eql (.t 3) (.c (.str [111,112,116,105,111,110,97,108]))),none⟩,ja 4 12]
abbrev Ta:IL:=[⟨some 13,.val (.bin .str .eql (.t 3) (.c (.str [112,108,97,105,110]))),none⟩,ja 4 13]
abbrev Tb:IL:=[⟨some 14,.val (.bin .str .eql (.t 3) (.c (.str [100,101,102,97,117,108,116]))),none⟩,ja 4 14]
abbrev Tc:IL:=[⟨some 15,.val (.bin .str .eql (.t 3) (.c (.str [114,101,115,101,114,118,101,100]))),none⟩,ja 4 15]
abbrev Td:IL:=[⟨some 16,.val (.bin .str .eql (.t 3) (.c (.str [105,109,112,111,114,116]))),none⟩,ja 4 16]
abbrev Te:IL:=[⟨some 17,.val (.bin .str .eql (.t 3) (.c (.str [115,112,97,99,101]))),none⟩,ja 4 17]
abbrev Tf:IL:=[⟨some 18,.val (.bin .str .eql (.t 3) (.c (.str [114,112,99]))),none⟩,ja 4 18]
abbrev Tg:IL:=[⟨some 19,.val (.bin .str .eql (.t 3) (.c (.str [115,116,114,101,97,109]))),none⟩,ja 4 19]
abbrev Th:IL:=[⟨some 20,.val (.bin .str .eql (.t 3) (.c (.str [114,101,116,117,114,110,115]))),none⟩,ja 4 20]
abbrev Ti:IL:=[⟨some 21,.val (.bin .str .eql (.t 3) (.c (.str [111,112,101,110]))),none⟩,ja 4 21]
abbrev Tj:IL:=[⟨some 22,.val (.bin .str .eql (.t 3) (.c (.str [116,114,117,101]))),none⟩,ja 4 22]
abbrev Tk:IL:=[⟨some 23,.val (.bin .str .eql (.t 3) (.c (.str [102,97,108,115,101]))),none⟩,ja 4 23]
abbrev Tl:IL:=[⟨some 24,.val (.bin .str .eql (.t 3) (.c (.str [110,97,110]))),none⟩,ja 4 24]
abbrev Tm:IL:=[⟨some 25,.val (.bin .str .eql (.t 3) (.c (.str [105,110,102]))),none⟩,ja 4 25]
abbrev Tn:IL:=[yb 2]
abbrev To:IL:=[je 2]
abbrev Qsk:RC:=jQ QgI (.seq (jQ QgJ (.block 0 (.seq (jQ QgK (.cond (.t 4) (.skip) (jQ QgL (.cond (.t 4) (.skip) (jQ QgM (.cond (.t 4) (.skip) (jQ QgN (.cond (.t 4) (.skip) (jQ QgO (.cond (.t 4) (.skip) (jQ QgP (.cond (.t 4) (.skip) (jQ QgQ (.cond (.t 4) (.skip) (jQ QgR (.cond (.t 4) (.skip) (jQ Ta (.cond (.t 4) (.skip) (jQ Tb (.cond (.t 4) (.skip) (jQ Tc (.cond (.t 4) (.skip) (jQ Td (.cond (.t 4) (.skip) (jQ Te (.cond (.t 4) (.skip) (jQ Tf (.cond (.t 4) (.skip) (jQ Tg (.cond (.t 4) (.skip) (jQ Th (.cond (.t 4) (.skip) (jQ Ti (.cond (.t 4) (.skip) (jQ Tj (.cond (.t 4) (.skip) (jQ Tk (.cond (.t 4) (.skip) (jQ Tl (.cond (.t 4) (.skip) (.reg Tm))))))))))))))))))))))))))))))))))))))))) (.cond (.t 4) (jQ Tn (.ret)) (.skip))))) (jQ To (.ret)))
abbrev Qsl:List RR:=[.tmp 2]
theorem Qsm:CT 169 26 Qsk Qsl:=ck Tryz.func169 Tryz.ntmps169 (by decide +kernel)
abbrev QgS:IL:=[je 2]
abbrev QgT:IL:=[ja 4 0,jk 5 0 4,ju 6 5 0,ja 7 6,jw 8 0 7,yw 9 0 8 7,yy 10 9 40 7,jq 11 7 10,ja 12 11,jw 13 0 12,⟨some 14,.val (.idx (.t 13) (.c (.int .i64 0))),(some (12,false))⟩,zg 15 202 14 12,zf 16 15 12,jw 17 16 12,jh 18 0 17,⟨some 19,.val (.idx (.t 18) (.c (.int .i64 0))),(some (17,true))⟩,HZ 20 203 19 17,yx 21 20 17,zo 22 17 21 12,jq 23 12 22]
abbrev QgU:IL:=[je 2]
abbrev QgV:IL:=[jd 3 1]
abbrev QgW:IL:=[ja 24 3,ja 25 0,jk 26 0 25,jr 27 24 26]
abbrev QgX:IL:=[ja 30 0,ja 31 3,DP 32 30 31,js 33 202 32,jy 34 33,ja 35 34,jh 36 0 35,jh 37 3 35,Nq 38 36 37 35,HZ 39 203 38 35,yx 40 39 35,ji 41 35 40,ja 42 41,jh 43 0 42,jh 44 3 42,Nq 45 43 44 42,⟨some 46,.val (.bin .num .neq (.t 45) (.c (.int .u8 95))),(some (42,true))⟩,ji 47 42 46,ja 48 47,jh 49 0 48,jh 50 3 48,Nq 51 49 50 48,⟨some 52,.val (.bin .num .lss (.t 51) (.c (.int .u8 48))),(some (48,true))⟩,jh 53 52 48,jw 54 0 53,jw 55 3 53,⟨some 56,.val (.idx (.t 54) (.t 55)),(some (53,false))⟩,⟨some 57,.val (.bin .num .gtr (.t 56) (.c (.int .u8 57))),(some (53,false))⟩,MV 58 53 57 48,ji 59 48 58]
abbrev QgY:IL:=[je 2]
abbrev QgZ:IL:=[ja 28 3,jn 29 28 1,ja 3 29]
abbrev VU:RC:=.seq (jQ QgW (jX 27 0)) (.seq (.block 1 (jQ QgX (.cond (.t 59) (jQ QgY (.ret)) (.skip)))) (.reg QgZ))
abbrev Qg0:IL:=[yb 2]
abbrev Qsn:RC:=jQ QgS (.seq (jQ QgT (.cond (.t 23) (jQ QgU (.ret)) (.skip))) (.seq (jQ QgV (.block 0 (.loop VU))) (jQ Qg0 (.ret))))
abbrev Qso:List RR:=[.tmp 2]
theorem Qsp:CT 170 60 Qsn Qso:=ck Tryz.func170 Tryz.ntmps170 (by decide +kernel)
abbrev Qg1:IL:=[jg 2 2 0,jd 4 0]
abbrev Qg2:IL:=[jd 5 0]
abbrev Qg3:IL:=[ja 6 5,jb 7 1 2,jc 8 7,jk 9 1 8,jr 10 6 9]
abbrev Qg4:IL:=[jb 13 1 2,jc 14 13,ja 15 5,jl 16 5 14 15,jb 17 0 16,jc 18 17,ja 19 1,yf 20 18 19]
abbrev Qg5:IL:=[ja 21 5,ja 4 21]
abbrev Qg6:IL:=[ja 11 5,jn 12 11 1,ja 5 12]
abbrev Qg7:RC:=.seq (jQ Qg3 (jX 10 0)) (.seq (.block 1 (jQ Qg4 (.cond (.t 20) (jQ Qg5 (.ret)) (.skip)))) (.reg Qg6))
abbrev Qg8:IL:=[jd 4 (-1)]
abbrev Qsq:RC:=jQ Qg1 (.seq (jQ Qg2 (.block 0 (.loop Qg7))) (jQ Qg8 (.ret)))
abbrev Qsr:List RR:=[.tmp 4]
theorem Qss:CT 171 22 Qsq Qsr:=ck Tryz.func171 Tryz.ntmps171 (by decide +kernel)
abbrev Qg9:IL:=[jg 2 2 0,jg 3 3 1,je 4]
abbrev Qha:IL:=[jb 5 0 2,jc 6 5,jb 7 0 3,jc 8 7,zq 9 6 8,ja 10 9,jf 11 1 2 10,jp 12 11 10,jf 13 1 3 10,jp 14 13 10,H2 15 12 14 10,ji 16 10 15,ja 17 16,jf 18 2 2 17,jp 19 18 17,jf 20 2 3 17,jp 21 20 17,UV 22 19 21 17,ji 23 17 22,ja 24 23,jf 25 3 2 24,jp 26 25 24,ya 27 1 26 24,jf 28 4 2 24,jp 29 28 24,ya 30 1 29 24,zi 31 27 30 24,jf 32 5 2 24,jp 33 32 24,ya 34 1 33 24,zi 35 31 34 24,jf 36 6 2 24,jp 37 36 24,ya 38 1 37 24,zi 39 35 38 24,jf 40 3 3 24,jp 41 40 24,ya 42 1 41 24,zi 43 39 42 24,jf 44 4 3 24,jp 45 44 24,ya 46 1 45 24,zi 47 43 46 24,jf 48 5 3 24,jp 49 48 24,ya 50 1 49 24,zi 51 47 50 24,jf 52 6 3 24,jp 53 52 24,ya 54 1 53 24,zi 55 51 54 24,za 56 55 0 24,ji 57 24 56,ja 4 57]
abbrev Qst:RC:=jQ Qg9 (jQ Qha (.ret))
abbrev Qsu:List RR:=[.tmp 4]
theorem Qsv:CT 172 58 Qst Qsu:=ck Tryz.func172 Tryz.ntmps172 (by decide +kernel)
abbrev Qhb:IL:=[jg 3 3 1,je 4]
abbrev Qhc:IL:=[ja 6 0,js 7 204 6,jy 8 7,ja 9 8,jm 10 0 3 9,jv 11 10 9,jw 12 0 9,zj 13 11 12 9,jq 14 9 13,ja 15 14,zz 16 7 3 15,zg 17 205 16 15,zf 18 17 15,jq 19 15 18]
abbrev Qhd:IL:=[je 4]
abbrev Qhe:IL:=[ja 20 0,js 21 206 20]
abbrev Qhf:IL:=[jb 22 1 3,jc 23 22,UW 24 23 0,ja 25 24,jf 26 2 3 25,jp 27 26 25,ya 28 0 27 25,yn 29 28 4096 25,ji 30 25 29,ja 31 30,jh 32 0 31,za 33 32 8 31,jh 34 33 31,jm 35 2 3 34,jv 36 35 34,zg 37 128 36 34,MV 38 34 37 31,ji 39 31 38,ja 4 39]
abbrev Qhg:IL:=[jb 40 2 3,jc 41 40,⟨some 42,.val (.bin .str .neq (.t 41) (.c (.str []))),none⟩]
abbrev Qhh:IL:=[je 4]
abbrev Qhi:IL:=[ja 43 0]
abbrev Qhj:IL:=[ju 45 43 1,ja 44 45]
abbrev Qhk:IL:=[jb 46 1 3,jc 47 46,⟨some 48,.val (.bin .num .leq (.t 47) (.c (.int .u64 1))),none⟩,ja 4 48]
abbrev Tp:IL:=[ju 50 43 2,ja 49 50]
abbrev Tq:IL:=[jb 51 1 3,jc 52 51,⟨some 53,.val (.cvi .i64 (.t 52)),none⟩,ja 5 53]
abbrev Tr:IL:=[ja 54 5,yd 55 54 (-2147483648),ja 56 55,jh 57 5 56,yn 58 57 2147483647 56,ji 59 56 58,ja 4 59]
abbrev Ts:IL:=[ju 61 43 4,ja 60 61]
abbrev Tt:IL:=[jb 62 1 3,jc 63 62,⟨some 64,.val (.bin .num .lss (.t 63) (.c (.int .u64 4294967296))),none⟩,ja 4 64]
abbrev Tu:IL:=[ju 66 43 9,ja 65 66]
abbrev Tv:IL:=[jb 67 1 3,jc 68 67,⟨some 69,.val (.bin .num .lss (.t 68) (.c (.int .u64 2147483648))),none⟩,ja 4 69]
abbrev Tw:IL:=[yb 4]
abbrev Qsw:RC:=jQ Qhb (.seq (jQ Qhc (.cond (.t 19) (jQ Qhd (.ret)) (.skip))) (.seq (jQ Qhe (.cond (.t 21) (jQ Qhf (.ret)) (.skip))) (.seq (jQ Qhg (.cond (.t 42) (jQ Qhh (.ret)) (.skip))) (.seq (jQ Qhi (.block 0 (jQ Qhj (.cond (.t 44) (jQ Qhk (.ret)) (jQ Tp (.cond (.t 49) (jQ Tq (jQ Tr (.ret))) (jQ Ts (.cond (.t 60) (jQ Tt (.ret)) (jQ Tu (.cond (.t 65) (jQ Tv (.ret)) (.skip))))))))))) (jQ Tw (.ret))))))
abbrev Qsx:List RR:=[.tmp 4]
theorem Qsy:CT 173 70 Qsw Qsx:=ck Tryz.func173 Tryz.ntmps173 (by decide +kernel)
abbrev Qhl:IL:=[jg 1 1 0,UU 2 2]
abbrev Qhm:IL:=[jb 3 0 1,jc 4 3,ju 5 4 6,ja 6 5,jf 7 1 1 6,jp 8 7 6,HZ 9 207 8 6,za 10 9 0 6,ji 11 6 10]
abbrev Qhn:IL:=[jb 12 1 1,⟨none,.store 1 (.t 12) (.c (.int .u64 9221120237041090560)),none⟩]
abbrev Qho:IL:=[jj 13 7 1,jo 7 2 13]
abbrev Qsz:RC:=jQ Qhl (.seq (jQ Qhm (.cond (.t 11) (.reg Qhn) (.skip))) (jQ Qho (.ret)))
abbrev QsA:List RR:=[.cell 2 (some 7)]
theorem QsB:CT 174 14 Qsz QsA:=ck Tryz.func174 Tryz.ntmps174 (by decide +kernel)
abbrev Qhp:IL:=[jd 4 0]
abbrev Qhq:IL:=[ja 6 0,jk 7 1 6,yr 8 7 8]
abbrev Qhr:IL:=[jd 4 3]
abbrev Qhs:IL:=[jd 5 0]
abbrev Qht:IL:=[ja 9 5,ja 10 0,jk 11 1 10,jr 12 9 11]
abbrev Qhu:IL:=[ja 15 0,ja 16 5,jl 17 8 15 16,jb 18 0 17,jc 19 18,js 20 208 19,ju 21 20 0]
abbrev Qhv:IL:=[jd 4 8]
abbrev Qhw:IL:=[ja 22 0,ja 23 5,jl 24 8 22 23,jb 25 0 24,jc 26 25,ja 27 1,jx 28 209 26 27,jy 29 28]
abbrev Qhx:IL:=[jd 4 1]
abbrev Tx:IL:=[ja 30 0,ja 31 5,jl 32 8 30 31,jj 33 8 32,js 34 210 33,jy 35 34]
abbrev Tz:IL:=[jd 4 12]
abbrev TA:IL:=[ja 36 5,yr 37 36 0,ja 38 37,jh 39 0 38,jh 40 5 38,yi 41 8 39 40 38,jf 42 0 41 38,yu 43 42 38,jh 44 0 38,jh 45 5 38,DK 46 45 1 38,yi 47 8 44 46 38,jf 48 0 47 38,yu 49 48 38,⟨some 50,.val (.bin .str .lss (.t 43) (.t 49)),(some (38,true))⟩,ji 51 38 50]
abbrev TB:IL:=[jd 4 11]
abbrev TC:IL:=[ja 52 5,yr 53 52 0,ja 54 53,jh 55 0 54,jh 56 5 54,yi 57 8 55 56 54,jf 58 0 57 54,yu 59 58 54,jh 60 0 54,jh 61 5 54,DK 62 61 1 54,yi 63 8 60 62 54,jf 64 0 63 54,yu 65 64 54,UV 66 59 65 54,ji 67 54 66]
abbrev TD:IL:=[jd 4 9]
abbrev Qhy:IL:=[ja 13 5,jn 14 13 1,ja 5 14]
abbrev Qhz:RC:=.seq (jQ Qht (jX 12 0)) (.seq (.block 1 (.seq (jQ Qhu (.cond (.t 21) (jQ Qhv (.ret)) (.skip))) (.seq (jQ Qhw (.cond (.t 29) (jQ Qhx (.ret)) (.skip))) (.seq (jQ Tx (.cond (.t 35) (jQ Tz (.ret)) (.skip))) (.seq (jD TA (.cond (.t 51) (jQ TB (.ret)) (.skip))) (jD TC (.cond (.t 67) (jQ TD (.ret)) (.skip)))))))) (.reg Qhy))
abbrev TE:IL:=[jd 4 0]
abbrev QsC:RC:=jQ Qhp (.seq (jQ Qhq (.cond (.t 8) (jQ Qhr (.ret)) (.skip))) (.seq (jQ Qhs (.block 0 (.loop Qhz))) (jQ TE (.ret))))
abbrev QsD:List RR:=[.tmp 4]
theorem QsE:CT 175 68 QsC QsD:=ck Tryz.func175 Tryz.ntmps175 (by decide +kernel)
abbrev QhA:IL:=[jd 2 0]
abbrev QhB:IL:=[jd 3 0]
abbrev QhC:IL:=[ja 5 3,ja 6 0,jk 7 0 6,jr 8 5 7]
abbrev QhD:IL:=[ja 9 0,ja 10 3,jx 11 211 9 10,ja 4 11]
abbrev QhE:IL:=[ja 12 4,ju 13 12 0]
abbrev QhF:IL:=[ja 14 3,ja 2 14]
abbrev QhG:IL:=[ja 15 3,ja 16 4,zp 17 15 16,ja 3 17]
abbrev QhH:RC:=.seq (jQ QhC (jX 8 0)) (.block 1 (jQ QhD (.seq (jQ QhE (.cond (.t 13) (jQ QhF (.ret)) (.skip))) (.reg QhG))))
abbrev QhI:IL:=[jd 2 (-1)]
abbrev QsF:RC:=jQ QhA (.seq (jQ QhB (.block 0 (.loop QhH))) (jQ QhI (.ret)))
abbrev QsG:List RR:=[.tmp 2]
theorem QsH:CT 176 18 QsF QsG:=ck Tryz.func176 Tryz.ntmps176 (by decide +kernel)
abbrev QhJ:IL:=[jd 4 0]
abbrev QhK:IL:=[ja 6 0,jk 7 1 6,jd 8 0]
abbrev QhL:IL:=[jr 9 8 7]
abbrev QhM:IL:=[ja 10 8,ja 5 10]
abbrev QhN:IL:=[ja 11 1,ja 12 0,ja 13 5,jl 14 3 12 13,jj 15 3 14,zv 16 11 15]
abbrev QhO:IL:=[ja 17 5,ja 4 17]
abbrev QhP:IL:=[jn 18 8 1,ja 8 18]
abbrev QhQ:RC:=jQ QhL (.seq (jX 9 0) (.seq (.block 1 (jQ QhM (jQ QhN (.cond (.t 16) (jQ QhO (.ret)) (.skip))))) (.reg QhP)))
abbrev QhR:IL:=[jd 4 (-1)]
abbrev QsI:RC:=jQ QhJ (.seq (jQ QhK (.block 0 (.loop QhQ))) (jQ QhR (.ret)))
abbrev QsJ:List RR:=[.tmp 4]
theorem QsK:CT 182 19 QsI QsJ:=ck Tryz.func182 Tryz.ntmps182 (by decide +kernel)
abbrev QhS:IL:=[jg 2 2 0,je 3]
abbrev QhT:IL:=[jb 4 0 2,jc 5 4,jc 6 1,⟨some 7,.val (.bin .num .leq (.t 5) (.t 6)),none⟩,ja 8 7,jp 9 1 8,jf 10 1 2 8,jp 11 10 8,US 12 9 11 8,ji 13 8 12,ja 3 13]
abbrev QsL:RC:=jQ QhS (jQ QhT (.ret))
abbrev QsM:List RR:=[.tmp 3]
theorem QsN:CT 184 14 QsL QsM:=ck Tryz.func184 Tryz.ntmps184 (by decide +kernel)
abbrev QhU:IL:=[je 6]
abbrev QhV:IL:=[ja 7 2,⟨some 8,.val (.bin .num .eql (.t 7) (.c (.int .i32 65533))),none⟩,ja 9 8,jh 10 0 9,jh 11 1 9,⟨some 12,.val (.slc none (.t 10) (some (.t 11)) none none),(some (9,true))⟩,⟨some 13,.call (.f 216) [(.t 12),(.c (.str [239,191,189]))],(some (9,true))⟩,yx 14 13 9,ji 15 9 14,ja 6 15]
abbrev QsO:RC:=jQ QhU (jQ QhV (.ret))
abbrev QsP:List RR:=[.tmp 6]
theorem QsQ:CT 185 16 QsO QsP:=ck Tryz.func185 Tryz.ntmps185 (by decide +kernel)
abbrev QhW:IL:=[⟨some 0,.val (.mov (.c (.nilm))),none⟩]
abbrev QhX:IL:=[⟨some 1,.mkm 1,none⟩,⟨some 2,.val (.build [.int .i64 0,.int .i64 0] [(0,1,(.c (.int .i64 1))),(1,1,(.c (.int .i64 126)))]),none⟩,⟨none,.mput (.t 1) (.c (.str [100,101,112,114,101,99,97,116,101,100])) (.t 2),none⟩,⟨some 3,.val (.build [.int .i64 0,.int .i64 0] [(0,1,(.c (.int .i64 7))),(1,1,(.c (.int .i64 126)))]),none⟩,⟨none,.mput (.t 1) (.c (.str [100,111,99])) (.t 3),none⟩,⟨some 4,.val (.build [.int .i64 0,.int .i64 0] [(0,1,(.c (.int .i64 7))),(1,1,(.c (.int .i64 84)))]),none⟩,⟨none,.mput (.t 1) (.c (.str [97,108,105,97,115])) (.t 4),none⟩,⟨some 5,.val (.build [.int .i64 0,.int .i64 0] [(0,1,(.c (.int .i64 4))),(1,1,(.c (.int .i64 84)))]),none⟩,⟨none,.mput (.t 1) (.c (.str [115,105,110,99,101])) (.t 5),none⟩,⟨some 6,.val (.build [.int .i64 0,.int .i64 0] [(0,1,(.c (.int .i64 4))),(1,1,(.c (.int .i64 84)))]),none⟩,⟨none,.mput (.t 1) (.c (.str [117,110,116,105,108])) (.t 6),none⟩,⟨some 7,.val (.build [.int .i64 0,.int .i64 0] [(0,1,(.c (.int .i64 3))),(1,1,(.c (.int .i64 4)))]),none⟩,⟨none,.mput (.t 1) (.c (.str [109,105,110])) (.t 7),none⟩,⟨some 8,.val (.build [.int .i64 0,.int .i64 0] [(0,1,(.c (.int .i64 3))),(1,1,(.c (.int .i64 4)))]),none⟩,⟨none,.mput (.t 1) (.c (.str [109,97,120])) (.t 8),none⟩,⟨some 9,.val (.build [.int .i64 0,.int .i64 0] [(0,1,(.c (.int .i64 4))),(1,1,(.c (.int .i64 4)))]),none⟩,⟨none,.mput (.t 1) (.c (.str [108,101,110,103,116,104])) (.t 9),none⟩,⟨some 10,.val (.build [.int .i64 0,.int .i64 0] [(0,1,(.c (.int .i64 1))),(1,1,(.c (.int .i64 4)))]),none⟩,⟨none,.mput (.t 1) (.c (.str [115,101,99,114,101,116])) (.t 10),none⟩,⟨some 11,.val (.build [.int .i64 0,.int .i64 0] [(0,1,(.c (.int .i64 1))),(1,1,(.c (.int .i64 64)))]),none⟩,⟨none,.mput (.t 1) (.c (.str [105,100,101,109,112,111,116,101,110,116])) (.t 11),none⟩,⟨some 12,.val (.build [.int .i64 0,.int .i64 0] [(0,1,(.c (.int .i64 4))),(1,1,(.c (.int .i64 64)))]),none⟩,⟨none,.mput (.t 1) (.c (.str [116,105,109,101,111,117,116])) (.t 12),none⟩,⟨some 13,.val (.build [.int .i64 0,.int .i64 0] [(0,1,(.c (.int .i64 7))),(1,1,(.c (.int .i64 64)))]),none⟩,⟨none,.mput (.t 1) (.c (.str [114,111,117,116,101])) (.t 13),none⟩,⟨some 14,.val (.build [.int .i64 0,.int .i64 0] [(0,1,(.c (.int .i64 7))),(1,1,(.c (.int .i64 34)))]),none⟩,⟨none,.mput (.t 1) (.c (.str [111,119,110,101,114])) (.t 14),none⟩,ja 15 1,ja 0 15]
abbrev QhY:RC:=jQ QhW (jQ QhX (.ret))
abbrev QhZ:List RR:=[.tmp 0]
theorem QsR:CT 186 16 QhY QhZ:=ck Tryz.func186 Tryz.ntmps186 (by decide +kernel)
abbrev Qh0:IL:=[jg 1 1 0,je 2]
abbrev Qh1:IL:=[jb 4 0 1,jc 5 4,js 6 217 5,ja 3 6]
abbrev Qh2:IL:=[ja 7 3,yo 8 7 0,ja 9 8,jh 10 3 9,jf 11 1 1 9,DL 12 7 11 9,YN 13 218 10 12 9,ji 14 9 13,ja 2 14]
abbrev QsS:RC:=jQ Qh0 (jQ Qh1 (jQ Qh2 (.ret)))
abbrev QsT:List RR:=[.tmp 2]
theorem QsU:CT 187 15 QsS QsT:=ck Tryz.func187 Tryz.ntmps187 (by decide +kernel)
abbrev Qh3:IL:=[jg 1 1 0,zn 2]
abbrev Qh4:IL:=[jb 3 1 1,jc 4 3,ja 2 4]
abbrev QsV:RC:=jQ Qh3 (jQ Qh4 (.ret))
abbrev QsW:List RR:=[.tmp 2]
theorem QsX:CT 190 5 QsV QsW:=ck Tryz.func190 Tryz.ntmps190 (by decide +kernel)
abbrev Qh5:IL:=[je 4]
abbrev Qh6:IL:=[jj 8 3 1,ja 9 0,jx 10 148 8 9,ja 7 10,jz 11 7 0,jz 12 7 1,ze 5 5,jo 5 5 11,ja 6 12]
abbrev Qh7:IL:=[ja 13 6,ja 14 13,jp 15 2 14,jh 16 0 14,⟨some 17,.val (.mget false (.bool false) (.t 15) (.t 16)),(some (14,true))⟩,yx 18 17 14,ji 19 14 18,ja 4 19]
abbrev QsY:RC:=jQ Qh5 (jQ Qh6 (jQ Qh7 (.ret)))
abbrev QsZ:List RR:=[.tmp 4]
theorem Qs0:CT 195 20 QsY QsZ:=ck Tryz.func195 Tryz.ntmps195 (by decide +kernel)
abbrev Qh8:IL:=[jg 4 4 0,je 5]
abbrev Qh9:IL:=[jc 6 1,yj 7 0 4 3 4,MU 8 6 7,jc 9 1,jc 10 2,jc 11 3,jl 12 3 10 11,ym 13 3 12,MU 14 9 13,yf 15 8 14,ja 5 15]
abbrev Qs1:RC:=jQ Qh8 (jD Qh9 (.ret))
abbrev Qs2:List RR:=[.tmp 5]
theorem Qs3:CT 196 16 Qs1 Qs2:=ck Tryz.func196 Tryz.ntmps196 (by decide +kernel)
abbrev Qia:IL:=[je 2]
abbrev Qib:IL:=[ja 3 0,Nr 4 3 97,ja 5 4,jh 6 0 5,Ns 7 6 122 5,ji 8 5 7,ja 2 8]
abbrev Qs4:RC:=jQ Qia (jQ Qib (.ret))
abbrev Qs5:List RR:=[.tmp 2]
theorem Qs6:CT 202 9 Qs4 Qs5:=ck Tryz.func202 Tryz.ntmps202 (by decide +kernel)
abbrev Qic:IL:=[je 2]
abbrev Qid:IL:=[ja 3 0,Nr 4 3 65,ja 5 4,jh 6 0 5,Ns 7 6 90 5,ji 8 5 7,ja 2 8]
abbrev Qs7:RC:=jQ Qic (jQ Qid (.ret))
abbrev Qs8:List RR:=[.tmp 2]
theorem Qs9:CT 203 9 Qs7 Qs8:=ck Tryz.func203 Tryz.ntmps203 (by decide +kernel)
abbrev Qie:IL:=[je 2]
abbrev Qif:IL:=[ja 3 0,yd 4 3 1,ja 5 4,jh 6 0 5,yn 7 6 9 5,ji 8 5 7,ja 2 8]
abbrev Qta:RC:=jQ Qie (jQ Qif (.ret))
abbrev Qtb:List RR:=[.tmp 2]
theorem Qtc:CT 204 9 Qta Qtb:=ck Tryz.func204 Tryz.ntmps204 (by decide +kernel)
abbrev Qig:IL:=[jg 1 1 0,je 2]
abbrev Qih:IL:=[jb 3 3 1,jc 4 3,jk 5 1 4,ju 6 5 0,ja 7 6,jf 8 4 1 7,jp 9 8 7,ya 10 1 9 7,za 11 10 0 7,ji 12 7 11,ja 13 12,jf 14 5 1 13,jp 15 14 13,ya 16 1 15 13,za 17 16 0 13,ji 18 13 17,ja 19 18,jf 20 6 1 19,jp 21 20 19,ya 22 1 21 19,za 23 22 0 19,ji 24 19 23,ja 2 24]
abbrev Qtd:RC:=jQ Qig (jQ Qih (.ret))
abbrev Qte:List RR:=[.tmp 2]
theorem Qtf:CT 205 25 Qtd Qte:=ck Tryz.func205 Tryz.ntmps205 (by decide +kernel)
abbrev Qii:IL:=[je 2]
abbrev Qij:IL:=[ja 3 0,ju 4 3 7,ja 5 4,jw 6 0 5,zl 7 6 8 5,jq 8 5 7,ja 2 8]
abbrev Qtg:RC:=jQ Qii (jQ Qij (.ret))
abbrev Qth:List RR:=[.tmp 2]
theorem Qti:CT 206 9 Qtg Qth:=ck Tryz.func206 Tryz.ntmps206 (by decide +kernel)
abbrev Qik:IL:=[jd 2 0]
abbrev Qil:IL:=[ja 4 0,⟨some 5,.val (.bin .num .rem (.t 4) (.c (.int .u64 9223372036854775808))),none⟩,ja 3 5]
abbrev Qim:IL:=[ja 7 3,⟨some 8,.val (.bin .num .gtr (.t 7) (.c (.int .u64 9218868437227405312))),none⟩,ja 6 8]
abbrev Qin:IL:=[jd 2 0]
abbrev Qio:IL:=[ja 10 3,UW 11 10 9218868437227405312,ja 9 11]
abbrev Qip:IL:=[jd 2 1]
abbrev Qiq:IL:=[ja 13 3,UW 14 13 0,ja 12 14]
abbrev Qir:IL:=[jd 2 2]
abbrev Qis:IL:=[ja 16 3,⟨some 17,.val (.bin .num .lss (.t 16) (.c (.int .u64 4503599627370496))),none⟩,ja 15 17]
abbrev Qit:IL:=[jd 2 3]
abbrev TF:IL:=[jd 2 4]
abbrev Qtj:RC:=jQ Qik (jQ Qil (.seq (.block 0 (jQ Qim (.cond (.t 6) (jQ Qin (.ret)) (jQ Qio (.cond (.t 9) (jQ Qip (.ret)) (jQ Qiq (.cond (.t 12) (jQ Qir (.ret)) (jQ Qis (.cond (.t 15) (jQ Qit (.ret)) (.skip)))))))))) (jQ TF (.ret))))
abbrev Qtk:List RR:=[.tmp 2]
theorem Qtl:CT 207 18 Qtj Qtk:=ck Tryz.func207 Tryz.ntmps207 (by decide +kernel)
abbrev Qiu:IL:=[jd 2 0]
abbrev Qiv:IL:=[ja 3 0]
abbrev Qiw:IL:=[⟨some 5,.val (.bin .str .eql (.t 3) (.c (.str [100,101,112,114,101,99,97,116,101,100]))),none⟩,ja 4 5]
abbrev Qix:IL:=[⟨some 6,.val (.bin .str .eql (.t 3) (.c (.str [115,101,99,114,101,116]))),none⟩,ja 4 6]
abbrev Qiy:IL:=[⟨some 7,.val (.bin .str .eql (.t 3) (.c (.str [105,100,101,109,112,111,116,101,110,116]))),none⟩,ja 4 7]
abbrev Qiz:IL:=[jd 2 1]
abbrev QiA:IL:=[⟨some 9,.val (.bin .str .eql (.t 3) (.c (.str [100,111,99]))),none⟩,ja 8 9]
abbrev QiB:IL:=[⟨some 10,.val (.bin .str .eql (.t 3) (.c (.str [97,108,105,97,115]))),none⟩,ja 8 10]
abbrev QiC:IL:=[⟨some 11,.val (.bin .str .eql (.t 3) (.c (.str [114,111,117,116,101]))),none⟩,ja 8 11]
abbrev QiD:IL:=[⟨some 12,.val (.bin .str .eql (.t 3) (.c (.str [111,119,110,101,114]))),none⟩,ja 8 12]
abbrev TG:IL:=[jd 2 7]
abbrev TH:IL:=[⟨some 14,.val (.bin .str .eql (.t 3) (.c (.str [115,105,110,99,101]))),none⟩,ja 13 14]
abbrev TI:IL:=[⟨some 15,.val (.bin .str .eql (.t 3) (.c (.str [117,110,116,105,108]))),none⟩,ja 13 15]
abbrev TJ:IL:=[⟨some 16,.val (.bin .str .eql (.t 3) (.c (.str [108,101,110,103,116,104]))),none⟩,ja 13 16]
abbrev TK:IL:=[⟨some 17,.val (.bin .str .eql (.t 3) (.c (.str [116,105,109,101,111,117,116]))),none⟩,ja 13 17]
abbrev TL:IL:=[jd 2 4]
abbrev TM:IL:=[⟨some 19,.val (.bin .str .eql (.t 3) (.c (.str [109,105,110]))),none⟩,ja 18 19]
abbrev TN:IL:=[⟨some 20,.val (.bin .str .eql (.t 3) (.c (.str [109,97,120]))),none⟩,ja 18 20]
abbrev TO:IL:=[jd 2 3]
abbrev TP:IL:=[jd 2 0]
abbrev QiE:RC:=jQ Qiu (.seq (jQ Qiv (.block 0 (.seq (jQ Qiw (.cond (.t 4) (.skip) (jQ Qix (.cond (.t 4) (.skip) (.reg Qiy))))) (.cond (.t 4) (jQ Qiz (.ret)) (.seq (jQ QiA (.cond (.t 8) (.skip) (jQ QiB (.cond (.t 8) (.skip) (jQ QiC (.cond (.t 8) (.skip) (.reg QiD))))))) (.cond (.t 8) (jQ TG (.ret)) (.seq (jQ TH (.cond (.t 13) (.skip) (jQ TI (.cond (.t 13) (.skip) (jQ TJ (.cond (.t 13) (.skip) (.reg TK))))))) (.cond (.t 13) (jQ TL (.ret)) (.seq (jQ TM (.cond (.t 18) (.skip) (.reg TN))) (.cond (.t 18) (jQ TO (.ret)) (.skip))))))))))) (jQ TP (.ret)))
abbrev QiF:List RR:=[.tmp 2]
theorem QiG:CT 208 21 QiE QiF:=ck Tryz.func208 Tryz.ntmps208 (by decide +kernel)
abbrev QiH:IL:=[je 4]
abbrev QiI:IL:=[ja 5 0]
abbrev QiJ:IL:=[⟨some 7,.val (.bin .str .eql (.t 5) (.c (.str [100,101,112,114,101,99,97,116,101,100]))),none⟩,ja 6 7]
abbrev QiK:IL:=[⟨some 8,.val (.bin .str .eql (.t 5) (.c (.str [100,111,99]))),none⟩,ja 6 8]
abbrev QiL:IL:=[ja 9 1,yd 10 9 1,ja 11 10,jh 12 1 11,yn 13 12 6 11,ji 14 11 13,ja 4 14]
abbrev QiM:IL:=[⟨some 16,.val (.bin .str .eql (.t 5) (.c (.str [97,108,105,97,115]))),none⟩,ja 15 16]
abbrev QiN:IL:=[⟨some 17,.val (.bin .str .eql (.t 5) (.c (.str [115,105,110,99,101]))),none⟩,ja 15 17]
abbrev QiO:IL:=[⟨some 18,.val (.bin .str .eql (.t 5) (.c (.str [117,110,116,105,108]))),none⟩,ja 15 18]
abbrev QiP:IL:=[ja 19 1,ju 20 19 2,ja 21 20,jw 22 1 21,zl 23 22 4 21,jq 24 21 23,ja 25 24,jw 26 1 25,zl 27 26 6 25,jq 28 25 27,ja 4 28]
abbrev QiQ:IL:=[⟨some 30,.val (.bin .str .eql (.t 5) (.c (.str [109,105,110]))),none⟩,ja 29 30]
abbrev TQ:IL:=[⟨some 31,.val (.bin .str .eql (.t 5) (.c (.str [109,97,120]))),none⟩,ja 29 31]
abbrev TR:IL:=[⟨some 32,.val (.bin .str .eql (.t 5) (.c (.str [108,101,110,103,116,104]))),none⟩,ja 29 32]
abbrev TS:IL:=[⟨some 33,.val (.bin .str .eql (.t 5) (.c (.str [115,101,99,114,101,116]))),none⟩,ja 29 33]
abbrev TT:IL:=[ja 34 1,ju 35 34 2,ja 4 35]
abbrev TU:IL:=[⟨some 37,.val (.bin .str .eql (.t 5) (.c (.str [105,100,101,109,112,111,116,101,110,116]))),none⟩,ja 36 37]
abbrev TV:IL:=[⟨some 38,.val (.bin .str .eql (.t 5) (.c (.str [116,105,109,101,111,117,116]))),none⟩,ja 36 38]
abbrev TW:IL:=[⟨some 39,.val (.bin .str .eql (.t 5) (.c (.str [114,111,117,116,101]))),none⟩,ja 36 39]
abbrev TX:IL:=[ja 40 1,ju 41 40 6,ja 4 41]
abbrev TY:IL:=[ja 42 1,ju 43 42 1,ja 44 43,jw 45 1 44,zl 46 45 5 44,jq 47 44 46,ja 4 47]
abbrev QiR:RC:=jQ QiH (.seq (jQ QiI (.block 0 (.seq (jQ QiJ (.cond (.t 6) (.skip) (.reg QiK))) (.cond (.t 6) (jQ QiL (.ret)) (.seq (jQ QiM (.cond (.t 15) (.skip) (jQ QiN (.cond (.t 15) (.skip) (.reg QiO))))) (.cond (.t 15) (jQ QiP (.ret)) (.seq (jQ QiQ (.cond (.t 29) (.skip) (jQ TQ (.cond (.t 29) (.skip) (jQ TR (.cond (.t 29) (.skip) (.reg TS))))))) (.cond (.t 29) (jQ TT (.ret)) (.seq (jQ TU (.cond (.t 36) (.skip) (jQ TV (.cond (.t 36) (.skip) (.reg TW))))) (.cond (.t 36) (jQ TX (.ret)) (.skip))))))))))) (jQ TY (.ret)))
abbrev QiS:List RR:=[.tmp 4]
theorem Qtm:CT 209 48 QiR QiS:=ck Tryz.func209 Tryz.ntmps209 (by decide +kernel)
abbrev QiT:IL:=[jg 1 1 0,je 2]
abbrev QiU:IL:=[jb 4 0 1,jc 5 4,js 6 208 5,ja 3 6]
abbrev QiV:IL:=[ja 7 3,yo 8 7 0,ja 9 8,jf 10 1 1 9,jf 11 0 10 9,jp 12 11 9,jh 13 3 9,H2 14 12 13 9,ji 15 9 14,ja 16 15,jh 17 3 16,jf 18 1 1 16,DL 19 7 18 16,YN 20 173 17 19 16,ji 21 16 20,ja 2 21]
abbrev Qtn:RC:=jQ QiT (jQ QiU (jQ QiV (.ret)))
abbrev Qto:List RR:=[.tmp 2]
theorem Qtp:CT 210 22 Qtn Qto:=ck Tryz.func210 Tryz.ntmps210 (by decide +kernel)
def VV:IL:=[jd 4 0]
def VW:IL:=[ja 6 0,ja 7 1,DP 8 6 7,ja 5 8]
def VX:IL:=[ja 10 5,⟨some 11,.val (.bin .num .lss (.t 10) (.c (.int .u8 128))),none⟩,ja 9 11]
def VY:IL:=[jd 4 1]
def GW:IL:=[ja 13 5,Nr 14 13 194,ja 15 14,jh 16 5 15,Ns 17 16 223 15,ji 18 15 17,ja 19 18,jh 20 0 19,jh 21 1 19,zs 22 21 1 19,H3 23 231 20 22 1 19,ji 24 19 23,ja 12 24]
def VZ:IL:=[jd 4 2]
def GX:IL:=[ja 26 5,Np 27 26 224,ja 28 27,jh 29 0 28,jh 30 1 28,zs 31 30 1 28,⟨some 32,.call (.f 232) [(.t 29),(.t 31),(.c (.int .u8 160)),(.c (.int .u8 191))],(some (28,true))⟩,ji 33 28 32,ja 34 33,jh 35 0 34,jh 36 1 34,zs 37 36 2 34,H3 38 231 35 37 1 34,ji 39 34 38,ja 25 39]
def V1:IL:=[jd 4 3]
def GY:IL:=[ja 41 5,Np 42 41 237,ja 43 42,jh 44 0 43,jh 45 1 43,zs 46 45 1 43,⟨some 47,.call (.f 232) [(.t 44),(.t 46),(.c (.int .u8 128)),(.c (.int .u8 159))],(some (43,true))⟩,ji 48 43 47,ja 49 48,jh 50 0 49,jh 51 1 49,zs 52 51 2 49,H3 53 231 50 52 1 49,ji 54 49 53,ja 40 54]
def V2:IL:=[jd 4 3]
def Uo:IL:=[ja 56 5,Nr 57 56 225,ja 58 57,jh 59 5 58,Ns 60 59 239 58,ji 61 58 60,ja 62 61,jh 63 5 62,⟨some 64,.val (.bin .num .neq (.t 63) (.c (.int .u8 237))),(some (62,true))⟩,ji 65 62 64,ja 66 65,jh 67 0 66,jh 68 1 66,zs 69 68 1 66,H3 70 231 67 69 2 66,ji 71 66 70,ja 55 71]
def Fc:IL:=[jd 4 3]
def Uq:IL:=[ja 73 5,Np 74 73 240,ja 75 74,jh 76 0 75,jh 77 1 75,zs 78 77 1 75,⟨some 79,.call (.f 232) [(.t 76),(.t 78),(.c (.int .u8 144)),(.c (.int .u8 191))],(some (75,true))⟩,ji 80 75 79,ja 81 80,jh 82 0 81,jh 83 1 81,zs 84 83 2 81,H3 85 231 82 84 2 81,ji 86 81 85,ja 72 86]
def Fe:IL:=[jd 4 4]
def Ur:IL:=[ja 88 5,Nr 89 88 241,ja 90 89,jh 91 5 90,Ns 92 91 243 90,ji 93 90 92,ja 94 93,jh 95 0 94,jh 96 1 94,zs 97 96 1 94,H3 98 231 95 97 3 94,ji 99 94 98,ja 87 99]
def Ff:IL:=[jd 4 4]
def Us:IL:=[ja 101 5,Np 102 101 244,ja 103 102,jh 104 0 103,jh 105 1 103,zs 106 105 1 103,⟨some 107,.call (.f 232) [(.t 104),(.t 106),(.c (.int .u8 128)),(.c (.int .u8 143))],(some (103,true))⟩,ji 108 103 107,ja 109 108,jh 110 0 109,jh 111 1 109,zs 112 111 2 109,H3 113 231 110 112 2 109,ji 114 109 113,ja 100 114]
def Fg:IL:=[jd 4 4]
def Fh:IL:=[jd 4 0]
def QiW:RC:=jQ VV (jQ VW (.seq (.block 0 (jQ VX (.cond (.t 9) (jQ VY (.ret)) (jQ GW (.cond (.t 12) (jQ VZ (.ret)) (jQ GX (.cond (.t 25) (jQ V1 (.ret)) (jQ GY (.cond (.t 40) (jQ V2 (.ret)) (jQ Uo (.cond (.t 55) (jQ Fc (.ret)) (jQ Uq (.cond (.t 72) (jQ Fe (.ret)) (jQ Ur (.cond (.t 87) (jQ Ff (.ret)) (jQ Us (.cond (.t 100) (jQ Fg (.ret)) (.skip)))))))))))))))))) (jQ Fh (.ret))))
def QiX:List RR:=[.tmp 4]
theorem Qtq:CT 211 115 QiW QiX:=ck Tryz.func211 Tryz.ntmps211 (by decide +kernel)
abbrev QiY:IL:=[jd 4 0]
abbrev QiZ:IL:=[ja 5 0,ja 6 1,jx 7 236 5 6,ja 4 7]
abbrev Qtr:RC:=jQ QiY (jQ QiZ (.ret))
abbrev Qts:List RR:=[.tmp 4]
theorem Qtt:CT 214 8 Qtr Qts:=ck Tryz.func214 Tryz.ntmps214 (by decide +kernel)
abbrev Qi0:IL:=[je 4]
abbrev Qi1:IL:=[ja 5 0,ja 6 1,jx 7 237 5 6,ja 4 7]
abbrev Qtu:RC:=jQ Qi0 (jQ Qi1 (.ret))
abbrev Qtv:List RR:=[.tmp 4]
theorem Qtw:CT 216 8 Qtu Qtv:=ck Tryz.func216 Tryz.ntmps216 (by decide +kernel)
abbrev Qi2:IL:=[jd 2 0]
abbrev Qi3:IL:=[⟨some 3,.call (.f 186) [],none⟩,ja 4 0,⟨some 5,.val (.mget false (.agg [.int .i64 0,.int .i64 0]) (.t 3) (.t 4)),none⟩,⟨some 6,.val (.fld 0 none (.t 5)),none⟩,ja 2 6]
abbrev Qtx:RC:=jQ Qi2 (jQ Qi3 (.ret))
abbrev Qty:List RR:=[.tmp 2]
theorem Qtz:CT 217 7 Qtx Qty:=ck Tryz.func217 Tryz.ntmps217 (by decide +kernel)
abbrev Qi4:IL:=[jg 3 3 1,je 4]
abbrev Qi5:IL:=[ja 5 0,js 6 144 5,jy 7 6,ja 8 7,jm 9 0 3 8,jv 10 9 8,jw 11 0 8,zj 12 10 11 8,jq 13 8 12,ja 14 13,zz 15 7 3 14,zg 16 238 15 14,zf 17 16 14,jq 18 14 17,ja 19 18,jw 20 0 19,jm 21 1 3 19,jv 22 21 19,zx 23 239 20 22 19,zf 24 23 19,jq 25 19 24,ja 26 25,jm 27 2 3 26,jv 28 27 26,yw 29 0 28 26,yy 30 29 4096 26,jq 31 26 30]
abbrev Qi6:IL:=[je 4]
abbrev Qi7:IL:=[ja 32 0,yo 33 32 7,ja 34 33,jm 35 2 3 34,jv 36 35 34,zg 37 89 36 34,jq 38 34 37,ja 4 38]
abbrev QtA:RC:=jQ Qi4 (.seq (jQ Qi5 (.cond (.t 31) (jQ Qi6 (.ret)) (.skip))) (jQ Qi7 (.ret)))
abbrev QtB:List RR:=[.tmp 4]
theorem QtC:CT 218 39 QtA QtB:=ck Tryz.func218 Tryz.ntmps218 (by decide +kernel)
abbrev Qi8:IL:=[jg 4 4 0,je 5]
abbrev Qi9:IL:=[jc 6 1,yj 7 0 4 16 4,MU 8 6 7,jc 9 1,jc 10 2,jc 11 3,jl 12 16 10 11,ym 13 16 12,MU 14 9 13,yf 15 8 14,ja 5 15]
abbrev QtD:RC:=jQ Qi8 (jD Qi9 (.ret))
abbrev QtE:List RR:=[.tmp 5]
theorem QtF:CT 220 16 QtD QtE:=ck Tryz.func220 Tryz.ntmps220 (by decide +kernel)
abbrev Qja:IL:=[jg 2 2 0,jg 3 3 1,zm 4 4,je 5]
abbrev Qjb:IL:=[jb 7 1 2,jc 8 7,zu 9 241 3,ye 10 107 8 9,ja 6 10]
abbrev Qjc:IL:=[ja 11 6,yl 12 11 0]
abbrev Qjd:IL:=[⟨some 13,.val (.build [.str [],.bool false,.nils,.nils,.nils] []),none⟩,jo 5 4 13,je 5]
abbrev Qje:IL:=[jb 14 1 2,jc 15 14,ja 16 6,jl 17 5 15 16,jj 18 5 17,jo 5 4 18,yb 5]
abbrev QtG:RC:=jQ Qja (jQ Qjb (.seq (jQ Qjc (.cond (.t 12) (jQ Qjd (.ret)) (.skip))) (jQ Qje (.ret))))
abbrev QtH:List RR:=[.cell 4 (some 5),.tmp 5]
theorem QtI:CT 221 19 QtG QtH:=ck Tryz.func221 Tryz.ntmps221 (by decide +kernel)
abbrev Qjf:IL:=[jg 2 2 0,je 3]
abbrev Qjg:IL:=[jb 4 1 2,jc 5 4,jb 6 6 1,jc 7 6,yf 8 5 7,ja 3 8]
abbrev QtJ:RC:=jQ Qjf (jQ Qjg (.ret))
abbrev QtK:List RR:=[.tmp 3]
theorem QtL:CT 222 9 QtJ QtK:=ck Tryz.func222 Tryz.ntmps222 (by decide +kernel)
abbrev Qjh:IL:=[jg 2 2 0,je 3]
abbrev Qji:IL:=[jb 4 6 2,jc 5 4,jb 6 6 1,jc 7 6,yf 8 5 7,ja 3 8]
abbrev QtM:RC:=jQ Qjh (jQ Qji (.ret))
abbrev QtN:List RR:=[.tmp 3]
theorem QtO:CT 223 9 QtM QtN:=ck Tryz.func223 Tryz.ntmps223 (by decide +kernel)
abbrev Qjj:IL:=[jg 1 1 0,UU 2 2]
abbrev Qjk:IL:=[jb 3 0 1,jc 4 3,ju 5 4 6,ja 6 5,jf 7 1 1 6,jp 8 7 6,HZ 9 242 8 6,za 10 9 0 6,ji 11 6 10]
abbrev Qjl:IL:=[jb 12 1 1,⟨none,.store 1 (.t 12) (.c (.int .u64 9221120237041090560)),none⟩]
abbrev Qjm:IL:=[jj 13 7 1,jo 7 2 13]
abbrev QtP:RC:=jQ Qjj (.seq (jQ Qjk (.cond (.t 11) (.reg Qjl) (.skip))) (jQ Qjm (.ret)))
abbrev QtQ:List RR:=[.cell 2 (some 7)]
theorem QtR:CT 225 14 QtP QtQ:=ck Tryz.func225 Tryz.ntmps225 (by decide +kernel)
abbrev Qjn:IL:=[jg 2 2 0,je 3]
abbrev Qjo:IL:=[jb 4 1 2,jc 5 4,⟨some 6,.val (.cvi .u64 (.t 5)),none⟩,jb 7 8 1,jb 8 1 7,jc 9 8,zq 10 6 9,ja 3 10]
abbrev QtS:RC:=jQ Qjn (jQ Qjo (.ret))
abbrev QtT:List RR:=[.tmp 3]
theorem QtU:CT 226 11 QtS QtT:=ck Tryz.func226 Tryz.ntmps226 (by decide +kernel)
abbrev Qjp:IL:=[je 6]
abbrev Qjq:IL:=[jd 7 0]
abbrev Qjr:IL:=[ja 8 7,ja 9 2,jr 10 8 9]
abbrev Qjs:IL:=[ja 13 0,ja 14 1,ja 15 7,zp 16 14 15,⟨some 17,.call (.f 232) [(.t 13),(.t 16),(.c (.int .u8 128)),(.c (.int .u8 191))],none⟩,jy 18 17]
abbrev Qjt:IL:=[je 6]
abbrev Qju:IL:=[ja 11 7,jn 12 11 1,ja 7 12]
abbrev Qjv:RC:=.seq (jQ Qjr (jX 10 0)) (.seq (.block 1 (jQ Qjs (.cond (.t 18) (jQ Qjt (.ret)) (.skip)))) (.reg Qju))
abbrev Qjw:IL:=[yb 6]
abbrev QtV:RC:=jQ Qjp (.seq (jQ Qjq (.block 0 (.loop Qjv))) (jQ Qjw (.ret)))
abbrev QtW:List RR:=[.tmp 6]
theorem QtX:CT 231 19 QtV QtW:=ck Tryz.func231 Tryz.ntmps231 (by decide +kernel)
abbrev Qjx:IL:=[je 8]
abbrev Qjy:IL:=[ja 9 1,ja 10 0,jk 11 0 10,jr 12 9 11,ja 13 12,jh 14 0 13,jh 15 1 13,Nq 16 14 15 13,jh 17 2 13,⟨some 18,.val (.bin .num .geq (.t 16) (.t 17)),(some (13,true))⟩,ji 19 13 18,ja 20 19,jh 21 0 20,jh 22 1 20,Nq 23 21 22 20,jh 24 3 20,US 25 23 24 20,ji 26 20 25,ja 8 26]
abbrev QtY:RC:=jQ Qjx (jQ Qjy (.ret))
abbrev QtZ:List RR:=[.tmp 8]
theorem Qt0:CT 232 27 QtY QtZ:=ck Tryz.func232 Tryz.ntmps232 (by decide +kernel)
def V3:IL:=[jd 4 0]
def V4:IL:=[ja 14 1,jk 15 0 14,ja 5 15]
def V5:IL:=[ja 17 5,ju 18 17 0,ja 19 18,jw 20 1 19,jw 21 0 19,⟨some 22,.val (.bin .str .eql (.t 20) (.t 21)),(some (19,false))⟩,jq 23 19 22,ja 16 23]
def V6:IL:=[jd 4 0]
def V7:IL:=[ja 25 5,ju 26 25 1,ja 24 26]
def V8:IL:=[ja 27 0,ja 28 1,⟨some 29,.val (.idx (.t 28) (.c (.int .i64 0))),none⟩,jx 30 246 27 29,ja 4 30]
def V9:IL:=[ja 32 5,ja 33 0,jk 34 0 33,⟨some 35,.val (.bin .num .geq (.t 32) (.t 34)),none⟩,ja 31 35]
def Ca:IL:=[jd 4 (-1)]
def Cb:IL:=[ja 45 0,ja 46 1,jx 47 247 45 46,ja 4 47]
def TZ:IL:=[ja 48 1,⟨some 49,.val (.idx (.t 48) (.c (.int .i64 0))),none⟩,ja 6 49]
def T0:IL:=[ja 50 1,⟨some 51,.val (.idx (.t 50) (.c (.int .i64 1))),none⟩,ja 7 51]
def T1:IL:=[jd 8 0]
def T2:IL:=[ja 52 0,jk 53 0 52,ja 54 5,⟨some 55,.val (.bin .num .sub (.t 53) (.t 54)),none⟩,jn 56 55 1,ja 9 56]
def T3:IL:=[jd 10 0]
def T4:IL:=[ja 57 8,ja 58 9,jr 59 57 58]
def T5:IL:=[ja 60 0,ja 61 8,DP 62 60 61,ja 63 6,⟨some 64,.val (.bin .num .neq (.t 62) (.t 63)),none⟩]
def T6:IL:=[ja 65 0,ja 66 8,jn 67 66 1,ja 68 9,⟨some 69,.val (.slc none (.t 65) (some (.t 67)) (some (.t 68)) none),none⟩,ja 70 6,jx 71 246 69 70,ja 11 71]
def T7:IL:=[ja 72 11,yl 73 72 0]
def T8:IL:=[jd 4 (-1)]
def T9:IL:=[ja 74 8,ja 75 11,jn 76 75 1,zp 77 74 76,ja 8 77]
def Aa:IL:=[ja 78 0,ja 79 8,jn 80 79 1,DP 81 78 80,ja 82 7,zq 83 81 82,ja 84 83,jh 85 0 84,jh 86 8 84,jh 87 8 84,jh 88 5 84,zi 89 87 88 84,⟨some 90,.val (.slc none (.t 85) (some (.t 86)) (some (.t 89)) none),(some (84,true))⟩,jh 91 1 84,UV 92 90 91 84,ji 93 84 92]
def Ab:IL:=[ja 94 8,ja 4 94]
def Ac:IL:=[ja 95 8,jn 96 95 1,ja 8 96]
def Ad:IL:=[ja 97 10,jn 98 97 1,ja 10 98]
def Ae:IL:=[ja 108 0,ja 109 8,No 110 108 109,ja 111 1,jx 112 247 110 111,ja 12 112]
def Af:IL:=[ja 113 12,yd 114 113 0]
def Ag:IL:=[ja 115 12,ja 116 8,zp 117 115 116,ja 4 117]
def Ah:IL:=[jd 4 (-1)]
def Ai:IL:=[ja 133 0,ja 134 8,No 135 133 134,ja 136 1,jx 137 249 135 136,ja 13 137]
def Aj:IL:=[ja 138 13,yl 139 138 0]
def Ak:IL:=[jd 4 (-1)]
def Al:IL:=[ja 140 8,ja 141 13,zp 142 140 141,ja 4 142]
def Qjz:RC:=.seq (jQ T4 (jX 59 1)) (.block 2 (.seq (jQ T5 (.cond (.t 64) (jQ T6 (.seq (jQ T7 (.cond (.t 73) (jQ T8 (.ret)) (.skip))) (.reg T9))) (.skip))) (.seq (jQ Aa (.cond (.t 93) (jQ Ab (.ret)) (.skip))) (jQ Ac (jQ Ad (.seq (.no) (.cond (.t 107) (jQ Ae (.seq (jQ Af (.cond (.t 114) (jQ Ag (.ret)) (.skip))) (jQ Ah (.ret)))) (.seq (.no) (.cond (.t 132) (jQ Ai (.seq (jQ Aj (.cond (.t 139) (jQ Ak (.ret)) (.skip))) (jQ Al (.ret)))) (.skip))))))))))
def An:IL:=[jd 4 (-1)]
def Mi:RC:=jQ V3 (jQ V4 (.seq (.block 0 (jQ V5 (.cond (.t 16) (jQ V6 (.ret)) (jQ V7 (.cond (.t 24) (jQ V8 (.ret)) (jQ V9 (.cond (.t 31) (jQ Ca (.ret)) (.seq (.no) (.cond (.t 36) (jQ Cb (.ret)) (.skip)))))))))) (jQ TZ (jQ T0 (jQ T1 (jQ T2 (jQ T3 (.seq (.block 1 (.loop Qjz)) (jQ An (.ret))))))))))
def QjA:List RR:=[.tmp 4]
theorem Qt1:CT 236 143 Mi QjA:=ck Tryz.func236 Tryz.ntmps236 (by decide +kernel)
abbrev QjB:IL:=[je 4]
abbrev QjC:IL:=[ja 5 0,jk 6 0 5,ja 7 1,jk 8 0 7,⟨some 9,.val (.bin .num .geq (.t 6) (.t 8)),none⟩,ja 10 9,jh 11 0 10,jh 12 1 10,ya 13 0 12 10,⟨some 14,.val (.slc none (.t 11) none (some (.t 13)) none),(some (10,true))⟩,jh 15 1 10,UV 16 14 15 10,ji 17 10 16,ja 4 17]
abbrev Qt2:RC:=jQ QjB (jQ QjC (.ret))
abbrev Qt3:List RR:=[.tmp 4]
theorem Qt4:CT 237 18 Qt2 Qt3:=ck Tryz.func237 Tryz.ntmps237 (by decide +kernel)
abbrev QjD:IL:=[jg 1 1 0,je 2]
abbrev QjE:IL:=[jb 3 3 1,jc 4 3,jk 5 1 4,jb 6 4 1,jc 7 6,jk 8 1 7,zp 9 5 8,jb 10 5 1,jc 11 10,jk 12 1 11,zp 13 9 12,jb 14 6 1,jc 15 14,jk 16 1 15,zp 17 13 16,yr 18 17 0]
abbrev QjF:IL:=[je 2]
abbrev QjG:IL:=[jb 19 0 1,jc 20 19,js 21 250 20]
abbrev QjH:IL:=[jb 22 1 1,jc 23 22,UW 24 23 0,ja 2 24]
abbrev QjI:IL:=[jb 25 2 1,jc 26 25,Nm 27 26,ja 2 27]
abbrev Qt5:RC:=jQ QjD (.seq (jQ QjE (.cond (.t 18) (jQ QjF (.ret)) (.skip))) (.seq (jQ QjG (.cond (.t 21) (jQ QjH (.ret)) (.skip))) (jQ QjI (.ret))))
abbrev Qt6:List RR:=[.tmp 2]
theorem Qt7:CT 238 28 Qt5 Qt6:=ck Tryz.func238 Tryz.ntmps238 (by decide +kernel)
abbrev QjJ:IL:=[je 4]
abbrev QjK:IL:=[⟨some 5,.val (.mov (.c (.int .u64 4294967295))),none⟩]
abbrev QjL:IL:=[ja 6 0]
abbrev QjM:IL:=[ju 8 6 1,ja 7 8]
abbrev QjN:IL:=[ju 10 6 2,ja 9 10]
abbrev QjO:IL:=[ju 12 6 9,ja 11 12]
abbrev QjP:IL:=[ju 14 6 4,ja 13 14]
abbrev QjQ:IL:=[ja 15 1,⟨some 16,.val (.bin .num .leq (.t 15) (.c (.int .u64 1))),none⟩,ja 4 16]
abbrev QjR:IL:=[ja 17 1,⟨some 18,.val (.cvi .i64 (.t 17)),none⟩,yd 19 18 (-2147483648),ja 20 19,jh 21 1 20,⟨some 22,.val (.cvi .i64 (.t 21)),(some (20,true))⟩,yn 23 22 2147483647 20,ji 24 20 23,ja 4 24]
abbrev QjS:IL:=[⟨some 5,.val (.mov (.c (.int .u64 2147483647))),none⟩]
abbrev Ao:IL:=[ja 25 1,ja 26 5,⟨some 27,.val (.bin .num .leq (.t 25) (.t 26)),none⟩,ja 4 27]
abbrev Ap:IL:=[yb 4]
abbrev Qt8:RC:=jQ QjJ (jQ QjK (.seq (jQ QjL (.block 0 (.seq (.block 4 (.seq (.block 3 (.seq (.block 2 (.seq (.block 1 (.seq (.seq (jQ QjM (.cond (.t 7) (.exit 1) (.skip))) (.seq (jQ QjN (.cond (.t 9) (.exit 2) (.skip))) (.seq (jQ QjO (.cond (.t 11) (.exit 3) (.skip))) (jQ QjP (.cond (.t 13) (.exit 4) (.skip)))))) (.exit 0))) (.seq (jQ QjQ (.ret)) (.exit 0)))) (.seq (jQ QjR (.ret)) (.exit 0)))) (.reg QjS))) (.seq (jQ Ao (.ret)) (.exit 0))))) (jQ Ap (.ret))))
abbrev Qt9:List RR:=[.tmp 4]
theorem Qua:CT 239 28 Qt8 Qt9:=ck Tryz.func239 Tryz.ntmps239 (by decide +kernel)
abbrev QjT:IL:=[jg 2 2 0,je 3]
abbrev QjU:IL:=[jb 4 0 2,jc 5 4,jc 6 1,yf 7 5 6,ja 3 7]
abbrev Qub:RC:=jQ QjT (jQ QjU (.ret))
abbrev Quc:List RR:=[.tmp 3]
theorem Qud:CT 241 8 Qub Quc:=ck Tryz.func241 Tryz.ntmps241 (by decide +kernel)
abbrev QjV:IL:=[jd 2 0]
abbrev QjW:IL:=[ja 5 0,⟨some 6,.val (.bin .num .and (.t 5) (.c (.int .u64 9218868437227405312))),none⟩,ja 7 0,⟨some 8,.val (.bin .num .and (.t 7) (.c (.int .u64 4503599627370495))),none⟩,ja 3 6,ja 4 8]
abbrev QjX:IL:=[ja 10 3,UW 11 10 9218868437227405312,ja 12 11,jh 13 4 12,⟨some 14,.val (.bin .num .neq (.t 13) (.c (.int .u64 0))),(some (12,true))⟩,ji 15 12 14,ja 9 15]
abbrev QjY:IL:=[jd 2 0]
abbrev QjZ:IL:=[ja 17 3,UW 18 17 9218868437227405312,ja 16 18]
abbrev Qj0:IL:=[jd 2 1]
abbrev Qj1:IL:=[ja 20 3,UW 21 20 0,ja 22 21,jh 23 4 22,⟨some 24,.val (.bin .num .eql (.t 23) (.c (.int .u64 0))),(some (22,true))⟩,ji 25 22 24,ja 19 25]
abbrev Qj2:IL:=[jd 2 2]
abbrev Qj3:IL:=[ja 27 3,UW 28 27 0,ja 26 28]
abbrev Qj4:IL:=[jd 2 3]
abbrev Aq:IL:=[jd 2 4]
abbrev Que:RC:=jQ QjV (.seq (jQ QjW (.block 0 (jQ QjX (.cond (.t 9) (jQ QjY (.ret)) (jQ QjZ (.cond (.t 16) (jQ Qj0 (.ret)) (jQ Qj1 (.cond (.t 19) (jQ Qj2 (.ret)) (jQ Qj3 (.cond (.t 26) (jQ Qj4 (.ret)) (.skip))))))))))) (jQ Aq (.ret)))
abbrev Quf:List RR:=[.tmp 2]
theorem Qug:CT 242 29 Que Quf:=ck Tryz.func242 Tryz.ntmps242 (by decide +kernel)
abbrev Qj5:IL:=[jd 4 0]
abbrev Qj6:IL:=[ja 5 0,ja 6 1,⟨some 7,.xb false 262 (.t 5) (.t 6),none⟩,ja 4 7]
abbrev Quh:RC:=jQ Qj5 (jQ Qj6 (.ret))
abbrev Qui:List RR:=[.tmp 4]
theorem Quj:CT 246 8 Quh Qui:=ck Tryz.func246 Tryz.ntmps246 (by decide +kernel)
abbrev Qj7:IL:=[je 2]
abbrev Qj8:IL:=[ja 3 0,ju 4 3 7,ja 5 4,jw 6 0 5,zl 7 6 8 5,jq 8 5 7,ja 2 8]
abbrev Quk:RC:=jQ Qj7 (jQ Qj8 (.ret))
abbrev Qul:List RR:=[.tmp 2]
theorem Qum:CT 250 9 Quk Qul:=ck Tryz.func250 Tryz.ntmps250 (by decide +kernel)
end Go.Proofs.YtaiflhahcglpgaaGreatDoor.Rc

set_option linter.unusedSimpArgs false
namespace Go.Proofs.YtaiflhahcglpgaaGreatDoor.Va
open Go Am Rc Bt

def RB (v:AV):Prop:=∃b,v=.bool b
theorem RB.rf {v:AV}{l:List AV}(h:RB v):v.rf=true∧(AV.rfL l=true∨v.nl=true):=by
 obtain⟨b,rfl⟩:=h;exact⟨rfl,.inr rfl⟩

def UX (k:Int):Bool:=decide (k≥1)&&decide (k≤9)
def J5 (k:Int):Bool:=k==7||k==8
theorem Qun (k:Int):Qu Tryz.prog 204 [.int .i64 k] (.bool (UX k)):=by
 refine Qtc.fn (by simp) ?_;simp only[UX,Qa,seval];cases h:decide (k≥1)<;>simp only[QAC,QAs,Qa,seval]

theorem Quo (k:Int):Qu Tryz.prog 144 [.int .i64 k] (.bool (UX k)):=by
 refine QrV.fn (by simp) ?_;simp only[UX,Qa,seval];cases h:decide (k≥1)<;>simp only[QAC,QAs,Qa,seval]

theorem Qup (k:Int):Qu Tryz.prog 206 [.int .i64 k] (.bool (J5 k)):=by
 refine Qti.fn (by simp) ?_;simp only[J5,Qa,seval];cases h:(k==7)<;>simp only[QAE,QAF,Qa,seval]

theorem Quq (k:Int):Qu Tryz.prog 250 [.int .i64 k] (.bool (J5 k)):=by
 refine Qum.fn (by simp) ?_;simp only[J5,Qa,seval];cases h:(k==7)<;>simp only[QAE,QAF,Qa,seval]

def oc (n:Int)(s a:List UInt8)(c k kd t u:Int):AV:=.agg [.int .i64 n,.str s,.str a,.int .i64 c,.int .i64 k,.int .i64 kd,.int .i64 t,.int .i64 u]

section
variable (n:Int)(s a:List UInt8)(c k kd t u:Int)

end

theorem Qn (i:Nat)(n:Nat)(h:i<n)(hn:n≤maxLen):IntKind.i64.wrap ((i:Int)+1)=((i+1:Nat):Int):=by
 simp only[maxLen]at hn;rw[ZE];omega

theorem QA {i n:Nat}(h:i<n):decide ((i:Int)<(n:Int))=true:=by simp;omega
theorem QC {i n:Nat}(h:¬i<n):decide ((i:Int)<(n:Int))=false:=by simp;omega
theorem Qk (i:Nat):(0≤(i:Int))=True:=by simp

open Br

def QZ {α:Type}(p:α→Bool):List α→Nat→Int
 | [],_=>-1
 |x :: l,i=>if p x=true then(i:Int)else QZ p l (i+1)

theorem Xp {α:Type}(p:α→Bool):∀(l:List α) (i:Nat),(QZ p l i = -1∧l.find? p=none)∨∃k o,QZ p l i=((i+k:Nat):Int)∧l[k]? = some o∧l.find? p=some o
 | [],_=>.inl ⟨rfl,rfl⟩
 |x :: l,i=>by
  unfold QZ;rw[List.find?_cons];cases h:p x with
  |true=>exact .inr ⟨0,x,by simp,rfl,rfl⟩
  |false=>
   simp only[Qzv,if_false];rcases Xp p l (i+1)with h'|⟨k,o,h1,h2,h3⟩
   ·exact .inl h'
   ·exact .inr ⟨k+1,o,by rw[h1];congr 1;omega,by simpa using h2,h3⟩

theorem XG {α:Type}(p:α→Bool){l:List α}{i:Nat}{x:α}(hx:l[i]? = some x):QZ p (l.drop i) i=if p x=true then(i:Int)else QZ p (l.drop (i+1)) (i+1):=by
 have hlt:i<l.length:=(Qze.1 hx).1;rw[QzR hlt,show l[i]=x from(Qze.1 hx).2];rfl

def gav (g:PG):AV:=.agg g.cells
def eav (x:PE):AV:=.agg x.cells

section ops
variable (L:List PO)(hl:L.length≤maxLen)(p:PO→Bool)(c:Nat)(cap:AV)(m:Qo)

end ops

section
variable (o:PO)(fr frO:Nat→Ob)

end

def Q7 (p:Nat→Bool):Nat→Bool
 |0=>true
 |n+1=>Q7 p n&&p n

theorem QW {p:Nat→Bool}{n:Nat}:Q7 p n=true↔∀i,i<n→p i=true:=by
 induction n with
 |zero=>simp[Q7]
 |succ n ih=>
  simp only[Q7,Qzz,ih]
  constructor
  ·rintro⟨h1,h2⟩ i hi;rcases QAG.1 hi with h|rfl
   ·exact h1 i h
   ·exact h2
  ·intro h;exact⟨fun i hi=>h i (by omega),h n (by omega)⟩

theorem Bp {p:Nat→Bool}{n i:Nat}(hi:i<n)(h:p i=false):Q7 p n=false:=by
 rw[QAH];intro h';rw[QW.1 h' i hi]at h;cases h

theorem Bq {p q:Nat→Bool}{n:Nat}(h:∀i,i<n→p i=q i):Q7 p n=Q7 q n:=by
 induction n with
 |zero=>rfl
 |succ n ih=>simp only[Q7,ih fun i hi=>h i (by omega),h n (by omega)]

def Wt {α:Type}(l:List α)(lt:α→α→Bool)(i:Nat):Bool:=match i with
 |0=>true
 |k+1=>match l[k]?,l[k+1]? with
  |some x,some y=>lt x y
  |_,_=>true

theorem J6 {α:Type}{l:List α}{lt:α→α→Bool}{k:Nat}{x y:α}(h:l[k]? = some x)(h':l[k+1]? = some y):Wt l lt (k+1)=lt x y:=by
 unfold Wt;simp only[h,h']
def XS {α:Type}(l:List α)(lt:α→α→Bool):Bool:=Q7 (Wt l lt) l.length

def uniq {α:Type}(l:List α)(nm:α→List UInt8)(i:Nat):Bool:=match l[i]? with
 |some x=>(l.take i).all fun y=>!(nm y==nm x)
 |none=>true
def Qj9 {α:Type}(l:List α)(nm:α→List UInt8):Bool:=Q7 (uniq l nm) l.length

theorem Mj {α:Type}{l:List α}{q:α→Bool}{i:Nat}{x:α}(h:l[i]? = some x):(l.take (i+1)).all q=((l.take i).all q&&q x):=by
 rw[QAx,h];simp
def Z1 (c:UInt8):Bool:=(decide (97≤c.toNat)&&decide (c.toNat≤122))||(decide (65≤c.toNat)&&decide (c.toNat≤90))
def ZJ (c:UInt8):Bool:=Z1 c||c.toNat==95||(decide (48≤c.toNat)&&decide (c.toNat≤57))
def QU:List UInt8→Bool
 | []=>false
 |c :: t=>decide ((c :: t).length≤40)&&Z1 c&&t.all ZJ
def KX:List (List UInt8):=[[109,101,115,115,97,103,101],[101,110,117,109],[115,101,114,118,105,99,101],[117,110,105,111,110],[109,97,112],[108,105,115,116],[114,101,113,117,105,114,101,100],[111,112,116,105,111,110,97,108],[112,108,97,105,110],[100,101,102,97,117,108,116],[114,101,115,101,114,118,101,100],
 [105,109,112,111,114,116],[115,112,97,99,101],[114,112,99],[115,116,114,101,97,109],[114,101,116,117,114,110,115],[111,112,101,110],[116,114,117,101],[102,97,108,115,101],[110,97,110],[105,110,102]]
def Za (s:List UInt8):Bool:=KX.any fun w=>s==w
def Q5 (s:List UInt8):Bool:=QU s && !Za s
def Qg:List UInt8→List (List UInt8)
 | []=>[[]]
 |c :: t=>if c=46 then [] :: Qg t else match Qg t with
  | []=>[[c]]
  |p :: ps=>(c :: p) :: ps
def Xg (s:List UInt8):Bool:=decide (s.length≤120)&&(Qg s).all QU && !(Qg s).any Za

theorem JB:∀s:List UInt8,Qg s≠[]
 | []=>by simp[Qg]
 |c :: t=>by
  unfold Qg;split
  ·simp
  ·split<;>simp

theorem UY (a:List UInt8):∀s:List UInt8,(∀c∈a,c≠46)→Qg (a++s)=match Qg s with
  | []=>[a]
  |p :: ps=>(a++p) :: ps:=by
 induction a with
 |nil=>intro s _;cases h:Qg s with
  |nil=>exact absurd h (JB s)
  |cons p ps=>simp[h]
 |cons c a ih=>
  intro s h;have hc:c≠46:=h c (by simp);rw[Qzx,Qg,Qzj hc,ih s fun x hx=>h x (by simp[hx])];cases hs:Qg s with
  |nil=>exact absurd hs (JB s)
  |cons p ps=>rfl

theorem Ko {s:List UInt8}(h:∀c∈s,c≠46):Qg s=[s]:=by
 have:=UY s [] h
 simpa [Qg]using this

theorem Y3 {a t:List UInt8}(h:∀c∈a,c≠46):Qg (a++46 :: t)=a :: Qg t:=by
 rw[UY a _ h,Qg,Qzk rfl];simp

theorem Y4 {a t:List UInt8}(h:∀c∈t,c≠46):Qg (a++46 :: t)=Qg a++[t]:=by
 induction a with
 |nil=>
  show Qg (46 :: t)=[[]]++[t];rw[show Qg (46 :: t)=[] :: Qg t from by rw[Qg,Qzk rfl],Ko h];rfl
 |cons c a ih=>
  rw[Qzx,Qg,Qg,ih];split
  ·rfl
  ·cases hs:Qg a with
   |nil=>exact absurd hs (JB a)
   |cons p ps=>rfl

theorem Wu (s:List UInt8):(Qg s).length=s.count 46+1:=by
 induction s with
 |nil=>rfl
 |cons c t ih=>
  unfold Qg;split
  ·rename_i h;subst h;simp[ih]
  ·rename_i h;rw[List.count_cons_of_ne (by simpa using h)];cases hs:Qg t with
   |nil=>exact absurd hs (JB t)
   |cons p ps=>rw[hs]at ih;simpa using ih

def Qur (g:PG):Bool:=decide (g.ops.length≤64)
def Qus (e:PE):Bool:=decide (1≤e.items.length)&&decide (e.items.length≤64)&&decide (e.free.length≤16)
def lim (P:PL):Bool:=decide (P.progs.length≤64)&&decide (P.enums.length≤64)&&P.progs.all Qur&&P.enums.all Qus
def Qut (g:PG):Bool:=Xg g.name&&g.ops.all fun o=>Q5 o.name
def Quu (e:PE):Bool:=Xg e.name&&e.items.all fun o=>Q5 o.name
def nam (P:PL):Bool:=P.progs.all Qut&&P.enums.all Quu
def Qka {α:Type}(f:α→Int)(x y:α):Bool:=decide (f x<f y)
def J7 {α:Type}(f:α→List UInt8)(x y:α):Bool:=Op.bytesLess (f x) (f y)
def Quv (g:PG):Bool:=XS g.ops (Qka PO.num)
def Quw (e:PE):Bool:=XS e.items (Qka PI.num)
def ord (P:PL):Bool:=XS P.progs (J7 PG.name)&&XS P.enums (J7 PE.name)&&P.progs.all Quv&&P.enums.all Quw
def Qux (P:PL)(g:PG):Bool:=(P.enums.all fun e=>!(e.name==g.name))&&Qj9 g.ops PO.name
def Quy (e:PE):Bool:=Qj9 e.items PI.name
def sin (P:PL):Bool:=P.progs.all (Qux P)&&P.enums.all Quy
def Quz (o:PO):Bool:=decide (o.num≥1)&&decide (o.num≤65535)
def spn (x:PS):Bool:=decide (x.lo≥0)&&decide (x.hi≤2147483647)&&decide (x.lo≤x.hi)
def spt (x y:PS):Bool:=decide (y.lo > x.hi)
def kept (l:List PS)(n:Int):Bool:=l.any fun x=>decide (x.lo≤n)&&decide (n≤x.hi)
def QuA (e:PE)(x:PI):Bool:=decide (x.num≤2147483647) && !kept e.free x.num
def QuB (e:PE):Bool:=match e.items with
 | []=>true
 |x :: _=>x.num==0
def QuC (e:PE):Bool:=e.free.all spn&&XS e.free spt&&QuB e&&e.items.all (QuA e)
def rng (P:PL):Bool:=P.progs.all (fun g=>g.ops.all Quz)&&P.enums.all QuC

def Q0 (x:PS):AV:=.agg x.cells
def Qi (x:List UInt8):AV:=.str x

theorem J8 {α:Type}(p:α→Bool)(l:List α):decide (QZ p l 0≥0)=l.any p:=by
 rcases Xp p l 0 with⟨h1,h2⟩|⟨k,o,h1,_,h3⟩
 ·rw[h1];have:l.any p=false:=by
   rw[List.any_eq_false];intro x hx;exact fun h=>by have:=QAI.1 h2 x hx;exact this h
  rw[this];rfl
 ·rw[h1];have:l.any p=true:=QAJ.2 ⟨o,QAK h3,QAL h3⟩;rw[this];exact QAM (by omega)

theorem JC (k n:Nat)(h:k+1<n)(hn:n≤maxLen):IntKind.i64.wrap (((k+1:Nat):Int)-1)=(k:Int):=by
 rw[ZE];simp only[maxLen]at hn;omega

section
variable (L:List PG)(hl:L.length≤maxLen)(p:PG→Bool)(c:Nat)(cs:List AV)(m:Qo)

end

section
variable (L:List PO)(hl:L.length≤maxLen)(p:PO→Bool)(c:Nat)(cs:List AV)(m:Qo)

end

section
variable (L:List PE)(hl:L.length≤maxLen)(p:PE→Bool)(c:Nat)(cs:List AV)(m:Qo)

end

section
variable (L:List PI)(hl:L.length≤maxLen)(p:PI→Bool)(c:Nat)(cs:List AV)(m:Qo)

end

section
variable (L:List PS)(hl:L.length≤maxLen)(p:PS→Bool)(c:Nat)(cs:List AV)(m:Qo)

def JxS (k:Nat)(st:St):Prop :=
 ∃f i,st=⟨f,Qh :: m,[]⟩∧k=L.length-i∧QZ p L 0=QZ p (L.drop i) i∧f 0=.list (L.map Q0)∧f 1=.fn (.func c) [] (AV.shL cs)∧f 7=.int .i64 (L.length:Nat)∧f 8=.int .i64 (i:Nat)

include hl in
theorem QuD (hc:∀o∈L,Qq Tryz.prog c (Q0 o :: AV.shL cs) (Qh :: m) fun y m1=>y=.bool (p o)∧m1=Qh :: m) :
  Qq Tryz.prog 215 [.list (L.map Q0),.fn (.func c) [] cs] m fun y m1=>y=.int .i64 (QZ p L 0)∧m1=m:=by
 refine Qc9.go (by simp) ?_;simp only[QAo,Qa,seval];refine Qe (JxS L p c cs m) _ ⟨_,0,rfl,rfl,rfl,(by rfl),(by rfl),(by rfl),(by rfl)⟩ ?_;rintro _ st ⟨f,i,rfl,rfl,hx,h0,h1,h7,h8⟩;simp only[h7,h8,Qa,seval];by_cases hlt:i<L.length
 ·obtain⟨x,hi⟩:∃x,L[i]? = some x:=⟨L[i],Qzf hlt⟩;have hcl:=hc x (Qzq hi);have hg:(L.map Q0)[i]? = some (Q0 x):=by simp[hi]
  have e1:=Qn i _ hlt hl;simp only[Q0,PS.cells]at hcl;simp only[QA hlt,Qk,QAq,Qc,hg,Q0,PS.cells,h0,h1,h8,eE,seval];refine Zy (fa:=[]) (fb:=AV.shL cs) (by rfl) hcl (by simp only[QzI,Qz4,Qzy,Qzx,Qa,seval]) ?_;rw[XG p hi]at hx;cases hp:p x
  ·rw[hp]at hx;simp only[Qzv,if_false]at hx;simp only[h8,e1,Qa,seval];exact⟨L.length-(i+1),by omega,_,i+1,rfl,rfl,hx,(by exact h0),(by exact h1),(by exact h7),(by rfl)⟩
  ·rw[hp]at hx;simp only[if_true]at hx;simp only[hx,Qa,seval]
 ·have hx':QZ p L 0 = -1:=by rw[hx,QzL (by omega)];rfl
  simp only[QC hlt,hx',Qa,seval]

include hl in
theorem QuE (hc:∀o∈L,Qq Tryz.prog c (Q0 o :: AV.shL (AV.shL cs)) (Qh :: Qh :: m) fun y m1=>y=.bool (p o)∧m1=Qh :: Qh :: m) :
  Qq Tryz.prog 183 [.list (L.map Q0),.fn (.func c) [] cs] m fun y m1=>y=.bool (L.any p)∧m1=m:=by
 refine Qcm.go (by simp) ?_;simp only[Qa,seval];refine Qb (QuD L hl p c (AV.shL cs) _ hc) (by simp only[QzI,Qz4,Qa,seval]<;>rfl) ?_;simp only[J8,Qa,seval]

end

section
variable (L:List (List UInt8))(hl:L.length≤maxLen)(p:(List UInt8)→Bool)(c:Nat)(cs:List AV)(m:Qo)

def JxR (k:Nat)(st:St):Prop :=
 ∃f i,st=⟨f,Qh :: m,[]⟩∧k=L.length-i∧QZ p L 0=QZ p (L.drop i) i∧f 0=.list (L.map Qi)∧f 1=.fn (.func c) [] (AV.shL cs)∧f 7=.int .i64 (L.length:Nat)∧f 8=.int .i64 (i:Nat)

include hl in
theorem QuF (hc:∀o∈L,Qq Tryz.prog c (Qi o :: AV.shL cs) (Qh :: m) fun y m1=>y=.bool (p o)∧m1=Qh :: m) :
  Qq Tryz.prog 178 [.list (L.map Qi),.fn (.func c) [] cs] m fun y m1=>y=.int .i64 (QZ p L 0)∧m1=m:=by
 refine QaI.go (by simp) ?_;simp only[QAo,Qa,seval];refine Qe (JxR L p c cs m) _ ⟨_,0,rfl,rfl,rfl,(by rfl),(by rfl),(by rfl),(by rfl)⟩ ?_;rintro _ st ⟨f,i,rfl,rfl,hx,h0,h1,h7,h8⟩;simp only[h7,h8,Qa,seval];by_cases hlt:i<L.length
 ·obtain⟨x,hi⟩:∃x,L[i]? = some x:=⟨L[i],Qzf hlt⟩;have hcl:=hc x (Qzq hi);have hg:(L.map Qi)[i]? = some (Qi x):=by simp[hi]
  have e1:=Qn i _ hlt hl;simp only[Qi]at hcl;simp only[QA hlt,Qk,QAq,Qc,hg,Qi,h0,h1,h8,eE,seval];refine Zy (fa:=[]) (fb:=AV.shL cs) (by rfl) hcl (by simp only[QzI,Qz4,Qzy,Qzx,Qa,seval]) ?_;rw[XG p hi]at hx;cases hp:p x
  ·rw[hp]at hx;simp only[Qzv,if_false]at hx;simp only[h8,e1,Qa,seval];exact⟨L.length-(i+1),by omega,_,i+1,rfl,rfl,hx,(by exact h0),(by exact h1),(by exact h7),(by rfl)⟩
  ·rw[hp]at hx;simp only[if_true]at hx;simp only[hx,Qa,seval]
 ·have hx':QZ p L 0 = -1:=by rw[hx,QzL (by omega)];rfl
  simp only[QC hlt,hx',Qa,seval]

include hl in
theorem Bs (hc:∀o∈L,Qq Tryz.prog c (Qi o :: AV.shL (AV.shL cs)) (Qh :: Qh :: m) fun y m1=>y=.bool (p o)∧m1=Qh :: Qh :: m) :
  Qq Tryz.prog 133 [.list (L.map Qi),.fn (.func c) [] cs] m fun y m1=>y=.bool (L.any p)∧m1=m:=by
 refine Lr.go (by simp) ?_;simp only[Qa,seval];refine Qb (QuF L hl p c (AV.shL cs) _ hc) (by simp only[QzI,Qz4,Qa,seval]<;>rfl) ?_;simp only[J8,Qa,seval]

end

section
variable (L:List PG)(hl:L.length≤maxLen)(lt:PG→PG→Bool)(c:Nat)(cs:List AV)(m:Qo)

end

section
variable (L:List PO)(hl:L.length≤maxLen)(lt:PO→PO→Bool)(c:Nat)(cs:List AV)(m:Qo)

end

section
variable (L:List PE)(hl:L.length≤maxLen)(lt:PE→PE→Bool)(c:Nat)(cs:List AV)(m:Qo)

end

section
variable (L:List PI)(hl:L.length≤maxLen)(lt:PI→PI→Bool)(c:Nat)(cs:List AV)(m:Qo)

end

def cl (c:Nat):Int:=if 97≤c∧c≤122 then 1 else if 65≤c∧c≤90 then 2 else if 48≤c∧c≤57 then 3 else if c=95 then 4 else 0

theorem QuG (c:Nat):Qu Tryz.prog 181 [.int .i32 (c:Nat)] (.int .i64 (cl c)):=by
 refine QcX.fn (by simp) ?_;simp only[Qa,seval]
 repeat' (first|(refine XM (fun h=>?_) (fun h=>?_)<;>simp only[h,Qa,seval])|(refine Zl (fun h=>?_) (fun h=>?_)<;>simp only[h,Qj,Qa,seval])|(refine Zm (fun h=>?_) (fun h=>?_)<;>simp only[h,Qj,eE,seval]))
 all_goals((try simp only[QAl,QAN,QzA,QAO,ne_eq]at *)<;>unfold cl<;>(repeat' split)<;>first|rfl|(exfalso;omega))

theorem Bu {s:List UInt8}{i:Nat}{c:UInt8}(h:s[i]? = some c):(c.toNat<128→Xc s i=(c.toNat,1))∧(128≤c.toNat→128≤(Xc s i).1):=by
 have g0:(⟨⟨s⟩⟩:ByteArray).get! (i+0)=c:=by
  show(⟨s⟩:Array UInt8)[i+0]! = c;simp[h]
 constructor
 ·intro hc;simp only[Xc,Utf8.decode,g0];rw[Qzk hc]
 ·intro hc;simp only[Xc,Utf8.decode,g0];rw[Qzj (by omega)]
  (repeat' split)<;>simp only[ge_iff_le,Qzz,QAl,Utf8.runeError]at *<;>omega

def pq (s:List UInt8)(j:Nat):Bool:=match s[j]? with
 |some c=>if j=0 then Z1 c else ZJ c
 |none=>true
theorem Kp {s:List UInt8}{j:Nat}{c:UInt8}(h:s[j]? = some c):pq s j=if j=0 then Z1 c else ZJ c:=by
 unfold pq;rw[h]

theorem GZ {c:UInt8}(h:Z1 c=true):ZJ c=true:=by unfold ZJ;rw[h];rfl

theorem JJ (s:List UInt8):QU s=(decide (1≤s.length)&&decide (s.length≤40)&&Q7 (pq s) s.length):=by
 cases s with
 |nil=>rfl
 |cons c t=>
  have h1:decide (1≤(c :: t).length)=true:=by simp
  rw[h1,QAC];show(decide ((c :: t).length≤40)&&Z1 c&&t.all ZJ)=_;rw[Bool.and_assoc];congr 1
  rw[QzY,Qzz,QW,Qzp]
  constructor
  ·rintro⟨h2,h3⟩ i hi;cases i with
   |zero=>rw[Kp (c:=c) rfl,Qzk rfl];exact h2
   |succ i=>
    have hlt:i<t.length:=by simpa using hi
    rw[Kp (c:=t[i]) (by simp[Qzf hlt]),Qzj (by omega)];exact h3 _ (List.getElem_mem _)
  ·intro h;refine⟨?_,fun x hx=>?_⟩
   ·have:=h 0 (by simp)
    rwa [Kp (c:=c) rfl,Qzk rfl]at this
   ·obtain⟨i,hi⟩:=Qzo.1 hx;have hlt:=(Qze.1 hi).1;have:=h (i+1) (by simpa using hlt)
    rwa [Kp (c:=x) (by simpa using hi),Qzj (by omega)]at this

theorem QoY {s:List UInt8}{i:Nat}{c:UInt8}(h:s[i]? = some c)(r:Nat)(hr:(c.toNat<128→r=c.toNat)∧(128≤c.toNat→128≤r)) :
  (cl r==0||((i:Int)==0&&(cl r != 1&&cl r != 2)))=!pq s i:=by
 rw[Kp h];obtain⟨h1,h2⟩:=hr;have hc:=c.toNat_lt;unfold cl Z1 ZJ Z1;generalize c.toNat=x at *;by_cases hx:x<128
 ·have e:=h1 hx;subst e;by_cases hi:i=0
  ·subst hi;rw[Qzk rfl]
   (repeat' split)<;>simp<;>omega
  ·rw[Qzj hi];have hz:((i:Int)==0)=false:=by simp;omega
   rw[hz]
   (repeat' split)<;>simp<;>omega
 ·have:=h2 (by omega);have e:(if 97≤r∧r≤122 then(1:Int)else if 65≤r∧r≤90 then 2 else if 48≤r∧r≤57 then 3 else if r=95 then 4 else 0)=0:=by
   rw[Qzj (by omega),Qzj (by omega),Qzj (by omega),Qzj (by omega)]
  rw[e];split<;>simp<;>omega

def PaI (s:List UInt8)(k:Nat)(st:St):Prop :=
 ∃f fr i,st=⟨f,[fr],[]⟩∧k=s.length-i∧i≤s.length∧Q7 (pq s) i=true∧f 0=.str s∧f 7=.ptr 0 7 0∧fr 7=.iter (.str s) i

theorem Qkb (s:List UInt8):Qu Tryz.prog 137 [.str s] (.bool (QU s)):=by
 refine Qch.fn (by simp) ?_;simp only[Qa,seval];refine UO rfl rfl ?_;simp only[Qa,seval];refine Qe (PaI s) s.length ⟨_,_,0,rfl,rfl,Qzl _,rfl,(by rfl),(by rfl),(by rfl)⟩ ?_;rintro _ st ⟨f,fr,i,rfl,rfl,hi,hx,h0,h7,m7⟩;simp only[Qa,seval];refine UP (by exact h7) m7 (fun hlt=>?_) (fun hge=>?_)
 ·obtain⟨c,hc⟩:∃c,s[i]? = some c:=⟨s[i],Qzf hlt⟩;obtain⟨u1,u2⟩:=Bu hc;have hcl:=QuG (Xc s i).1;have hq:=QoY hc (Xc s i).1 ⟨fun h=>by rw[u1 h],u2⟩;have hw:pq s i=true→(Xc s i).2=1:=by
   intro h;rw[u1];rw[Kp hc]at h;have hp:ZJ c=true:=by
    split at h
    ·exact GZ h
    ·exact h
   unfold ZJ Z1 at hp;simp at hp;omega
  generalize Xc s i=cw at hcl hq hw;obtain⟨r,w⟩:=cw;simp only[Qa,seval];refine aC hcl ?_;have hstep:Q7 (pq s) (i+1)=pq s i:=by rw[Q7,hx,QAC]
  have hend:pq s i=false→QU s=false:=by
   intro h;rw[JJ,Bp hlt h,QAP]
  simp only at hq hw;generalize cl r=k at hq;cases hp:pq s i
  ·rw[hp]at hq;have he:=hend hp;simp only[he,Qa,seval];cases a1:(k==0)
   ·cases a2:((i:Int)==0)
    ·simp[a1,a2]at hq
    ·cases a3:(k != 1)
     ·simp[a1,a2,a3]at hq
     ·cases a4:(k != 2)
      ·simp[a1,a2,a3,a4]at hq
      ·simp only[a2,a3,a4,Qa,seval]
   ·simp only[Qa,seval]
  ·rw[hp]at hq;have hw:=hw hp;subst hw;simp only[Qa,seval];cases a1:(k==0)
   ·cases a2:((i:Int)==0)
    ·simp only[a2,Qa,seval];exact⟨s.length-(i+1),by omega,_,_,i+1,rfl,rfl,by omega,by rw[hstep,hp],(by exact h0),(by exact h7),(by rfl)⟩
    ·cases a3:(k != 1)
     ·simp only[a2,a3,Qa,seval];exact⟨s.length-(i+1),by omega,_,_,i+1,rfl,rfl,by omega,by rw[hstep,hp],(by exact h0),(by exact h7),(by rfl)⟩
     ·cases a4:(k != 2)
      ·simp only[a2,a3,a4,Qa,seval];exact⟨s.length-(i+1),by omega,_,_,i+1,rfl,rfl,by omega,by rw[hstep,hp],(by exact h0),(by exact h7),(by rfl)⟩
      ·simp[a1,a2,a3,a4]at hq
   ·simp[a1]at hq
 ·have hii:i=s.length:=by omega
  subst hii;have e1:decide (((s.length:Nat):Int)≥1)=decide (1≤s.length):=by rw[decide_eq_decide];omega
  have e2:decide (((s.length:Nat):Int)≤40)=decide (s.length≤40):=by rw[decide_eq_decide];omega
  have e3:QU s=(decide (1≤s.length)&&decide (s.length≤40)):=by rw[JJ,hx,QAf]
  simp only[h0,e1,e3,Qa,seval];cases a1:decide (1≤s.length)<;>simp only[QAC,QAs,h0,e2,Qa,seval]

theorem QuH (s:List UInt8):Qu Tryz.prog 135 [.str s] (.bool (Za s)):=by
 refine Mg.fn (by simp) ?_;simp only[Qx,Qa,seval];have e:Za s=KX.any fun w=>s==w:=rfl
 simp only[KX,List.any_cons,List.any_nil,QAQ]at e
 repeat' (first|(refine XM (fun h=>?_) (fun h=>?_)<;>simp only[h,Qx,Qa,seval])|(refine Zl (fun h=>?_) (fun h=>?_)<;>simp only[h,Qj,Qx,eE,seval])|(refine Zm (fun h=>?_) (fun h=>?_)<;>simp only[h,Qj,Qx,eE,seval]))
 all_goals(simp only[*,QAE,Bool.or_true,QAQ]at e;simp only[e])

theorem QuI (s:List UInt8):Qu Tryz.prog 213 [.str s,.str [46]] (.int .i64 (s.count 46:Nat)):=by
 refine Qdn.fn (by simp) ?_;have b0:(((1:Nat):Int)==0)=false:=rfl;have b1:(((1:Nat):Int)==1)=true:=rfl;have b2:([(46:UInt8)])[Int.toNat 0]? = some 46:=rfl;simp only[Qzr,QAe,QzB,Qa,seval];refine DD rfl rfl ?_;simp only[Yx,Lib.countByte,Qa,seval]
 try rfl

theorem QuJ (s:List UInt8):Qu Tryz.prog 246 [.str s,.int .u8 46] (.int .i64 (Lib.indexByte s 46)):=by
 refine Quj.fn (by simp) ?_;simp only[Qa,seval];refine DD rfl rfl ?_;simp only[Yx,Qzv,Qa,seval]
 try rfl

theorem QuK (s:List UInt8):Qu Tryz.prog 236 [.str s,.str [46]] (.int .i64 (Lib.indexByte s 46)):=by
 refine Qt1.fn (by simp) ?_;have b0:(((1:Nat):Int)==0)=false:=rfl;have b1:(((1:Nat):Int)==1)=true:=rfl;have b2:([(46:UInt8)])[Int.toNat 0]? = some 46:=rfl;have hk:=QuJ s;simp only[Mi,V3,V4,V5,V6,V7,V8,V9,Ca,Cb,Mi,QjA,Qzr,QAe,QzB,Qx,Qa,seval];cases h:(([46]:List UInt8)==s)
 ·simp only[Qa,seval];refine aC hk ?_;simp only[Qa,seval]
 ·have hs:s=[46]:=by simpa using (QzA.1 h).symm
  subst hs;simp only[Qa,seval]
  try rfl

theorem QuL (s:List UInt8):Qu Tryz.prog 214 [.str s,.str [46]] (.int .i64 (Lib.indexByte s 46)):=by
 refine Qtt.fn (by simp) ?_;simp only[Qa,seval];refine aC (QuK s) ?_;simp only[Qa,seval]

theorem Cc {t:List UInt8}{o:Nat}(h:Lib.indexByte t 46=(o:Int)):o<t.length∧t=t.take o++46 :: t.drop (o+1)∧∀c∈t.take o,c≠46:=by
 obtain⟨h1,h2⟩:=Lib.indexByte_some h;have hlt:=(Qze.1 h1).1;refine⟨hlt,?_,?_⟩
 ·have h3:t[o]=46:=(Qze.1 h1).2;rw[←h3,←QzR hlt,QAg]
 ·intro c hc e;subst e;obtain⟨k,hk⟩:=Qzo.1 hc;rw[QzN]at hk;split at hk
  ·exact h2 k ‹_› hk
  ·cases hk

theorem Mk {t:List UInt8}(h:Lib.indexByte t 46 = -1):Qg t=[t]:=by
 refine Ko fun c hc e=>?_
 subst e;obtain⟨k,hk⟩:=Qzo.1 hc;exact Lib.indexByte_none h k hk

theorem Cd {t:List UInt8}{o:Nat}(h:Lib.indexByte t 46=(o:Int)):Qg t=t.take o :: Qg (t.drop (o+1)):=by
 obtain⟨_,h2,h3⟩:=Cc h
 conv=>lhs;rw[h2]
 exact Y3 h3

theorem Qkc (t:List UInt8):Lib.indexByte t 46 = -1∨∃o:Nat,Lib.indexByte t 46=(o:Int):=by
 have:=Lib.indexByte_ge t 46;by_cases h:Lib.indexByte t 46 = -1
 ·exact .inl h
 ·obtain⟨o,ho⟩:=Int.eq_ofNat_of_zero_le (a:=Lib.indexByte t 46) (by omega);exact .inr ⟨o,ho⟩

def SpI (s:List UInt8)(n:Nat)(k:Nat)(st:St):Prop :=
 ∃f fr t done,st=⟨f,[fr],[]⟩∧k=(Qg t).length∧Qg s=done++Qg t∧n=done.length+(Qg t).length∧t.length≤s.length∧
  f 0=.str t∧f 1=.str [46]∧f 2=.int .i64 0∧f 3=.int .i64 ((n-1:Nat):Int)∧f 9=.vec 0 31 1 0 n false∧f 10=.int .i64 (done.length:Nat)∧fr 31=.vec 1 1 (done.map Qi++List.replicate (Qg t).length (.str []))

theorem Ml (done:List (List UInt8))(x:List UInt8)(n:Nat)(h:0<n):(done.map Qi++List.replicate n (AV.str [])).set done.length (.str x)=(done++[x]).map Qi++List.replicate (n-1) (AV.str []):=by
 obtain⟨k,rfl⟩:∃k,n=k+1:=⟨n-1,by omega⟩;rw[List.set_append_right _ _ (by simp)];simp[Qi,List.replicate_succ]

theorem QuM (s:List UInt8)(hs:s.length≤17592186044000):Qu Tryz.prog 179 [.str s,.str [46],.int .i64 0,.int .i64 (-1)] (.list ((Qg s).map Qi)):=by
 have hl:=Wu s;have hc:s.count 46≤s.length:=List.count_le_length;have hm:(Qg s).length≤s.length+1:=by omega
 have b0:((-1:Int)==0)=false:=rfl;have b1:decide ((-1:Int)<0)=true:=rfl;have e1:IntKind.i64.wrap ((s.count 46:Nat)+1:Int)=((Qg s).length:Nat):=by rw[ZE];omega
 have e2:IntKind.i64.wrap ((s.length:Nat)+1:Int)=((s.length+1:Nat):Int):=by rw[ZE];omega
 have e3':(((s.length+1:Nat):Int)<((Qg s).length:Nat))=False:=eq_false (by omega);have e4:IntKind.i64.wrap (((Qg s).length:Nat)-1:Int)=(((Qg s).length-1:Nat):Int):=by rw[ZE];omega
 have hz:Jq 1 [AV.str []]=.str []:=rfl;refine QcA.fn (by simp) ?_;simp only[b0,Qx,Qa,seval];have b2:(([46]:List UInt8)==[])=false:=rfl;simp only[b2,Qa,seval];refine aC (QuI s) ?_;simp only[e1,e2,e3',Qa,seval];refine DE (n:=(Qg s).length) (k:=(Qg s).length) rfl rfl (Qzc _) (by omega) (by omega) rfl ?_;simp only[e4,hz,Qa,seval];refine Qe (SpI s (Qg s).length) _ ⟨_,_,s,[],rfl,rfl,rfl,by simp,Qzc _,(by rfl),(by rfl),(by rfl),(by rfl),(by rfl),(by rfl),(by rfl)⟩ ?_;rintro _ st ⟨f,fr,t,done,rfl,rfl,hp,hn,ht,h0,h1,h2,h3,h9,h10,m31⟩;simp only[h3,h10,Qa,seval];have hpos:0<(Qg t).length:=QAi.2 (JB t);have ia:Qc [fr] 1 none (.vec 0 31 1 0 (Qg s).length false) ((done.length:Nat):Int)=some (.vptr 0 31 1 done.length 0):=by
  have e:Am.Qf [fr] 0 31=.vec 1 1 (done.map Qi++List.replicate (Qg t).length (.str [])):=m31;simp only[Qc,e,Qk,if_true,QAq];simp;omega
 have ist:∀x:List UInt8,Q1 [fr] (.vptr 0 31 1 done.length 0) [.str x]=some [Qw fr 31 (.vec 1 1 ((done++[x]).map Qi++List.replicate ((Qg t).length-1) (.str [])))]:=by
  intro x;have e:Am.Qf [fr] 0 31=.vec 1 1 (done.map Qi++List.replicate (Qg t).length (.str [])):=m31;have hy:(done.map Qi++List.replicate (Qg t).length (.str []))[done.length]? = some (.str []):=by
   rw[QAp (by simp)];simp[hpos]
  have hx:Ja (.str []) 0 [.str x]=.str x:=rfl;simp only[Q1,e,hy,if_true,←Ml done x _ hpos];simp[AV.cells,AV.rfL,AV.rf,Am.put,hx]
 have ew:IntKind.i64.wrap ((done.length:Nat)+1:Int)=((done.length+1:Nat):Int):=by rw[ZE];omega
 rcases Qkc t with hd|⟨o,ho⟩
 ·have hp1:=Mk hd;have hl1:(Qg t).length=1:=by rw[hp1];rfl
  have d1:decide (((done.length:Nat):Int)<(((Qg s).length-1:Nat):Int))=false:=QAR (by omega);have hi:=ist t;have hrow:(done++[t]).map Qi++List.replicate ((Qg t).length-1) (AV.str [])=(Qg s).map Qi:=by
   rw[hl1,hp,hp1];simp
  have hlen:done.length+1=(Qg s).length:=by omega
  rw[hrow]at hi;rw[hlen]at ew;have hle:((Qg s).length≤(Qg s).length)=True:=eq_true (Qzc _);have ht:(((Qg s).map Qi).drop 0).take (Qg s).length=(Qg s).map Qi:=by rw[QzQ];exact QzJ (by simp)
  simp only[d1,ia,hi,h0,h9,h10,ew,eE,seval];simp only[Qk,if_true,QAq,Qzl,hle,true_and,and_true,Nat.sub_zero,QzW,QAQ,Ya,QAd,HQ,QAS];have el:Am.Qf [Qw fr 31 (Ob.vec 1 1 ((Qg s).map Qi))] 0 31=.vec 1 1 ((Qg s).map Qi):=QM _ _ _;simp only[AV.still,el,QAC,bne_self_eq_false,Qzv,if_false,QzB,QAo,hle,Qz7,if_true,ht,QAc,AV.un,QAS,QAd]
 ·have hp1:=Cd ho;obtain⟨ho1,ho2,ho3⟩:=Cc ho;have hl1:(Qg t).length=(Qg (t.drop (o+1))).length+1:=by rw[hp1];simp
  have hpos2:0<(Qg (t.drop (o+1))).length:=QAi.2 (JB _);have d1:decide (((done.length:Nat):Int)<(((Qg s).length-1:Nat):Int))=true:=QAM (by omega);have d2:decide ((o:Int)<0)=false:=QAR (by omega);have w1:IntKind.i64.wrap ((o:Int)+0)=(o:Int):=by rw[ZE];omega
  have w2:IntKind.i64.wrap ((o:Int)+1)=((o+1:Nat):Int):=by rw[ZE];omega
  have hi:=ist (t.take o);simp only[d1,h0,h1,Qa,seval];refine aC (QuL t) ?_;have hle1:(0≤o∧o≤t.length)=True:=eq_true ⟨Qzl _,by omega⟩;have hle2:(o+1≤t.length∧t.length≤t.length)=True:=eq_true ⟨by omega,Qzc _⟩;have ht2:(t.drop (o+1)).take (t.length-(o+1))=t.drop (o+1):=QzJ (by simp);simp only[ho,d2,w1,w2,Qk,QAq,hle1,hle2,ht2,Nat.sub_zero,h0,h1,h2,h9,h10,eE,seval];simp only[ia,hi,ew,Qa,seval];have hlen:(done++[t.take o]).length=done.length+1:=by simp
  have hk:(Qg t).length-1=(Qg (t.drop (o+1))).length:=by omega
  exact⟨(Qg (t.drop (o+1))).length,by omega,_,_,t.drop (o+1),done++[t.take o],rfl,rfl,by rw[hp,hp1];simp,by rw[hlen];omega,by simp;omega,(by rfl),(by exact h1),(by exact h2),(by exact h3),(by exact h9),by rw[hlen]<;>first|rfl|simp only[eE,seval],by rw[←hk]<;>exact QM _ _ _⟩

def G0 (c:UInt8):Bool:=decide (97≤c.toNat)&&decide (c.toNat≤122)
def G3 (c:UInt8):Bool:=decide (65≤c.toNat)&&decide (c.toNat≤90)

theorem Qkd (c:UInt8):Qu Tryz.prog 202 [.int .u8 (c.toNat:Nat)] (.bool (G0 c)):=by
 refine Qs6.fn (by simp) ?_;have e1:decide ((c.toNat:Int)≥97)=decide (97≤c.toNat):=by rw[decide_eq_decide];omega
 have e2:decide ((c.toNat:Int)≤122)=decide (c.toNat≤122):=by rw[decide_eq_decide];omega
 simp only[e1,G0,Qa,seval];cases h:decide (97≤c.toNat)<;>simp only[e2,QAC,QAs,Qa,seval]

theorem Qke (c:UInt8):Qu Tryz.prog 203 [.int .u8 (c.toNat:Nat)] (.bool (G3 c)):=by
 refine Qs9.fn (by simp) ?_;have e1:decide ((c.toNat:Int)≥65)=decide (65≤c.toNat):=by rw[decide_eq_decide];omega
 have e2:decide ((c.toNat:Int)≤90)=decide (c.toNat≤90):=by rw[decide_eq_decide];omega
 simp only[e1,G3,Qa,seval];cases h:decide (65≤c.toNat)<;>simp only[e2,QAC,QAs,Qa,seval]

theorem Mm (c:UInt8):ZJ c=(G0 c||G3 c || !((c.toNat:Int) != 95) || !(decide ((c.toNat:Int)<48)||decide ((c.toNat:Int) > 57))):=by
 unfold ZJ Z1 G0 G3;generalize c.toNat=x;rw[QzY];simp only[Qz1,Qzz,QAl,QzA,Qz0,bne_eq_false_iff_eq,QzX,QAN];omega

def PrI (s:List UInt8)(k:Nat)(st:St):Prop :=
 ∃f i,st=⟨f,[Qh],[]⟩∧k=s.length-i∧1≤i∧Q7 (pq s) i=true∧f 0=.str s∧f 3=.int .i64 (i:Nat)

theorem Mn (s:List UInt8):Qu Tryz.prog 170 [.str s] (.bool (QU s)):=by
 refine Qsp.fn (by simp) ?_;simp only[Qa,seval];by_cases hl:s.length=0
 ·have d0:((s.length:Int)==0)=true:=by rw[hl];rfl
  have e:QU s=false:=by rw[JJ,hl];rfl
  simp only[d0,e,Qa,seval]
 have d0:((s.length:Int)==0)=false:=by rw[QAO];omega
 by_cases hm:s.length≤40
 case neg=>
  have d1:decide ((s.length:Int) > 40)=true:=QAM (by omega);have e:QU s=false:=by rw[JJ,QAR hm,QAP,QAs]
  simp only[d0,d1,e,Qa,seval]
 have d1:decide ((s.length:Int) > 40)=false:=QAR (by omega);have hp:QU s=Q7 (pq s) s.length:=by rw[JJ,QAM hm,QAM (by omega:1≤s.length)];rfl
 obtain⟨c,hc⟩:∃c,s[0]? = some c:=⟨s[0]'(by omega),Qzf (by omega)⟩;have hq0:Q7 (pq s) 1=(G0 c||G3 c):=by
  show(true&&pq s 0)=_;rw[Kp hc,Qzk rfl];rfl
 have h1:=Qkd c;have h2:=Qke c;have hn:Q7 (pq s) 1=false→QU s=false:=fun h=>by
  rw[hp,QAH];intro h';rw[QW.2 fun k hk=>QW.1 h' k (by omega)]at h;cases h
 have z1:Int.toNat 0=0:=rfl;have go:Q7 (pq s) 1=true→∀(f:Fr),f 0=.str s→f 3=.int .i64 1→∀Q:Exit→St→Prop,(∀f,Q7 (pq s) s.length=true→Q (.exit 0) ⟨f,[Qh],[]⟩)→(∀f,f 2=.bool false→Q7 (pq s) s.length=false→Q .ret ⟨f,[Qh],[]⟩)→QE Tryz.prog (.loop VU) ⟨f,[Qh],[]⟩ Q:=by
  intro hq1 f h0 h3 Q hx hr;refine Qe (PrI s) _ ⟨_,1,rfl,rfl,Qzc _,hq1,h0,h3⟩ ?_;clear h0 h3 hc hq0 h1 h2 hn;rintro _ st ⟨f,i,rfl,rfl,h1i,hx1,h0,h3⟩;simp only[h0,h3,Qa,seval];by_cases hlt:i<s.length
  ·obtain⟨c,hc⟩:∃c,s[i]? = some c:=⟨s[i],Qzf hlt⟩;have e1:=Qn i _ hlt (by simp only[maxLen];omega);have hs1:=Qkd c;have hs2:=Qke c;have hstep:Q7 (pq s) (i+1)=ZJ c:=by
    rw[Q7,hx1,QAC,Kp hc,Qzj (by omega)]
   have hend:ZJ c=false→Q7 (pq s) s.length=false:=fun h=>by
    rw[QAH];intro h';rw[QW.2 fun k hk=>QW.1 h' k (by omega)]at hstep;rw[h]at hstep;cases hstep
   have fin:∀f':Fr,ZJ c=true→f' 0=.str s→f' 3=.int .i64 ((i+1:Nat):Int)→∃k,k<s.length-i∧PrI s k ⟨f',[Qh],[]⟩:=by
    intro f' hp h0 h3;exact⟨s.length-(i+1),by omega,f',i+1,rfl,rfl,by omega,by rw[hstep,hp],h0,h3⟩
   have hpc:=Mm c;simp only[QA hlt,Qk,QAq,hc,h0,h3,Qa,seval];refine aC hs1 ?_;cases a1:G0 c
   ·simp only[Qk,QAq,hc,h0,h3,QAb,Qa,seval];refine aC hs2 ?_;cases a2:G3 c
    ·cases a3:((c.toNat:Int) != 95)
     ·rw[a1,a2,a3]at hpc;simp only[a3,Qk,QAq,hc,h0,h3,e1,QAb,Qa,seval];exact fin _ (by rw[hpc];rfl) (by exact h0) (by rfl)
     ·cases a4:decide ((c.toNat:Int)<48)
      ·cases a5:decide ((c.toNat:Int) > 57)
       ·rw[a1,a2,a3,a4,a5]at hpc;simp only[a3,a4,a5,Qk,QAq,hc,h0,h3,e1,QAb,Qa,seval];exact fin _ (by rw[hpc];rfl) (by exact h0) (by rfl)
       ·rw[a1,a2,a3,a4,a5]at hpc;simp only[a3,a4,a5,Qk,QAq,hc,h0,h3,QAb,Qa,seval];exact hr _ (by rfl) (hend (by rw[hpc];rfl))
      ·rw[a1,a2,a3,a4]at hpc;simp only[a3,a4,Qk,QAq,hc,h0,h3,QAb,Qa,seval];exact hr _ (by rfl) (hend (by rw[hpc];rfl))
    ·rw[a1,a2]at hpc;simp only[h3,e1,QAD,Qa,seval];exact fin _ (by rw[hpc];rfl) (by exact h0) (by rfl)
   ·rw[a1]at hpc;simp only[h3,e1,QAD,Qa,seval];exact fin _ (by rw[hpc];rfl) (by exact h0) (by rfl)
  ·simp only[QC hlt,Qa,seval];exact hx _ (QW.2 fun k hk=>QW.1 hx1 k (by omega))
 simp only[d0,d1,z1,hc,Qa,seval];refine aC h1 ?_;cases a1:G0 c
 ·simp only[z1,hc,QAb,Qa,seval];refine aC h2 ?_;cases a2:G3 c
  ·rw[a1,a2]at hq0;simp only[hn hq0,QAb,Qa,seval]
  ·rw[a1,a2]at hq0;simp only[QAD,Qa,seval];refine go hq0 _ (by rfl) (by rfl) _ (fun f h=>?_) (fun f h2 h=>?_)
   ·simp only[hp,h,Qa,seval]
   ·simp only[hp,h,h2,Qa,seval]
 ·rw[a1,QAE]at hq0;simp only[QAD,Qa,seval];refine go hq0 _ (by rfl) (by rfl) _ (fun f h=>?_) (fun f h2 h=>?_)
  ·simp only[hp,h,Qa,seval]
  ·simp only[hp,h,h2,Qa,seval]

theorem Qkf (s:List UInt8):Qu Tryz.prog 169 [.str s] (.bool (Za s)):=by
 refine Qsm.fn (by simp) ?_;simp only[Qx,Qa,seval];have e:Za s=KX.any fun w=>s==w:=rfl
 simp only[KX,List.any_cons,List.any_nil,QAQ]at e
 repeat' (first|(refine XM (fun h=>?_) (fun h=>?_)<;>simp only[h,Qx,Qa,seval])|(refine Zl (fun h=>?_) (fun h=>?_)<;>simp only[h,Qj,Qx,eE,seval])|(refine Zm (fun h=>?_) (fun h=>?_)<;>simp only[h,Qj,Qx,eE,seval]))
 all_goals(simp only[*,QAE,Bool.or_true,QAQ]at e;simp only[e])

def FuI (s:List UInt8)(k:Nat)(st:St):Prop :=
 ∃f i p,st=⟨f,[Qh],[]⟩∧k=s.length-i∧i≤s.length∧p.length≤i∧(∀c∈p,c≠(46:UInt8))∧(Qg s).all QU=(Qg (p++s.drop i)).all QU∧f 0=.str s∧f 3=.str p∧f 4=.int .i64 (i:Nat)

theorem QuN (s:List UInt8):Qu Tryz.prog 167 [.str s] (.bool (decide (s.length≤120)&&(Qg s).all QU)):=by
 refine Qsg.fn (by simp) ?_;simp only[Qa,seval];by_cases hm:s.length≤120
 case neg=>
  have d1:decide ((s.length:Int) > 120)=true:=QAM (by omega);simp only[d1,QAR hm,QAs,Qa,seval]
 have d1:decide ((s.length:Int) > 120)=false:=QAR (by omega);simp only[d1,QAM hm,QAC,Qa,seval];refine Qe (FuI s) _ ⟨_,0,[],rfl,rfl,Qzl _,Qzc _,by simp,rfl,(by rfl),(by rfl),(by rfl)⟩ ?_;rintro _ st ⟨f,i,p,rfl,rfl,hi,hpl,hpd,hx,h0,h3,h4⟩;simp only[h0,h4,Qa,seval];by_cases hlt:i<s.length
 ·obtain⟨c,hc⟩:∃c,s[i]? = some c:=⟨s[i],Qzf hlt⟩;have e1:=Qn i _ hlt (by simp only[maxLen];omega);have hd:s.drop i=c :: s.drop (i+1):=by
   rw[QzR hlt];congr 1
   exact(Qze.1 hc).2
  have hts:(s.drop i).take (i+1-i)=[c]:=by
   rw[hd,show i+1-i=1 by omega];rfl
  simp only[QA hlt,Qk,QAq,hc,h0,h4,Qa,seval];by_cases hdot:c=46
  ·subst hdot;have b0:((((46:UInt8).toNat:Nat):Int) != 46)=false:=rfl;have hs:(Qg s).all QU=(QU p&&(Qg (s.drop (i+1))).all QU):=by
    rw[hx,hd,Y3 hpd];rfl
   simp only[h3,Qa,seval];refine aC (Mn p) ?_;cases hp:QU p
   ·rw[hp,QAs]at hs;simp only[hs,QAb,Qa,seval]
   ·rw[hp,QAC]at hs;simp only[h4,e1,QAD,Qa,seval];exact⟨s.length-(i+1),by omega,_,i+1,[],rfl,rfl,by omega,Qzl _,by simp,by rw[hs];rfl,(by exact h0),(by rfl),(by rfl)⟩
  ·have b0:(((c.toNat:Nat):Int) != 46)=true:=by
    rw[QzE];intro h
    apply hdot
    rw[←UInt8.toNat_inj];have:c.toNat=46:=by omega
    rw[this];rfl
   have hle:(i≤i+1∧i+1≤s.length)=True:=eq_true ⟨by omega,by omega⟩;have hsum:(p.length≤9223372036854775806)=True:=eq_true (by omega);simp only[b0,h0,h3,h4,e1,JN,ZM,Xq,Qk,QAq,hle,hts,Qx,hsum,Qa,seval];exact⟨s.length-(i+1),by omega,_,i+1,p++[c],rfl,rfl,by omega,by simp;omega,fun x hx=>by
    rcases List.mem_append.1 hx with h|h
    ·exact hpd x h
    ·simp at h;subst h;exact hdot,by rw[hx,hd];simp,(by exact h0),(by rfl),(by rfl)⟩
 ·have hx':(Qg s).all QU=QU p:=by
   rw[hx,QzL (by omega),Qz6,Ko hpd];simp
  simp only[QC hlt,h3,hx',Qa,seval];refine aC (Mn p) ?_;simp only[Qa,seval]

def Ky (s:List UInt8):Nat→Option Nat
 |0=>none
 |j+1=>if s[j]? = some 46 then some j else Ky s j

theorem Wv (s:List UInt8):∀n,match Ky s n with
  |none=>∀k,k<n→s[k]?≠some 46
  |some j=>j<n∧s[j]? = some 46∧∀k,j<k→k<n→s[k]?≠some 46
 |0=>by simp[Ky]
 |n+1=>by
  unfold Ky;split
  ·rename_i h;split at h
   ·cases h
   ·rename_i h';have:=Wv s n;rw[h]at this;intro k hk;rcases QAG.1 hk with h1|rfl
    ·exact this k h1
    ·exact h'
  ·rename_i j h;split at h
   ·rename_i h';cases h;exact⟨by omega,h',fun k h1 h2=>by omega⟩
   ·rename_i h';have:=Wv s n;rw[h]at this;exact⟨by omega,this.2.1,fun k h1 h2=>by
     rcases QAG.1 h2 with h3|rfl
     ·exact this.2.2 k h1 h3
     ·exact h'⟩

def Zt (s:List UInt8):List UInt8×List UInt8:=match Ky s s.length with
 |none=>([],s)
 |some j=>(s.take j,s.drop (j+1))

theorem G4 (s:List UInt8):((Zt s).1=[]∧(Zt s).2=s∧∀c∈s,c≠46)∨(s=(Zt s).1++46 :: (Zt s).2∧∀c∈(Zt s).2,c≠46):=by
 have h:=Wv s s.length;unfold Zt;cases hl:Ky s s.length with
 |none=>
  rw[hl]at h;refine .inl ⟨rfl,rfl,fun c hc e=>?_⟩;subst e;obtain⟨k,hk⟩:=Qzo.1 hc;exact h k (Qze.1 hk).1 hk
 |some j=>
  rw[hl]at h;obtain⟨h1,h2,h3⟩:=h;refine .inr ⟨?_,fun c hc e=>?_⟩
  ·have:s[j]=46:=(Qze.1 h2).2;show s=s.take j++46 :: s.drop (j+1);rw[←this,←QzR h1,QAg]
  ·subst e;obtain⟨k,hk⟩:=Qzo.1 hc;rw[QzO]at hk;exact h3 (j+1+k) (by omega) (Qze.1 hk).1 hk

def SdI (s:List UInt8)(k:Nat)(st:St):Prop :=
 ∃f,st=⟨f,[Qh],[]⟩∧k≤s.length∧Ky s s.length=Ky s k∧f 0=.str s∧f 4=.int .i64 ((k:Int)-1)

theorem QuO (s:List UInt8)(hs:s.length≤120):Qu Tryz.prog 168 [.str s] (.tup [.str (Zt s).1,.str (Zt s).2]):=by
 refine Qsj.fn (by simp) ?_;have w0:IntKind.i64.wrap ((s.length:Int)-1)=(s.length:Int)-1:=by rw[ZE];omega
 simp only[w0,Qa,seval];refine Qe (SdI s) _ ⟨_,rfl,Qzc _,rfl,(by rfl),(by rfl)⟩ ?_;rintro k st ⟨f,rfl,hk,hx,h0,h4⟩;simp only[h4,Qa,seval];cases k with
 |zero=>
  have d0:decide (((0:Nat):Int)-1≥0)=false:=rfl;have e:Zt s=([],s):=by unfold Zt;rw[hx];rfl
  simp only[e,h0,Qa,seval]
 |succ j=>
  have j1:((j+1:Nat):Int)-1=(j:Int):=by omega
  have d0:decide (((j:Nat):Int)≥0)=true:=QAM (by omega);have w1:IntKind.i64.wrap ((j:Int)-1)=(j:Int)-1:=by rw[ZE];omega
  have w2:IntKind.i64.wrap ((j:Int)+1)=((j+1:Nat):Int):=by rw[ZE];omega
  obtain⟨c,hc⟩:∃c,s[j]? = some c:=⟨s[j]'(by omega),Qzf (by omega)⟩;simp only[j1,Qk,QAq,hc,h0,h4,Qa,seval];by_cases hdot:c=46
  ·subst hdot;have b0:((((46:UInt8).toNat:Nat):Int)==46)=true:=rfl;have e:Zt s=(s.take j,s.drop (j+1)):=by
    unfold Zt;rw[hx];show(match (if s[j]? = some 46 then some j else Ky s j)with|none=>([],s)|some j=>(s.take j,s.drop (j+1)))=_;rw[Qzk hc]
   have hle:(0≤j∧j≤s.length)=True:=eq_true ⟨by omega,by omega⟩;have hle2:(j+1≤s.length∧s.length≤s.length)=True:=eq_true ⟨by omega,Qzc _⟩;have ht:((s.drop 0).take j)=s.take j:=by simp
   have ht2:((s.drop (j+1)).take (s.length-(j+1)))=s.drop (j+1):=QzJ (by simp);simp only[w2,j1,e,JN,ZM,Xq,Nat.sub_zero,Qk,QAq,hle,hle2,ht2,h0,h4,Qa,seval]
  ·have b0:(((c.toNat:Nat):Int)==46)=false:=by
    rw[QAO];intro h
    apply hdot
    rw[←UInt8.toNat_inj];have:c.toNat=46:=by omega
    rw[this];rfl
   have hne:¬s[j]? = some 46:=fun h=>by rw[hc]at h;cases h;exact hdot rfl
   simp only[b0,j1,w1,h4,Qa,seval];exact⟨j,by omega,_,rfl,by omega,by rw[hx];show(if s[j]? = some 46 then some j else Ky s j)=_;rw[Qzj hne],(by exact h0),(by rfl)⟩

def Ce (u:List UInt8):Bool:=if u=[]then false else(Qg u).any Za

theorem Qkg (s:List UInt8)(hs:s.length≤17592186044000):Qu Tryz.prog 134 [.str s,.str [46]] (.list ((Qg s).map Qi)):=by
 refine Qa4.fn (by simp) ?_;simp only[Qa,seval];refine aC (QuM s hs) ?_;simp only[Qa,seval]

def IfI (s:List UInt8)(k:Nat)(st:St):Prop :=
 ∃f i,st=⟨f,[Qh],[]⟩∧k=(Qg s).length-i∧((Qg s).take i).all QU=true∧f 0=.str s∧f 6=.list ((Qg s).map Qi)∧f 7=.int .i64 ((Qg s).length:Nat)∧f 8=.int .i64 (i:Nat)

theorem QuP (s:List UInt8)(hs:s.length≤17592186044000):Qu Tryz.prog 132 [.str s] (.bool (decide (s.length≤120)&&(Qg s).all QU)):=by
 have hl:=Wu s;have hc:s.count 46≤s.length:=List.count_le_length;refine QaZ.fn (by simp) ?_;simp only[Qa,seval];refine aC (Qkg s hs) ?_;simp only[QAo,Qa,seval];refine Qe (IfI s) _ ⟨_,0,rfl,rfl,rfl,(by rfl),(by rfl),(by rfl),(by rfl)⟩ ?_;rintro _ st ⟨f,i,rfl,rfl,hx,h0,h6,h7,h8⟩;simp only[h7,h8,Qa,seval];by_cases hlt:i<(Qg s).length
 ·obtain⟨x,hi⟩:∃x,(Qg s)[i]? = some x:=⟨(Qg s)[i],Qzf hlt⟩;have hg:((Qg s).map Qi)[i]? = some (.str x):=by simp[hi,Qi]
  have e1:=Qn i _ hlt (by simp only[maxLen];omega);have ht:=Mj (q:=QU) hi;rw[hx,QAC]at ht;simp only[QA hlt,Qk,QAq,Qc,hg,h6,h8,eE,seval];refine aC (Qkb x) ?_;cases hp:QU x
  ·have hf:(Qg s).all QU=false:=by
    rw[QAH];intro h';rw[Qzp.1 h' x (Qzq hi)]at hp;cases hp
   simp only[hf,QAb,QAP,Qa,seval]
  ·rw[hp]at ht;simp only[h8,e1,QAD,Qa,seval];exact⟨(Qg s).length-(i+1),by omega,_,i+1,rfl,rfl,ht,(by exact h0),(by exact h6),(by exact h7),(by rfl)⟩
 ·rw[QzJ (by omega)]at hx;have e:decide ((s.length:Int)≤120)=decide (s.length≤120):=by rw[decide_eq_decide];omega
  simp only[QC hlt,h0,hx,e,QAf,Qa,seval]

theorem QoZ (s:List UInt8)(m:Qo):Qq Tryz.prog 135 [Qi s] m fun y m1=>y=.bool (Za s)∧m1=m:=by
 refine Mg.go (by simp) ?_;simp only[Qi,Qx,Qa,seval];have e:Za s=KX.any fun w=>s==w:=rfl
 simp only[KX,List.any_cons,List.any_nil,QAQ]at e
 repeat' (first|(refine XM (fun h=>?_) (fun h=>?_)<;>simp only[h,Qx,Qa,seval])|(refine Zl (fun h=>?_) (fun h=>?_)<;>simp only[h,Qj,Qx,eE,seval])|(refine Zm (fun h=>?_) (fun h=>?_)<;>simp only[h,Qj,Qx,eE,seval]))
 all_goals(simp only[*,QAE,Bool.or_true,QAQ]at e;simp only[e])

section
variable (m:Qo)

end

section
variable {M:Nat}(P:PL)(hP:P.ok M)(hM:M≤17592186044000)
include hP hM

end

theorem Hr (n c:Nat):AV.shN n (.fn (.func c) [] [])=.fn (.func c) [] []:=by
 induction n with
 |zero=>rfl
 |succ n ih=>rw[AV.shN,ih];rfl

section
variable (L:List PO)(hl:L.length≤maxLen)(nm:PO→List UInt8)(c:Nat)(m:Qo)

end

section
variable (L:List PI)(hl:L.length≤maxLen)(nm:PI→List UInt8)(c:Nat)(m:Qo)

end

section
variable {M:Nat}(P:PL)(hP:P.ok M)
include hP

end

theorem QuQ (x:PS)(n:Int)(fr:Nat→Ob)(m:Qo)(h3:fr 3=.cells [.int .i64 n]):Qq Tryz.prog 184 [Q0 x,.ptr 2 3 0] (Qh :: Qh :: fr :: m) fun y m1=>y=.bool (decide (x.lo≤n)&&decide (n≤x.hi))∧m1=Qh :: Qh :: fr :: m:=by
 refine QsN.go (by simp) ?_;simp only[Q0,PS.cells,h3,eE,seval];cases h:decide (x.lo≤n)<;>simp only[h3,QAC,QAs,eE,seval]

theorem Qkh (L:List PS)(hl:L.length≤maxLen)(n:Int):Qu Tryz.prog 142 [.list (L.map Q0),.int .i64 n] (.bool (kept L n)):=by
 refine Qak.fn (by simp) ?_;simp only[eE,seval];refine Qb (QuE L hl (fun x=>decide (x.lo≤n)&&decide (n≤x.hi)) 184 [.ptr 0 3 0] _ fun o _=>QuQ o n _ _ (by rfl)) (by simp only[QzI,Qz4,Qa,seval]<;>rfl) ?_;simp only[kept,Qa,seval]

end Go.Proofs.YtaiflhahcglpgaaGreatDoor.Va

namespace Go.Proofs.YtaiflhahcglpgaaGreatDoor.Va
open Go Am Rc Bt

def bt (s:List UInt8)(i lo hi:Nat):Bool :=
 match s[i]? with
 |some b=>decide (lo≤b.toNat)&&decide (b.toNat≤hi)
 |none=>false
def tl (s:List UInt8):Nat→Nat→Bool
 |_,0=>true
 |i,n+1=>bt s i 128 191&&tl s (i+1) n
def UZ (s:List UInt8)(i b:Nat):Nat :=
 if b<128 then 1
 else if 194≤b∧b≤223∧tl s (i+1) 1=true then 2
 else if b=224∧bt s (i+1) 160 191=true∧tl s (i+2) 1=true then 3
 else if b=237∧bt s (i+1) 128 159=true∧tl s (i+2) 1=true then 3
 else if 225≤b∧b≤239∧b≠237∧tl s (i+1) 2=true then 3
 else if b=240∧bt s (i+1) 144 191=true∧tl s (i+2) 2=true then 4
 else if 241≤b∧b≤243∧tl s (i+1) 3=true then 4
 else if b=244∧bt s (i+1) 128 143=true∧tl s (i+2) 2=true then 4
 else 0
def sz (s:List UInt8)(i:Nat):Nat :=
 match s[i]? with
 |none=>0
 |some c=>UZ s i c.toNat
def Zu (s:List UInt8):Nat→Nat→Int
 |0,_=>-1
 |k+1,i=>if i<s.length then(if sz s i=0 then(i:Int)else Zu s k (i+sz s i))else -1
def Z2 (s:List UInt8):Bool:=decide (Zu s s.length 0<0)

theorem QuR (c:UInt8)(n:Nat):decide ((c.toNat:Int)≥(n:Int))=decide (n≤c.toNat):=by simp
theorem QuS (c:UInt8)(n:Nat):decide ((c.toNat:Int)≤(n:Int))=decide (c.toNat≤n):=by simp

theorem G5 (s:List UInt8)(i lo hi:Nat):Qu Tryz.prog 232 [.str s,.int .i64 (i:Nat),.int .u8 (lo:Nat),.int .u8 (hi:Nat)] (.bool (bt s i lo hi)):=by
 refine Qt0.fn (by simp) ?_;by_cases hlt:i<s.length
 ·obtain⟨c,hc⟩:∃c,s[i]? = some c:=⟨s[i],Qzf hlt⟩;have hb:bt s i lo hi=(decide (lo≤c.toNat)&&decide (c.toNat≤hi)):=by simp only[bt,hc]
  simp only[QA hlt,Qk,QAq,hc,QuR,Qa,seval];by_cases h1:lo≤c.toNat
  ·have d1:decide (lo≤c.toNat)=true:=by simpa using h1
   simp only[d1,Qk,QAq,hc,hb,QuS,QAC,Qa,seval]
  ·have d1:decide (lo≤c.toNat)=false:=by simpa using h1
   simp only[d1,hb,QAs,Qa,seval]
 ·have hb:bt s i lo hi=false:=by simp only[bt,QAn (Nat.le_of_not_lt hlt)]
  simp only[QC hlt,hb,Qa,seval]

def Qo0 (s:List UInt8)(i n:Nat)(k:Nat)(st:St):Prop :=
 ∃f j,st=⟨f,[Qh],[]⟩∧k=n-j∧j≤n∧tl s i n=tl s (i+j) (n-j)∧f 0=.str s∧f 1=.int .i64 (i:Nat)∧f 2=.int .i64 (n:Nat)∧f 7=.int .i64 (j:Nat)

theorem ZX (a b:Nat)(h:a+b≤maxLen):IntKind.i64.wrap ((a:Int)+(b:Int))=((a+b:Nat):Int):=by
 simp only[maxLen]at h;rw[ZE];omega

theorem Ye (s:List UInt8)(i n:Nat)(hi:i+n≤maxLen):Qu Tryz.prog 231 [.str s,.int .i64 (i:Nat),.int .i64 (n:Nat)] (.bool (tl s i n)):=by
 refine QtX.fn (by simp) ?_;simp only[Qa,seval];refine Qe (Qo0 s i n) _ ⟨_,0,rfl,rfl,Qzl _,rfl,rfl,rfl,rfl,rfl⟩ ?_;rintro _ st ⟨f,j,rfl,rfl,hj,ht,h0,h1,h2,h7⟩;simp only[h2,h7,Qa,seval];by_cases hlt:j<n
 ·have e0:=ZX i j (by omega);have e1:=Qn j _ hlt (by omega);simp only[QA hlt,h0,h1,h7,e0,Qa,seval];refine aC (G5 s (i+j) 128 191) ?_;have hs:tl s i n=(bt s (i+j) 128 191&&tl s (i+(j+1)) (n-(j+1))):=by
   rw[ht];obtain⟨m,hm⟩:∃m,n-j=m+1:=⟨n-j-1,by omega⟩;rw[hm,show n-(j+1)=m by omega];rfl
  cases hb:bt s (i+j) 128 191
  ·rw[hb]at hs;simp only[hs,QAs,Qa,seval]
  ·rw[hb,QAC]at hs;simp only[h7,e1,Qa,seval];exact⟨n-(j+1),by omega,_,j+1,rfl,rfl,by omega,hs,(by exact h0),(by exact h1),(by exact h2),(by rfl)⟩
 ·have hs:tl s i n=true:=by
   rw[ht,show n-j=0 by omega];rfl
  simp only[QC hlt,hs,Qa,seval]

def G6 (s:List UInt8)(i:Nat)(c:UInt8)(D:Nat)(cond:Prop)(g:List Am.Item):Prop :=
 ∀Q:St→Prop,(∀f' B,(B=true↔cond)→f' 0=.str s→f' 1=.int .i64 (i:Nat)→f' 5=.int .u8 (c.toNat:Nat)→f' D=.bool B→Q ⟨f',[Qh],[]⟩)→
  ∀f,f 0=.str s→f 1=.int .i64 (i:Nat)→f 5=.int .u8 (c.toNat:Nat)→Ql Tryz.prog g ⟨f,[Qh],[]⟩ Q

section
variable {s:List UInt8}{i:Nat}{c:UInt8}(hi:i<s.length)(hs:s.length+8≤maxLen)
include hi hs

theorem QuT:G6 s i c 12 (194≤c.toNat∧c.toNat≤223∧tl s (i+1) 1=true) GW:=by
 intro Q hQ f h0 h1 h5;have e1:IntKind.i64.wrap ((i:Int)+1)=((i+1:Nat):Int):=ZX i 1 (by omega);have e2:IntKind.i64.wrap ((i:Int)+2)=((i+2:Nat):Int):=ZX i 2 (by omega);simp only[GW,h5,Qa,seval]
 repeat' (first|(refine XM (fun h=>?_) (fun h=>?_)<;>simp only[h,h0,h1,h5,e1,e2,eE,seval])|(refine Zl (fun h=>?_) (fun h=>?_)<;>simp only[h,Qj,h0,h1,h5,e1,Qa,seval])|(refine Zm (fun h=>?_) (fun h=>?_)<;>simp only[h,Qj,h0,h1,h5,e1,e2,eE,seval])|((with_reducible apply Q4 (k:=231));(case hy=>rfl);(case h1=>rfl);(case hk=>exact Ye s (i+1) 1 (by omega));(case h2=>rfl);(case h3=>first|exact .inl rfl|exact .inr rfl);simp only[Qa,seval]))
 all_goals(refine hQ _ _ ?_ (by exact h0) (by exact h1) (by exact h5) rfl)
 all_goals simp only[QAl,QAN]at *
 all_goals
  constructor
  ·intro hh
   first
    |cases hh
    |(refine⟨by omega,?_⟩;first|exact hh|(refine⟨by omega,?_⟩;first|exact hh|(refine⟨by omega,?_⟩;exact hh))|exact⟨by assumption,hh⟩)
  ·intro hh
   first
    |exact hh.2.2.2
    |exact hh.2.2
    |(exfalso;omega)
    |(exfalso;simp_all;done)

theorem QuU:G6 s i c 25 (c.toNat=224∧bt s (i+1) 160 191=true∧tl s (i+2) 1=true) GX:=by
 intro Q hQ f h0 h1 h5;have e1:IntKind.i64.wrap ((i:Int)+1)=((i+1:Nat):Int):=ZX i 1 (by omega);have e2:IntKind.i64.wrap ((i:Int)+2)=((i+2:Nat):Int):=ZX i 2 (by omega);simp only[GX,h5,Qa,seval]
 repeat' (first|(refine XM (fun h=>?_) (fun h=>?_)<;>simp only[h,h0,h1,h5,e1,e2,eE,seval])|(refine Zl (fun h=>?_) (fun h=>?_)<;>simp only[h,Qj,h0,h1,e1,e2,Qa,seval])|(refine Zm (fun h=>?_) (fun h=>?_)<;>simp only[h,Qj,h0,h1,h5,e1,e2,eE,seval])|((with_reducible apply Q4 (k:=232));(case hy=>rfl);(case h1=>rfl);(case hk=>exact G5 s (i+1) 160 191);(case h2=>rfl);(case h3=>first|exact .inl rfl|exact .inr rfl);simp only[Qa,seval])|((with_reducible apply Q4 (k:=231));(case hy=>rfl);(case h1=>rfl);(case hk=>exact Ye s (i+2) 1 (by omega));(case h2=>rfl);(case h3=>first|exact .inl rfl|exact .inr rfl);simp only[Qa,seval]))
 all_goals(refine hQ _ _ ?_ (by exact h0) (by exact h1) (by exact h5) rfl)
 all_goals simp only[QzA,QAO,ne_eq]at *
 all_goals
  constructor
  ·intro hh
   first
    |cases hh
    |(refine⟨by omega,?_⟩;first|exact hh|(refine⟨by omega,?_⟩;first|exact hh|(refine⟨by omega,?_⟩;exact hh))|exact⟨by assumption,hh⟩)
  ·intro hh
   first
    |exact hh.2.2.2
    |exact hh.2.2
    |(exfalso;omega)
    |(exfalso;simp_all;done)

theorem QuV:G6 s i c 40 (c.toNat=237∧bt s (i+1) 128 159=true∧tl s (i+2) 1=true) GY:=by
 intro Q hQ f h0 h1 h5;have e1:IntKind.i64.wrap ((i:Int)+1)=((i+1:Nat):Int):=ZX i 1 (by omega);have e2:IntKind.i64.wrap ((i:Int)+2)=((i+2:Nat):Int):=ZX i 2 (by omega);simp only[GY,h5,Qa,seval]
 repeat' (first|(refine XM (fun h=>?_) (fun h=>?_)<;>simp only[h,h0,h1,h5,e1,e2,eE,seval])|(refine Zl (fun h=>?_) (fun h=>?_)<;>simp only[h,Qj,h0,h1,e1,e2,Qa,seval])|(refine Zm (fun h=>?_) (fun h=>?_)<;>simp only[h,Qj,h0,h1,h5,e1,e2,eE,seval])|((with_reducible apply Q4 (k:=232));(case hy=>rfl);(case h1=>rfl);(case hk=>exact G5 s (i+1) 128 159);(case h2=>rfl);(case h3=>first|exact .inl rfl|exact .inr rfl);simp only[Qa,seval])|((with_reducible apply Q4 (k:=231));(case hy=>rfl);(case h1=>rfl);(case hk=>exact Ye s (i+2) 1 (by omega));(case h2=>rfl);(case h3=>first|exact .inl rfl|exact .inr rfl);simp only[Qa,seval]))
 all_goals(refine hQ _ _ ?_ (by exact h0) (by exact h1) (by exact h5) rfl)
 all_goals simp only[QzA,QAO,ne_eq]at *
 all_goals
  constructor
  ·intro hh
   first
    |cases hh
    |(refine⟨by omega,?_⟩;first|exact hh|(refine⟨by omega,?_⟩;first|exact hh|(refine⟨by omega,?_⟩;exact hh))|exact⟨by assumption,hh⟩)
  ·intro hh
   first
    |exact hh.2.2.2
    |exact hh.2.2
    |(exfalso;omega)
    |(exfalso;simp_all;done)

theorem Qo1:G6 s i c 55 (225≤c.toNat∧c.toNat≤239∧c.toNat≠237∧tl s (i+1) 2=true) Uo:=by
 intro Q hQ f h0 h1 h5;have e1:IntKind.i64.wrap ((i:Int)+1)=((i+1:Nat):Int):=ZX i 1 (by omega);have e2:IntKind.i64.wrap ((i:Int)+2)=((i+2:Nat):Int):=ZX i 2 (by omega);simp only[Uo,h5,Qa,seval]
 repeat' (first|(refine XM (fun h=>?_) (fun h=>?_)<;>simp only[h,h0,h1,h5,e1,e2,eE,seval])|(refine Zl (fun h=>?_) (fun h=>?_)<;>simp only[h,Qj,h0,h1,h5,e1,Qa,seval])|(refine Zm (fun h=>?_) (fun h=>?_)<;>simp only[h,Qj,h0,h1,h5,e1,e2,eE,seval])|((with_reducible apply Q4 (k:=231));(case hy=>rfl);(case h1=>rfl);(case hk=>exact Ye s (i+1) 2 (by omega));(case h2=>rfl);(case h3=>first|exact .inl rfl|exact .inr rfl);simp only[Qa,seval]))
 all_goals(refine hQ _ _ ?_ (by exact h0) (by exact h1) (by exact h5) rfl)
 all_goals simp only[QAl,QAN,QzE,bne_eq_false_iff_eq,ne_eq]at *
 all_goals
  constructor
  ·intro hh
   first
    |cases hh
    |(refine⟨by omega,?_⟩;first|exact hh|(refine⟨by omega,?_⟩;first|exact hh|(refine⟨by omega,?_⟩;exact hh))|exact⟨by assumption,hh⟩)
  ·intro hh
   first
    |exact hh.2.2.2
    |exact hh.2.2
    |(exfalso;omega)
    |(exfalso;simp_all;done)

theorem Qo2:G6 s i c 72 (c.toNat=240∧bt s (i+1) 144 191=true∧tl s (i+2) 2=true) Uq:=by
 intro Q hQ f h0 h1 h5;have e1:IntKind.i64.wrap ((i:Int)+1)=((i+1:Nat):Int):=ZX i 1 (by omega);have e2:IntKind.i64.wrap ((i:Int)+2)=((i+2:Nat):Int):=ZX i 2 (by omega);simp only[Uq,h5,Qa,seval]
 repeat' (first|(refine XM (fun h=>?_) (fun h=>?_)<;>simp only[h,h0,h1,h5,e1,e2,eE,seval])|(refine Zl (fun h=>?_) (fun h=>?_)<;>simp only[h,Qj,h0,h1,e1,e2,Qa,seval])|(refine Zm (fun h=>?_) (fun h=>?_)<;>simp only[h,Qj,h0,h1,h5,e1,e2,eE,seval])|((with_reducible apply Q4 (k:=232));(case hy=>rfl);(case h1=>rfl);(case hk=>exact G5 s (i+1) 144 191);(case h2=>rfl);(case h3=>first|exact .inl rfl|exact .inr rfl);simp only[Qa,seval])|((with_reducible apply Q4 (k:=231));(case hy=>rfl);(case h1=>rfl);(case hk=>exact Ye s (i+2) 2 (by omega));(case h2=>rfl);(case h3=>first|exact .inl rfl|exact .inr rfl);simp only[Qa,seval]))
 all_goals(refine hQ _ _ ?_ (by exact h0) (by exact h1) (by exact h5) rfl)
 all_goals simp only[QzA,QAO,ne_eq]at *
 all_goals
  constructor
  ·intro hh
   first
    |cases hh
    |(refine⟨by omega,?_⟩;first|exact hh|(refine⟨by omega,?_⟩;first|exact hh|(refine⟨by omega,?_⟩;exact hh))|exact⟨by assumption,hh⟩)
  ·intro hh
   first
    |exact hh.2.2.2
    |exact hh.2.2
    |(exfalso;omega)
    |(exfalso;simp_all;done)

theorem Qo3:G6 s i c 87 (241≤c.toNat∧c.toNat≤243∧tl s (i+1) 3=true) Ur:=by
 intro Q hQ f h0 h1 h5;have e1:IntKind.i64.wrap ((i:Int)+1)=((i+1:Nat):Int):=ZX i 1 (by omega);have e2:IntKind.i64.wrap ((i:Int)+2)=((i+2:Nat):Int):=ZX i 2 (by omega);simp only[Ur,h5,Qa,seval]
 repeat' (first|(refine XM (fun h=>?_) (fun h=>?_)<;>simp only[h,h0,h1,h5,e1,e2,eE,seval])|(refine Zl (fun h=>?_) (fun h=>?_)<;>simp only[h,Qj,h0,h1,h5,e1,Qa,seval])|(refine Zm (fun h=>?_) (fun h=>?_)<;>simp only[h,Qj,h0,h1,h5,e1,e2,eE,seval])|((with_reducible apply Q4 (k:=231));(case hy=>rfl);(case h1=>rfl);(case hk=>exact Ye s (i+1) 3 (by omega));(case h2=>rfl);(case h3=>first|exact .inl rfl|exact .inr rfl);simp only[Qa,seval]))
 all_goals(refine hQ _ _ ?_ (by exact h0) (by exact h1) (by exact h5) rfl)
 all_goals simp only[QAl,QAN]at *
 all_goals
  constructor
  ·intro hh
   first
    |cases hh
    |(refine⟨by omega,?_⟩;first|exact hh|(refine⟨by omega,?_⟩;first|exact hh|(refine⟨by omega,?_⟩;exact hh))|exact⟨by assumption,hh⟩)
  ·intro hh
   first
    |exact hh.2.2.2
    |exact hh.2.2
    |(exfalso;omega)
    |(exfalso;simp_all;done)

theorem Qo4:G6 s i c 100 (c.toNat=244∧bt s (i+1) 128 143=true∧tl s (i+2) 2=true) Us:=by
 intro Q hQ f h0 h1 h5;have e1:IntKind.i64.wrap ((i:Int)+1)=((i+1:Nat):Int):=ZX i 1 (by omega);have e2:IntKind.i64.wrap ((i:Int)+2)=((i+2:Nat):Int):=ZX i 2 (by omega);simp only[Us,h5,Qa,seval]
 repeat' (first|(refine XM (fun h=>?_) (fun h=>?_)<;>simp only[h,h0,h1,h5,e1,e2,eE,seval])|(refine Zl (fun h=>?_) (fun h=>?_)<;>simp only[h,Qj,h0,h1,e1,e2,Qa,seval])|(refine Zm (fun h=>?_) (fun h=>?_)<;>simp only[h,Qj,h0,h1,h5,e1,e2,eE,seval])|((with_reducible apply Q4 (k:=232));(case hy=>rfl);(case h1=>rfl);(case hk=>exact G5 s (i+1) 128 143);(case h2=>rfl);(case h3=>first|exact .inl rfl|exact .inr rfl);simp only[Qa,seval])|((with_reducible apply Q4 (k:=231));(case hy=>rfl);(case h1=>rfl);(case hk=>exact Ye s (i+2) 2 (by omega));(case h2=>rfl);(case h3=>first|exact .inl rfl|exact .inr rfl);simp only[Qa,seval]))
 all_goals(refine hQ _ _ ?_ (by exact h0) (by exact h1) (by exact h5) rfl)
 all_goals simp only[QzA,QAO,ne_eq]at *
 all_goals
  constructor
  ·intro hh
   first
    |cases hh
    |(refine⟨by omega,?_⟩;first|exact hh|(refine⟨by omega,?_⟩;first|exact hh|(refine⟨by omega,?_⟩;exact hh))|exact⟨by assumption,hh⟩)
  ·intro hh
   first
    |exact hh.2.2.2
    |exact hh.2.2
    |(exfalso;omega)
    |(exfalso;simp_all;done)

end

theorem QuW (s:List UInt8)(i:Nat)(hi:i<s.length)(hs:s.length+8≤maxLen):Qu Tryz.prog 211 [.str s,.int .i64 (i:Nat)] (.int .i64 (sz s i:Nat)):=by
 refine Qtq.fn (by simp) ?_;obtain⟨c,hc⟩:∃c,s[i]? = some c:=⟨s[i],Qzf hi⟩;have hz:sz s i=UZ s i c.toNat:=by simp only[sz,hc]
 unfold UZ at hz;simp only[VV,VW,VX,VY,VZ,V1,V2,Fc,Fe,Ff,Fg,Fh,QiW,QiX,Qk,QAq,hc,Qa,seval];refine XM (fun h=>?_) (fun h=>?_)
 ·have h:c.toNat<128:=by simp at h;omega
  rw[hz,Qzk h];simp only[Qa,seval]
  try rfl
 have h:¬c.toNat<128:=by simp at h;omega
 rw[hz,Qzj h];simp only[Qa,seval];refine QuT hi hs _ (fun f B hB h0 h1 h5 hd=>?_) _ (by rfl) (by rfl) (by rfl);by_cases hB1:B=true
 ·rw[Qzk (hB.1 hB1)];subst hB1;simp only[hd,Qa,seval]
  try rfl
 rw[Qzj (fun hh=>hB1 (hB.2 hh))];have hB2:B=false:=by simpa using hB1
 subst hB2;simp only[hd,Qa,seval];refine QuU hi hs _ (fun f B hB h0 h1 h5 hd=>?_) _ (by exact h0) (by exact h1) (by exact h5);by_cases hB1:B=true
 ·rw[Qzk (hB.1 hB1)];subst hB1;simp only[hd,Qa,seval]
  try rfl
 rw[Qzj (fun hh=>hB1 (hB.2 hh))];have hB2:B=false:=by simpa using hB1
 subst hB2;simp only[hd,Qa,seval];refine QuV hi hs _ (fun f B hB h0 h1 h5 hd=>?_) _ (by exact h0) (by exact h1) (by exact h5);by_cases hB1:B=true
 ·rw[Qzk (hB.1 hB1)];subst hB1;simp only[hd,Qa,seval]
  try rfl
 rw[Qzj (fun hh=>hB1 (hB.2 hh))];have hB2:B=false:=by simpa using hB1
 subst hB2;simp only[hd,Qa,seval];refine Qo1 hi hs _ (fun f B hB h0 h1 h5 hd=>?_) _ (by exact h0) (by exact h1) (by exact h5);by_cases hB1:B=true
 ·rw[Qzk (hB.1 hB1)];subst hB1;simp only[hd,Qa,seval]
  try rfl
 rw[Qzj (fun hh=>hB1 (hB.2 hh))];have hB2:B=false:=by simpa using hB1
 subst hB2;simp only[hd,Qa,seval];refine Qo2 hi hs _ (fun f B hB h0 h1 h5 hd=>?_) _ (by exact h0) (by exact h1) (by exact h5);by_cases hB1:B=true
 ·rw[Qzk (hB.1 hB1)];subst hB1;simp only[hd,Qa,seval]
  try rfl
 rw[Qzj (fun hh=>hB1 (hB.2 hh))];have hB2:B=false:=by simpa using hB1
 subst hB2;simp only[hd,Qa,seval];refine Qo3 hi hs _ (fun f B hB h0 h1 h5 hd=>?_) _ (by exact h0) (by exact h1) (by exact h5);by_cases hB1:B=true
 ·rw[Qzk (hB.1 hB1)];subst hB1;simp only[hd,Qa,seval]
  try rfl
 rw[Qzj (fun hh=>hB1 (hB.2 hh))];have hB2:B=false:=by simpa using hB1
 subst hB2;simp only[hd,Qa,seval];refine Qo4 hi hs _ (fun f B hB h0 h1 h5 hd=>?_) _ (by exact h0) (by exact h1) (by exact h5);by_cases hB1:B=true
 ·rw[Qzk (hB.1 hB1)];subst hB1;simp only[hd,Qa,seval]
  try rfl
 rw[Qzj (fun hh=>hB1 (hB.2 hh))];have hB2:B=false:=by simpa using hB1
 subst hB2;simp only[hd,Qa,seval]
 try rfl

theorem RL (s:List UInt8)(i:Nat)(hi:i<s.length)(_h:sz s i≠0):i+sz s i≤s.length:=by
 have tl1:∀n j,tl s j n=true→n≠0→j+n≤s.length:=by
  intro n
  induction n with
  |zero=>intro j _ h;exact absurd rfl h
  |succ n ih=>
   intro j hj _;simp only[tl,Qzz]at hj;have hb:j<s.length:=by
    have h1:=hj.1;unfold bt at h1;split at h1
    ·rename_i b hb;exact(Qze.1 hb).1
    ·cases h1
   by_cases h0:n=0
   ·subst h0;omega
   ·have:=ih (j+1) hj.2 h0;omega
 obtain⟨c,hc⟩:∃c,s[i]? = some c:=⟨s[i],Qzf hi⟩;simp only[sz,hc]at _h ⊢;unfold UZ at _h ⊢
 (repeat' split)<;>first
  |omega
  |(rename_i hh;have:=tl1 _ _ hh.2.2 (by decide);omega)
  |(rename_i hh;have:=tl1 _ _ hh.2.2.2 (by decide);omega)
  |simp_all

def QuX (s:List UInt8)(k:Nat)(st:St):Prop :=
 ∃f i,st=⟨f,[Qh],[]⟩∧i≤s.length∧s.length-i≤k∧Zu s s.length 0=Zu s k i∧f 0=.str s∧f 3=.int .i64 (i:Nat)

theorem QuY (s:List UInt8)(hs:s.length+8≤maxLen):Qu Tryz.prog 176 [.str s] (.int .i64 (Zu s s.length 0)):=by
 refine QsH.fn (by simp) ?_;simp only[Qa,seval];refine Qe (QuX s) s.length ⟨_,0,rfl,Qzl _,Qzc _,rfl,rfl,rfl⟩ ?_;rintro k st ⟨f,i,rfl,hi,hk,hb,h0,h3⟩;simp only[h0,h3,Qa,seval];by_cases hlt:i<s.length
 ·simp only[QA hlt,h0,h3,Qa,seval];refine aC (QuW s i hlt hs) ?_;obtain⟨k,rfl⟩:∃n,k=n+1:=⟨k-1,by omega⟩;have hbk:Zu s (k+1) i=if sz s i=0 then(i:Int)else Zu s k (i+sz s i):=by
   show(if i<s.length then _ else _)=_;rw[Qzk hlt]
  by_cases hz:sz s i=0
  ·have b0:((sz s i:Int)==0)=true:=by simp[hz]
   simp only[b0,h3,hb,hbk,Qzk hz,Qa,seval]
  ·have b0:((sz s i:Int)==0)=false:=by simp;omega
   have hle:=RL s i hlt hz;have e0:=ZX i (sz s i) (by omega);simp only[b0,h3,e0,Qa,seval];exact⟨k,by omega,_,i+sz s i,rfl,hle,by omega,by rw[hb,hbk,Qzj hz],(by exact h0),(by rfl)⟩
 ·have hbk:Zu s k i = -1:=by
   cases k with
   |zero=>rfl
   |succ k=>
    show(if i<s.length then _ else _)=_;rw[Qzj hlt]
  simp only[QC hlt,hb,hbk,Qa,seval]

theorem Qki (s:List UInt8)(hs:s.length+8≤maxLen):Qu Tryz.prog 128 [.str s] (.bool (Z2 s)):=by
 refine QrJ.fn (by simp) ?_;simp only[Qa,seval];refine aC (QuY s hs) ?_;simp only[Qa,seval]
 try rfl

def JM (s:List UInt8)(i:Nat):Bool:=(s.drop i).take 3==[239,191,189]

theorem QuZ (s t:List UInt8):Qu Tryz.prog 237 [.str s,.str t] (.bool (s.take t.length==t)):=by
 refine Qt4.fn (by simp) ?_;by_cases h:t.length≤s.length
 ·have d0:decide ((s.length:Int)≥(t.length:Int))=true:=by simp;omega
  have s1:(0≤t.length∧t.length≤s.length)=True:=by simp;omega
  simp only[d0,Qk,s1,QAq,Qx,Nat.sub_zero,QzQ,Qa,seval]
 ·have d0:decide ((s.length:Int)≥(t.length:Int))=false:=by simp;omega
  have e0:(s.take t.length==t)=false:=by
   rw[QAO];intro hh;have:=congrArg List.length hh;simp at this;omega
  simp only[d0,e0,Qa,seval]

theorem Qu0 (s t:List UInt8):Qu Tryz.prog 216 [.str s,.str t] (.bool (s.take t.length==t)):=by
 refine Qtw.fn (by simp) ?_;simp only[Qa,seval];refine aC (QuZ s t) ?_;simp only[Qa,seval]

theorem Qu1 (s:List UInt8)(i:Nat)(hi:i≤s.length)(c:Nat):Qu Tryz.prog 185 [.str s,.int .i64 (i:Nat),.int .i32 (c:Nat)] (.bool (decide (c=65533) && !JM s i)):=by
 refine QsQ.fn (by simp) ?_;by_cases hc:c=65533
 ·have b0:((c:Int)==65533)=true:=by simp[hc]
  have s1:(i≤s.length∧s.length≤s.length)=True:=by simp;omega
  simp only[b0,Qk,s1,QAq,Qa,seval];refine aC (Qu0 (List.take (s.length-i) (List.drop i s)) [239,191,189]) ?_;have ht:List.take (s.length-i) (List.drop i s)=List.drop i s:=QzJ (by simp);simp only[ht,JM,hc,Qa,seval]
 ·have b0:((c:Int)==65533)=false:=by simp;omega
  simp only[b0,hc,Qa,seval];simp

open Vp

theorem Z3 (s:List UInt8)(j:Nat)(c:UInt8)(h:s[j]? = some c):(⟨⟨s⟩⟩:ByteArray).get! j=c:=by
 show(⟨s⟩:Array UInt8)[j]! = c;simp[h]

theorem Ut (a:UInt8)(n:Nat)(hn:n<256):(a==UInt8.ofNat n)=decide (a.toNat=n):=by
 rw[QzY,QzA,QAl]
 constructor
 ·rintro rfl;rw[WX _ hn]
 ·intro h;rw[←UInt8.toNat_inj,WX _ hn,h]

set_option maxHeartbeats 4000000 in
theorem Qu2 (s:List UInt8)(i:Nat)(a b c d:UInt8)(t:List UInt8)(hr:s.drop i=a :: b :: c :: d :: t):(decide ((Xc s i).1=65533) && !JM s i)=decide (sz s i=0)∧(sz s i≠0→(Xc s i).2=sz s i):=by
 have hsz:∀j,(s[i+j]? = (a :: b :: c :: d :: t)[j]?):=fun j=>by rw[←hr,QzO]
 have hn:ByteArray.size ⟨⟨s⟩⟩=s.length:=rfl;have hl:s.length=i+(a :: b :: c :: d :: t).length:=by
  have h:=congrArg List.length hr;simp at h ⊢;omega
 have h0:=hsz 0;have h1:=hsz 1;have h2:=hsz 2;have h3:=hsz 3;simp only[QzH]at h0;have g0:=Z3 s i a h0;have g1:=Z3 s (i+1) b h1;have g2:=Z3 s (i+2) c h2;have g3:=Z3 s (i+3) d h3;have l1:(i+1<s.length)=True:=by simp at hl ⊢;omega
 have l2:(i+2<s.length)=True:=by simp at hl ⊢;omega
 have l3:(i+3<s.length)=True:=by simp at hl ⊢;omega
 have wa:=a.toNat_lt;have wb:=b.toNat_lt;have wc:=c.toNat_lt;have wd:=d.toNat_lt;have hrep:JM s i=(decide (a.toNat=239)&&(decide (b.toNat=191)&&decide (c.toNat=189))):=by
  rw[←Ut a 239 (by decide),←Ut b 191 (by decide),←Ut c 189 (by decide)];simp[JM,hr]
 simp only[QAa,Qz5]at h0 h1 h2 h3;generalize hD:Xc s i=D;generalize hS:sz s i=S;rw[hrep];simp only[Xc,Utf8.decode,Utf8.valid,Utf8.runeError,hn,l1,l2,l3,QzH,g0,g1,g2,g3,sz,h0,UZ,tl,bt,Qzb,seval,h1,h2,h3,decide_true,QAC,QAf,Qzz,Qz1,QAl,QzA,ge_iff_le]at hD hS;clear hsz hr hl h0 h1 h2 h3 g0 g1 g2 g3 l1 l2 l3 hrep hn;generalize a.toNat=x at *;generalize b.toNat=y at *;generalize c.toNat=z at *;generalize d.toNat=u at *
 (repeat' split at hD)<;>subst hD<;>(repeat' split at hS)<;>subst hS<;>refine⟨?_,?_⟩<;>(try rw[QzY])<;>(try simp only[Qzz,QAl,Qz0,Bool.and_eq_false_iff,QAN])<;>first|omega|(intro _;rfl)|(simp;done)|(simp;omega)

theorem Mo (s:List UInt8)(i:Nat)(hi:i<s.length):(decide ((Xc s i).1=65533) && !JM s i)=decide (sz s i=0)∧(sz s i≠0→(Xc s i).2=sz s i):=by
 have hsz:∀j,(s[i+j]? = (s.drop i)[j]?):=fun j=>by rw[QzO]
 have hn:ByteArray.size ⟨⟨s⟩⟩=s.length:=rfl;have hl:s.length=i+(s.drop i).length:=by simp;omega
 generalize hr:s.drop i=r at hsz hl;have h0:=hsz 0;have h1:=hsz 1;have h2:=hsz 2;have h3:=hsz 3;simp only[QzH]at h0
 match r,hl with
 | [],hl=>simp at hl;omega
 | [a],hl=>
  have g0:=Z3 s i a h0;have l1:(i+1<s.length)=False:=by simp at hl ⊢;omega
  have l2:(i+2<s.length)=False:=by simp at hl ⊢;omega
  have l3:(i+3<s.length)=False:=by simp at hl ⊢;omega
  have wa:=a.toNat_lt;have hrep:JM s i=false:=by simp[JM,hr]
  simp only[QAa,List.getElem?_nil,Qz5]at h0 h1 h2 h3;simp only[Xc,Utf8.decode,Utf8.runeError,hn,l1,l2,l3,QzH,g0,sz,h0,UZ,tl,bt,Qzb,seval,h1,h2,h3,hrep,decide_false,QAs,QAP,QAf,Qzv,and_false]
  (repeat' split)<;>refine⟨?_,?_⟩<;>(try rw[QzY])<;>(try simp only[QAl,QAb,QAf])<;>first|omega|(intro _;rfl)|(intro _;omega)|(simp;done)|(simp;omega)
 | [a,b],hl=>
  have g0:=Z3 s i a h0;have g1:=Z3 s (i+1) b h1;have l1:(i+1<s.length)=True:=by simp at hl ⊢;omega
  have l2:(i+2<s.length)=False:=by simp at hl ⊢;omega
  have l3:(i+3<s.length)=False:=by simp at hl ⊢;omega
  have wa:=a.toNat_lt;have wb:=b.toNat_lt;have hrep:JM s i=false:=by simp[JM,hr]
  simp only[QAa,List.getElem?_nil,Qz5]at h0 h1 h2 h3;simp only[Xc,Utf8.decode,Utf8.runeError,hn,l1,l2,l3,QzH,g0,g1,sz,h0,UZ,tl,bt,Qzb,seval,h1,h2,h3,hrep,decide_false,decide_true,QAs,QAP,QAC,QAf,Qzv,and_false,Qzz,QAl,QzA,ge_iff_le]
  (repeat' split)<;>refine⟨?_,?_⟩<;>(try rw[QzY])<;>(try simp only[QAl,QAb,QAf])<;>first|omega|(intro _;rfl)|(intro _;omega)|(simp;done)|(simp;omega)
 | [a,b,c],hl=>
  have g0:=Z3 s i a h0;have g1:=Z3 s (i+1) b h1;have g2:=Z3 s (i+2) c h2;have l1:(i+1<s.length)=True:=by simp at hl ⊢;omega
  have l2:(i+2<s.length)=True:=by simp at hl ⊢;omega
  have l3:(i+3<s.length)=False:=by simp at hl ⊢;omega
  have wa:=a.toNat_lt;have wb:=b.toNat_lt;have wc:=c.toNat_lt;have hrep:JM s i=(decide (a.toNat=239)&&(decide (b.toNat=191)&&decide (c.toNat=189))):=by
   rw[←Ut a 239 (by decide),←Ut b 191 (by decide),←Ut c 189 (by decide)];simp[JM,hr]
  simp only[QAa,List.getElem?_nil,Qz5]at h0 h1 h2 h3;simp only[Xc,Utf8.decode,Utf8.valid,Utf8.runeError,hn,l1,l2,l3,QzH,g0,g1,g2,sz,h0,UZ,tl,bt,Qzb,seval,h1,h2,h3,hrep,decide_false,decide_true,QAs,QAP,QAC,QAf,Qzv,and_false,Qzz,Qz1,QAl,QzA,ge_iff_le]
  (repeat' split)<;>refine⟨?_,?_⟩<;>(try rw[QzY])<;>(try simp only[Qzz,QAl,Qz0,QAN,Bool.and_eq_false_iff])<;>first|omega|(intro _;rfl)|(intro _;omega)|(simp;done)|(simp;omega)
 |a :: b :: c :: d :: t,hl=>exact Qu2 s i a b c d t hr

def Qu3 (s:List UInt8)(k:Nat)(st:St):Prop :=
 ∃f fr i,st=⟨f,[fr],[]⟩∧i≤s.length∧s.length-i≤k∧Zu s s.length 0=Zu s k i∧f 0=.str s∧f 6=.ptr 0 6 0∧fr 6=.iter (.str s) i

theorem Qu4 (s:List UInt8):Qu Tryz.prog 143 [.str s] (.int .i64 (Zu s s.length 0)):=by
 refine QrS.fn (by simp) ?_;simp only[Qa,seval];refine UO rfl rfl ?_;simp only[Qa,seval];refine Qe (Qu3 s) s.length ⟨_,_,0,rfl,Qzl _,Qzc _,rfl,(by rfl),(by rfl),(by rfl)⟩ ?_;rintro k st ⟨f,fr,i,rfl,hi,hk,hb,h0,h6,m6⟩;simp only[Qa,seval];refine UP (by exact h6) m6 (fun hlt=>?_) (fun hge=>?_)
 ·obtain⟨hd,hw⟩:=Mo s i hlt;obtain⟨k,rfl⟩:∃n,k=n+1:=⟨k-1,by omega⟩;have hbk:Zu s (k+1) i=if sz s i=0 then(i:Int)else Zu s k (i+sz s i):=by
   show(if i<s.length then _ else _)=_;rw[Qzk hlt]
  have hwr:=Qu1 s i hi (Xc s i).1;rw[hd]at hwr;generalize Xc s i=cw at hw hwr;obtain⟨c,w⟩:=cw;simp only[h0,Qa,seval];refine aC hwr ?_;by_cases hz:sz s i=0
  ·simp only[hz,decide_true,hb,hbk,Qa,seval]
  ·have hw:=hw hz;simp only at hw;have hle:=RL s i hlt hz;simp only[hz,decide_false,Qa,seval];exact⟨k,by omega,_,_,i+sz s i,rfl,hle,by omega,by rw[hb,hbk,Qzj hz],(by exact h0),(by exact h6),by rw[←hw]<;>first|rfl|simp only[eE,seval]⟩
 ·have hbk:Zu s k i = -1:=by
   cases k with
   |zero=>rfl
   |succ k=>
    show(if i<s.length then _ else _)=_;rw[Qzj (by omega)]
  simp only[hb,hbk,Qa,seval]

theorem x89 (s:List UInt8):Qu Tryz.prog 89 [.str s] (.bool (Z2 s)):=by
 refine k89.fn (by simp) ?_;simp only[Qa,seval];refine aC (Qu4 s) ?_;simp only[Qa,seval]
 try rfl

end Go.Proofs.YtaiflhahcglpgaaGreatDoor.Va

namespace Go.Proofs.YtaiflhahcglpgaaGreatDoor.Va
open Go Am Rc Bt

def Uu (k:Int)(b:Nat):Bool :=
 if k=1 then decide ((b:Int)≤1)else if k=2 then decide (IntKind.i64.wrap (b:Int)≥-2147483648)&&decide (IntKind.i64.wrap (b:Int)≤2147483647)
 else if k=4 then decide ((b:Int)<4294967296)else if k=9 then decide ((b:Int)<2147483648)else true

theorem Qu5 (k:Int)(b:Nat):Qu Tryz.prog 239 [.int .i64 k,.int .u64 (b:Nat)] (.bool (Uu k b)):=by
 have e1:decide ((b:Int)≤4294967295)=decide ((b:Int)<4294967296):=by rw[decide_eq_decide];omega
 have e2:decide ((b:Int)≤2147483647)=decide ((b:Int)<2147483648):=by rw[decide_eq_decide];omega
 refine Qua.fn (by simp) ?_;simp only[Qa,seval];unfold Uu;by_cases h1:k=1
 ·subst h1;have b1:((1:Int)==1)=true:=rfl;simp only[b1,Qa,seval]
 ·have b1:(k==1)=false:=by simp[h1]
  by_cases h2:k=2
  ·subst h2;have b2:((2:Int)==2)=true:=rfl;simp only[b1,b2,h1,Qa,seval];cases hd:decide (IntKind.i64.wrap (b:Int)≥-2147483648)<;>simp only[QAC,QAs,Qa,seval]
  ·have b2:(k==2)=false:=by simp[h2]
   by_cases h9:k=9
   ·subst h9;have b9:((9:Int)==9)=true:=rfl;simp only[b1,b2,b9,h1,h2,e2,Qa,seval]
   ·have b9:(k==9)=false:=by simp[h9]
    by_cases h4:k=4
    ·subst h4;have b4:((4:Int)==4)=true:=rfl;simp only[b1,b2,b9,b4,h1,h2,e1,Qa,seval]
    ·have b4:(k==4)=false:=by simp[h4]
     simp only[b1,b2,b9,b4,h1,h2,h4,h9,Qa,seval]

end Go.Proofs.YtaiflhahcglpgaaGreatDoor.Va

namespace Go.Proofs.YtaiflhahcglpgaaGreatDoor.Ev
open Go Am Rc

def tab:HX:=fun k=>match k with
 |22=>some (r22,o22,27)
 |45=>some (r45,o45,21)
 |9=>some (r9,o9,40)
 |6=>some (r6,o6,45)
 |21=>some (r21,o21,32)
 |13=>some (r13,o13,7)
 |14=>some (EM,EN,68)
 |43=>some (r43,o43,77)
 |33=>some (E4,E5,99)
 |34=>some (r34,o34,12)
 |35=>some (r35,o35,19)
 |36=>some (r36,o36,9)
 |37=>some (r37,o37,19)
 |39=>some (r39,o39,18)
 |111=>some (E9,Ia,74)
 |113=>some (Ie,Ig,9)
 |97=>some (r97,o97,56)
 |98=>some (r98,o98,27)
 |99=>some (r99,o99,20)
 |100=>some (IB,H6,19)
 |101=>some (IQ,IR,42)
 |102=>some (C9,Ma,79)
 |105=>some (I4,I5,19)
 |109=>some (I9,La,8)
 |164=>some (Ll,Lm,19)
 |133=>some (Lp,Lq,9)
 |148=>some (Ly,Lz,19)
 |149=>some (LM,LN,30)
 |151=>some (LR,LS,11)
 |152=>some (Mb,Mc,112)
 |153=>some (Md,Me,52)
 |154=>some (L0,L5,15)
 |155=>some (L8,L9,11)
 |156=>some (Qad,Qae,10)
 |142=>some (Qai,Qaj,8)
 |159=>some (Qau,Qav,19)
 |178=>some (QaG,QaH,19)
 |188=>some (QaL,QaM,8)
 |132=>some (QaX,QaY,19)
 |134=>some (Qa2,Qa3,8)
 |135=>some (Qbf,Qbg,27)
 |189=>some (Qbj,Qbk,12)
 |191=>some (Qbq,Qbr,19)
 |192=>some (QbD,QbE,57)
 |193=>some (QbO,QbP,50)
 |194=>some (Qb0,Qb1,59)
 |94=>some (r94,o94,31)
 |137=>some (Qcf,Qcg,36)
 |183=>some (Qck,Qcl,9)
 |179=>some (Qcy,Qcz,66)
 |219=>some (QcD,QcE,9)
 |224=>some (QcI,QcJ,34)
 |181=>some (QcV,QcW,27)
 |215=>some (Qc7,Qc8,19)
 |213=>some (Qdl,Qdm,34)
 |240=>some (Qdx,Qdy,19)
 |_=>none

theorem Qkj:YI Tryz.prog tab:=by
 intro k c rs N h;unfold tab at h;split at h
 ·cases h;exact k22
 ·cases h;exact k45
 ·cases h;exact k9
 ·cases h;exact k6
 ·cases h;exact k21
 ·cases h;exact k13
 ·cases h;exact k14
 ·cases h;exact k43
 ·cases h;exact k33
 ·cases h;exact k34
 ·cases h;exact k35
 ·cases h;exact k36
 ·cases h;exact k37
 ·cases h;exact k39
 ·cases h;exact QqJ
 ·cases h;exact QqK
 ·cases h;exact k97
 ·cases h;exact H5
 ·cases h;exact k99
 ·cases h;exact IC
 ·cases h;exact IS
 ·cases h;exact IU
 ·cases h;exact I6
 ·cases h;exact Lb
 ·cases h;exact QqL
 ·cases h;exact Lr
 ·cases h;exact LA
 ·cases h;exact LO
 ·cases h;exact LU
 ·cases h;exact LV
 ·cases h;exact LX
 ·cases h;exact Mf
 ·cases h;exact Qaa
 ·cases h;exact Qaf
 ·cases h;exact Qak
 ·cases h;exact Qaw
 ·cases h;exact QaI
 ·cases h;exact QaN
 ·cases h;exact QaZ
 ·cases h;exact Qa4
 ·cases h;exact Mg
 ·cases h;exact Qbl
 ·cases h;exact Qbs
 ·cases h;exact QbF
 ·cases h;exact QbQ
 ·cases h;exact Qb2
 ·cases h;exact k94
 ·cases h;exact Qch
 ·cases h;exact Qcm
 ·cases h;exact QcA
 ·cases h;exact QcF
 ·cases h;exact QcK
 ·cases h;exact QcX
 ·cases h;exact Qc9
 ·cases h;exact Qdn
 ·cases h;exact Qdz
 ·cases h

def Xz:J3:=fun _ _ _=>none

theorem J9:Kn Tryz.prog Xz:=by
 intro k args m v m' h;cases h

theorem Cf:Eh Xz tab 3000 9 []=true:=by decide +kernel

theorem Mp:Qu Tryz.prog 9 [] (.bool true):=F8 J9 Qkj Cf

end Go.Proofs.YtaiflhahcglpgaaGreatDoor.Ev

namespace Go.Proofs.YtaiflhahcglpgaaGreatDoor.Va
open Go Am Rc Bt

def vo (k:Int)(b:Nat)(t:List UInt8)(l p s r:List AV):AV:=.agg [.int .i64 k,.int .u64 (b:Nat),.str t,.list l,.list p,.list s,.list r]

section
variable (k:Int)(b:Nat)(t:List UInt8)(l p s r:List AV)

def Wb:Bool:=(l.length:Int)==0&&(p.length:Int)==0&&(s.length:Int)==0&&(r.length:Int)==0
theorem Qu6:Qu Tryz.prog 205 [vo k b t l p s r] (.bool (Wb l p s r)):=by
 refine Qtf.fn (by simp) ?_;simp only[vo,Wb,eE,seval];cases h0:((l.length:Int)==0)<;>cases h1:((p.length:Int)==0)<;>cases h2:((s.length:Int)==0)<;>simp only[h1,h2,QAC,QAs,eE,seval]

theorem Qu7 (hl:l.length≤140737488351232)(hp:p.length≤140737488351232)(hs:s.length≤140737488351232)(hr:r.length≤140737488351232) :
  Qu Tryz.prog 238 [vo k b t l p s r] (.bool (Wb l p s r&&(if J5 k=true then(b:Int)==0 else t==[]))):=by
 refine Qt7.fn (by simp) ?_;have w:IntKind.i64.wrap (IntKind.i64.wrap (IntKind.i64.wrap ((l.length:Int)+(p.length:Int))+(s.length:Int))+(r.length:Int))=(l.length+p.length+s.length+r.length:Nat):=by
  simp only[ZE];omega
 simp only[vo,w,eE,seval];by_cases h:l.length+p.length+s.length+r.length=0
 ·have d:decide (((l.length+p.length+s.length+r.length:Nat):Int) > 0)=false:=QAR (by omega);have e:Wb l p s r=true:=by
   unfold Wb;simp only[Qzz,QzA];omega
  simp only[d,e,QAC,eE,seval];refine aC (Quq k) ?_;cases J5 k
  ·simp only[Qzv,Qx,eE,seval]
  ·simp only[eE,seval]
 ·have d:decide (((l.length+p.length+s.length+r.length:Nat):Int) > 0)=true:=QAM (by omega);have e:Wb l p s r=false:=by
   unfold Wb;rw[QAH];simp only[ne_eq,Qzz,QzA];omega
  simp only[d,e,QAs,Qa,seval]

end

open Br

def key (o:PO):Bool:=if o.card=5 then decide (o.key≥1)&&decide (o.key≤7)&&o.key != 6 else o.key==0
def aim (P:PL)(o:PO):Bool :=
 if o.kind=10 then decide (o.target≥0)&&decide (o.target<(P.progs.length:Int))&&o.card != 3
 else if o.kind=9 then decide (o.target≥0)&&decide (o.target<(P.enums.length:Int))else UX o.kind&&o.target == -1
def Qu8 (P:PL)(o:PO):Bool:=Z2 o.alias&&decide ((o.alias.length:Int)≤4096)&&decide (o.card≥1)&&decide (o.card≤5)&&key o&&aim P o
def uok (o:PO):Bool:=o.union == -1||o.card==2
def Bv:List PO→Int→Int→Option Int
 | [],n,_=>some n
 |o :: l,n,b=>if o.union=n then Bv l (n+1) n else if o.union = -1∨o.union=b then Bv l n o.union else none
def Qu9 (g:PG):Bool:=match Bv g.ops 0 (-1)with
 |some n=>g.unions==n
 |none=>false
def ZY (k kd:Int)(b:Nat)(t:List UInt8)(l p s r:List AV):Bool :=
 UX k&&kd==k&&Wb l p s r&&(if J5 kd=true then(b:Int)==0 else t==[])&&Uu k b&&decide ((t.length:Int)≤4096)&&(k != 7||Z2 t)
def alias:List UInt8:=[97,108,105,97,115]
def nok:List AV→Bool
 | [.int _ kd,.int _ b,.str t,.list l,.list p,.list s,.list r]=>ZY 7 kd b.toNat t l p s r
 |_=>false
def nte (i:PI):Bool:=match i.notes with
 | []=>true
 | [n]=>n.name==alias&&nok n.val
 |_=>false
def Qva (P:PL)(g:PG):Bool:=Qu9 g&&g.ops.all fun o=>Qu8 P o&&uok o
def Qvb (x:PE):Bool:=x.notes.isEmpty&&x.items.all nte
def args (P:PL):Bool:=P.progs.all (Qva P)&&P.enums.all Qvb

theorem Qkk (k kd:Int)(b:Nat)(t:List UInt8)(l p s r:List AV)(hl:l.length≤140737488351232)(hp:p.length≤140737488351232)(hs:s.length≤140737488351232)(hr:r.length≤140737488351232) :
  Qu Tryz.prog 218 [.int .i64 k,vo kd b t l p s r] (.bool (ZY k kd b t l p s r)):=by
 have hle:=Qu7 kd b t l p s r hl hp hs hr;have hw:=Qu5 k b;simp only[vo]at hle;have n1:(kd != k)=!(kd==k):=rfl;have n2:(k != 7)=!(k==7):=rfl;have n3:decide ((t.length:Int) > 4096)=!decide ((t.length:Int)≤4096):=(by rw[QzY];simp only[QAl,Qz0,QAN];omega);refine QtC.fn (by simp) ?_;simp only[vo,ZY,n2,eE,seval];refine aC (Quo k) ?_;cases UX k
 ·simp only[QAs,QAb,Qa,seval]
 simp only[QAC,QAD,n1,eE,seval];cases a1:(kd==k)
 ·simp only[QAs,QAb,Qa,seval]
 simp only[QAC,QAD,eE,seval];refine aC hle ?_;cases(Wb l p s r&&(if J5 kd=true then(b:Int)==0 else t==[]))
 ·simp only[QAs,QAb,Qa,seval]
 simp only[QAC,QAD,eE,seval];refine aC hw ?_;cases Uu k b
 ·simp only[QAs,QAb,Qa,seval]
 simp only[QAC,QAD,n3,eE,seval];cases a2:decide ((t.length:Int)≤4096)
 ·simp only[QAs,QAb,Qa,seval]
 simp only[QAC,QAD,n2,Qa,seval];cases a3:(k==7)
 ·simp only[QAb,QAE,Qa,seval]
 ·simp only[QAD,QAF,eE,seval];refine aC (x89 t) ?_;simp only[Qa,seval]

section
variable (P:PL)

end

section
variable (kd:Int)(b:Nat)(t:List UInt8)(l p s r:List AV)(hl:l.length≤140737488351232)(hp:p.length≤140737488351232)(hs:s.length≤140737488351232)(hr:r.length≤140737488351232)

def nv:AV:=.agg [.str alias,.int .i64 kd,.int .u64 (b:Nat),.str t,.list l,.list p,.list s,.list r]

end

end Go.Proofs.YtaiflhahcglpgaaGreatDoor.Va

namespace Go.Proofs.YtaiflhahcglpgaaGreatDoor.Va
open Go Am Rc Bt

def Y5 (b:Nat):Nat :=
 let z:=b % 9223372036854775808
 if z > 9218868437227405312 then 0 else if z=9218868437227405312 then 1 else if z=0 then 2 else if z<4503599627370496 then 3 else 4

theorem Qvc (b:Nat):Qu Tryz.prog 207 [.int .u64 (b:Nat)] (.int .i64 (Y5 b:Nat)):=by
 refine Qtl.fn (by simp) ?_;have hm:(b:Int).tmod 9223372036854775808=((b % 9223372036854775808:Nat):Int):=by
  rw[Int.tmod_eq_emod_of_nonneg (by omega)];omega
 simp only[hm,Qa,seval];unfold Y5;generalize b % 9223372036854775808=z
 repeat' (first|(refine XM (fun h=>?_) (fun h=>?_)<;>simp only[h,Qa,seval])|(refine Zl (fun h=>?_) (fun h=>?_)<;>simp only[h,Qj,eE,seval])|(refine Zm (fun h=>?_) (fun h=>?_)<;>simp only[h,Qj,eE,seval]))
 all_goals(simp only[QAl,QAN,QzA,QAO,ne_eq]at *)
 all_goals((repeat' split)<;>first|rfl|(exfalso;omega))

theorem Qkl (b:Nat):b &&& 4503599627370495=b % 4503599627370496:=Nat.and_two_pow_sub_one_eq_mod b 52
theorem Qkm (b:Nat):b &&& 9218868437227405312=(b / 4503599627370496 % 2048)*4503599627370496:=by
 have h1:(9218868437227405312:Nat)=2047 <<< 52:=by decide
 have h2:(b / 4503599627370496 % 2048)*4503599627370496=(b >>> 52 % 2 ^ 11) <<< 52:=by
  rw[Nat.shiftLeft_eq,Nat.shiftRight_eq_div_pow]
 rw[h1,h2]
 apply Nat.eq_of_testBit_eq
 intro i;rw[Nat.testBit_and,Nat.testBit_shiftLeft,Nat.testBit_shiftLeft,Nat.testBit_mod_two_pow,Nat.testBit_shiftRight,show(2047:Nat)=2 ^ 11-1 by decide,Nat.testBit_two_pow_sub_one];by_cases h:i≥52
 ·rw[show 52+(i-52)=i by omega];simp[h,Bool.and_comm]
 ·simp[h]

theorem Qvd (b:Nat)(hb:b<18446744073709551616):Qu Tryz.prog 242 [.int .u64 (b:Nat)] (.int .i64 (Y5 b:Nat)):=by
 refine Qug.fn (by simp) ?_;have a1:bits .and .u64 (b:Int) 9218868437227405312=(((b / 4503599627370496 % 2048)*4503599627370496:Nat):Int):=by
  have:=DH b 9218868437227405312 hb (by decide);rw[Qkm]at this;exact this
 have a2:bits .and .u64 (b:Int) 4503599627370495=((b % 4503599627370496:Nat):Int):=by
  have:=DH b 4503599627370495 hb (by decide);rw[Qkl]at this;exact this
 simp only[a1,a2,Qa,seval];unfold Y5
 repeat' (first|(refine XM (fun h=>?_) (fun h=>?_)<;>simp only[h,Qa,seval])|(refine Zl (fun h=>?_) (fun h=>?_)<;>simp only[h,Qj,Qa,seval])|(refine Zm (fun h=>?_) (fun h=>?_)<;>simp only[h,Qj,eE,seval]))
 all_goals(simp only[QzA,QzE,bne_eq_false_iff_eq,QAO,ne_eq]at *)
 all_goals((repeat' split)<;>first|rfl|(exfalso;omega))

def Zb (k:Int)(b:Nat):Nat:=if k=6∧Y5 b=0 then 9221120237041090560 else b

theorem Qkn (b:Nat):((Y5 b:Int)==0)=decide (Y5 b=0):=by
 rw[QzY,QzA,QAl];omega

end Go.Proofs.YtaiflhahcglpgaaGreatDoor.Va

namespace Go.Proofs.YtaiflhahcglpgaaGreatDoor.So

section
variable {α:Type}

structure SW (lt:α→α→Bool):Prop where
 irr:∀x,lt x x=false
 tr:∀x y z,lt x y=true→lt y z=true→lt x z=true
 nt:∀x y z,lt x y=false→lt y z=false→lt x z=false

variable {lt:α→α→Bool}

theorem SW.as (h:SW lt){x y:α}(hx:lt x y=true):lt y x=false:=by
 cases hy:lt y x with
 |false=>rfl
 |true=>
  have:=h.tr x y x hx hy;rw[h.irr]at this;cases this

end

end Go.Proofs.YtaiflhahcglpgaaGreatDoor.So

namespace Go.Proofs.YtaiflhahcglpgaaGreatDoor.Va
open Go Am Rc Bt Br Up So

def nK:List (List UInt8×Int×List Int):=[
 ([100,101,112,114,101,99,97,116,101,100],1,[1,2,3,4,5,6]),
 ([100,111,99],7,[1,2,3,4,5,6]),
 ([97,108,105,97,115],7,[2,4,6]),
 ([115,105,110,99,101],4,[2,4,6]),
 ([117,110,116,105,108],4,[2,4,6]),
 ([109,105,110],3,[2]),
 ([109,97,120],3,[2]),
 ([108,101,110,103,116,104],4,[2]),
 ([115,101,99,114,101,116],1,[2]),
 ([105,100,101,109,112,111,116,101,110,116],1,[6]),
 ([116,105,109,101,111,117,116],4,[6]),
 ([114,111,117,116,101],7,[6]),
 ([111,119,110,101,114],7,[1,5])]
def Fi (s:List UInt8):Option (Int×List Int):=(nK.find? fun x=>x.1==s).map Prod.snd
def XP (s:List UInt8):Int:=((Fi s).getD (0,[])).1
def Cg (s:List UInt8)(t:Int):Bool:=((Fi s).getD (0,[])).2.contains t
def _root_.Go.Proofs.YtaiflhahcglpgaaGreatDoor.Br.V.fitk (k:Int)(v:V):Bool:=ZY k v.kd v.bits v.text (v.list.map V.av) (v.pairs.map V.pav) (v.slots.map V.sav) (v.raws.map R.av)
def U0 (n:SN):Bool:=XP n.name != 0&&n.val.fitk (XP n.name)
def Jd (t:Int)(last:Option (List UInt8))(n:SN):Int :=
 if XP n.name=0 then 8 else if Cg n.name t=false then 1 else if n.val.fitk (XP n.name)=false then 12 else
 match last with
 |none=>0
 |some s=>if Op.bytesLess n.name s=true then 11 else if n.name=s then 9 else 0
def Jv (t:Int):Option (List UInt8)→List SN→Int
 |_,[]=>0
 |last,n :: l=>if Jd t last n=0 then Jv t (some n.name) l else Jd t last n
def XT (l:List SN)(t:Int):Int:=if l.length > 8 then 3 else Jv t none l

def QS (S:SC)(n:List UInt8):Bool:=S.msgs.any fun m=>m.name==n
def G7 (S:SC)(n:List UInt8):Bool:=S.enums.any fun m=>m.name==n
def G8 (c k:Int):Bool:=if c=5 then decide (k≥1)&&decide (k≤7)&&k != 6 else k==0
def Ww (f:SF):Bool:=decide (f.card≥1)&&decide (f.card≤5)&&G8 f.card f.key
def JD (S:SC)(f:SF):Bool :=
 if 1≤f.kind∧f.kind≤8 then f.tname==[]else if f.kind=9 then G7 S f.tname else if f.kind=10 then QS S f.tname&&f.card != 3 else false
def Js (m:SM)(i:Nat):Bool:=match m.fields[i]? with
 |none=>true
 |some f=>f.union==[]||(f.card==2&&Q5 f.union && !(m.fields.any fun x=>x.name==f.union) &&
   (!((m.fields.take i).any fun x=>x.union==f.union)||(match i with
    |0=>true
    |j+1=>match m.fields[j]? with
     |none=>true
     |some y=>y.union==f.union)))
def _root_.Go.Proofs.YtaiflhahcglpgaaGreatDoor.Br.V.zro (v:V):Bool:=v.kd==0&&v.bits==0&&v.text==[]&&v.list.length+v.pairs.length+v.slots.length+v.raws.length==0
def Kq (S:SC)(f:SF):Bool :=
 if f.hasd=false then f.dflt.zro
 else if f.card=2∧f.union=[]∧f.dflt.fitk f.kind=true∧Zb f.dflt.kd f.dflt.bits=f.dflt.bits then
  (if f.kind=9 then(match S.enums.find? fun e=>e.name==f.tname with
   |none=>false
   |some e=>e.items.any fun it=>(IntKind.u64.wrap it.num)==(f.dflt.bits:Int))else true)
 else false
def Uv (S:SC)(m:SM)(i:Nat):Bool:=match m.fields[i]? with
 |none=>true
 |some f=>decide (f.num≥1)&&decide (f.num≤65535)&&(match i with
   |0=>true
   |j+1=>match m.fields[j]? with
    |none=>true
    |some y=>decide (f.num > y.num))&&Q5 f.name && !((m.fields.take i).any fun x=>x.name==f.name) && !(kept m.free f.num) && !(m.gone.contains f.name) &&
   Ww f&&JD S f&&Js m i&&Kq S f&&XT f.notes 2==0
def G9 (lo hi:Int)(l:List PS):Bool:=(l.all fun x=>decide (x.lo≥lo)&&decide (x.hi≤hi)&&decide (x.lo≤x.hi))&&XS l spt

def XU (m:SM):List (List UInt8):=(m.fields.filter fun f=>f.card==1&&f.kind==10).map SF.tname
def Zc (S:SC)(X:List (List UInt8))(m:SM):List (List UInt8):=match S.msgs.find? fun x=>x.name==m.name with
 |none=>X
 |some f=>if (XU f).any (fun n=>QS S n && !X.contains n)=true then X else if X.contains m.name=true then X else X++[m.name]
def Yf (S:SC)(X:List (List UInt8)):List (List UInt8):=S.msgs.foldl (Zc S) X
def KY (S:SC):Nat→List (List UInt8)
 |0=>[]
 |k+1=>Yf S (KY S k)
def KZ (S:SC):List (List UInt8):=KY S (S.msgs.length+1)
def Y6 (S:SC)(m:SM):Bool:=(XU m).any fun n=>QS S n && !(KZ S).contains n

def Bw (S:SC)(m:SM):Bool:=Xg m.name&&decide (m.fields.length≤64)&&decide (m.free.length≤16)&&decide (m.gone.length≤16)&&Q7 (Uv S m) m.fields.length&&G9 1 65535 m.free &&
 (m.gone.all Z2)&&XT m.notes 1==0 && !Y6 S m
def Wx (e:SE)(i:Nat):Bool:=match e.items[i]? with
 |none=>true
 |some x=>decide (x.num≥0)&&decide (x.num≤2147483647)&&(match i with
   |0=>x.num==0
   |j+1=>match e.items[j]? with
    |none=>true
    |some y=>decide (x.num > y.num))&&Q5 x.name && !((e.items.take i).any fun y=>y.name==x.name) && !(kept e.free x.num)&&XT x.notes 4==0
def Uw (e:SE):Bool:=Xg e.name&&decide (e.items.length≥1)&&decide (e.items.length≤64)&&decide (e.free.length≤16)&&Q7 (Wx e) e.items.length&&G9 0 2147483647 e.free&&XT e.notes 3==0
def Bx (S:SC)(v:SQ)(i:Nat):Bool:=match v.meths[i]? with
 |none=>true
 |some x=>Q5 x.name&&(match i with
   |0=>true
   |j+1=>match v.meths[j]? with
    |none=>true
    |some y=>Op.bytesLess y.name x.name)&&QS S x.inn&&QS S x.out&&decide (x.shape≥1)&&decide (x.shape≤4)&&XT x.notes 6==0
def Mq (S:SC)(v:SQ):Bool:=Xg v.name&&decide (v.meths.length≤64)&&Q7 (Bx S v) v.meths.length&&XT v.notes 5==0
def Z7 (S:SC):Bool:=!(S.enums.any fun e=>S.msgs.any fun m=>m.name==e.name) && !(S.servs.any fun v=>S.msgs.any fun m=>m.name==v.name) && !(S.servs.any fun v=>S.enums.any fun e=>e.name==v.name)
def Mr (S:SC):Bool:=XS S.msgs (J7 SM.name)&&XS S.enums (J7 SE.name)&&XS S.servs (J7 SQ.name)
def Ms (S:SC):Bool:=decide (S.msgs.length≤64)&&decide (S.enums.length≤64)&&decide (S.servs.length≤64)
def ZF (S:SC):Bool:=Ms S&&Mr S&&Z7 S&&S.msgs.all (Bw S)&&S.enums.all Uw&&S.servs.all (Mq S)

def unl:List (List UInt8)→List SF→List (List UInt8)
 |us,[]=>us
 |us,f :: l=>unl (if f.union=[]∨us.contains f.union=true then us else us++[f.union]) l
def XB (us:List (List UInt8))(s:List UInt8):Int:=QZ (fun u=>u==s) us 0
def Xe (l:List SN):Option V:=(l.find? fun n=>n.name==alias).map SN.val
def Wc (S:SC)(f:SF):Int:=if f.kind=10 then QZ (fun m:SM=>m.name==f.tname) S.msgs 0 else if f.kind=9 then QZ (fun m:SE=>m.name==f.tname) S.enums 0 else -1
def WY (S:SC)(us:List (List UInt8))(f:SF):PO :=
 ⟨f.num,f.name,((Xe f.notes).map V.text).getD [],f.card,f.key,f.kind,Wc S f,if f.union=[]then -1 else XB us f.union⟩
def XX (S:SC)(m:SM):PG:=⟨m.name,m.fields.map (WY S (unl [] m.fields)),((unl [] m.fields).length:Int)⟩
def ZA (x:SI):PI:=⟨x.name,x.num,match Xe x.notes with
 |none=>[]
 |some v=>[⟨alias,v.cells⟩]⟩
def XQ (e:SE):PE:=⟨e.name,e.opn,e.items.map ZA,e.free,[]⟩
def Fj (S:SC):PL:=⟨S.msgs.map (XX S),S.enums.map XQ⟩

end Go.Proofs.YtaiflhahcglpgaaGreatDoor.Va

namespace Go.Proofs.YtaiflhahcglpgaaGreatDoor.Va
open Go Am Rc Bt Br

def Qve (B:List Bool)(o:PO):Bool:=o.card==1&&o.kind==10 && !(B[o.target.toNat]?.getD false)
def stp (G:List PG)(B:List Bool)(i:Nat):List Bool:=match G[i]? with
 |some g=>B.set i (!g.ops.any (Qve B))
 |none=>B
def rnd (G:List PG)(B:List Bool):Nat→List Bool
 |0=>B
 |i+1=>stp G (rnd G B i) i
def Qd (G:List PG):Nat→List Bool
 |0=>List.replicate G.length false
 |c+1=>rnd G (Qd G c) G.length
def fin (P:PL):Bool:=(Qd P.progs P.progs.length).all id

structure En (P:PL)(c:Nat)(B:List Bool)(f:Fr)(fr:Nat→Ob):Prop where
 h1:f 1=.ptr 0 1 0
 m1:fr 1=.cells [.list (P.progs.map gav),.list (P.enums.map eav)]
 h3:f 3=.ptr 0 3 0
 m3:fr 3=.cells [.vec 0 9 1 0 P.progs.length false]
 m9:fr 9=.vec 1 1 (B.map AV.bool)
 h12:f 12=.int .i64 (P.progs.length:Nat)
 h13:f 13=.int .i64 (c:Nat)
 r5:∀s∈[5],(fr s).isRow=false

theorem En.drop {P:PL}{c:Nat}{B:List Bool}{f f':Fr}{fr fr':Nat→Ob}(h:En P c B f fr)(hf:∀i,f' i=Wq [5] (f i))(hm:∀i,i∉[5]→fr' i=JU [5] (fr i))(hn:∀i∈[5],fr' i=.none):En P c B f' fr' where
 h1:=by rw[hf,h.h1]<;>rfl
 m1:=by rw[hm 1 (by decide),h.m1]<;>rfl
 h3:=by rw[hf,h.h3]<;>rfl
 m3:=by rw[hm 3 (by decide),h.m3]<;>rfl
 m9:=by rw[hm 9 (by decide),h.m9]<;>rfl
 h12:=by rw[hf,h.h12]<;>rfl
 h13:=by rw[hf,h.h13]<;>rfl
 r5:=fun s hs=>by rw[hn s hs]<;>rfl

def ck (P:PL):Int :=
 if lim P=false then 3 else if nam P=false then 8 else if ord P=false then 11 else if sin P=false then 9 else if rng P=false then 6 else if args P=false then 1 else if fin P=false then 19 else 0

def Pc (P:PL):List AV:=[.list (P.progs.map gav),.list (P.enums.map eav)]

section
variable {M:Nat}(P:PL)(hP:P.ok M)(fr:Nat→Ob)(m1:fr 1=.cells (Pc P))(f:Fr)(b:Bool)(h1:f 1=.ptr 0 1 0)(h3:f 3=.bool b)(Q:Exit→St→Prop)
include hP m1 h1 h3

end

section
variable {M:Nat}(P:PL)(hP:P.ok M)
include hP

end

theorem Qko (L:List PS)(hl:L.length≤maxLen)(n:Int):Qu Tryz.prog 121 [.list (L.map Q0),.int .i64 n] (.bool (kept L n)):=by
 let I:Nat→St→Prop:=fun k st=>∃f i,st=⟨f,[Qh],[]⟩∧k=L.length-i∧kept L n=kept (L.drop i) n∧f 0=.list (L.map Q0)∧f 1=.int .i64 n∧f 5=.int .i64 (i:Nat)
 refine Qrq.fn (by simp) ?_;simp only[Qa,seval];refine Qe I _ ⟨_,0,rfl,rfl,rfl,(by rfl),(by rfl),(by rfl)⟩ ?_;rintro _ st ⟨f,i,rfl,rfl,hx,h0,h1,h5⟩;simp only[QAo,h0,h5,Qa,seval];by_cases hlt:i<L.length
 ·obtain⟨x,hi⟩:∃x,L[i]? = some x:=⟨L[i],Qzf hlt⟩;have hg:(L.map Q0)[i]? = some (Q0 x):=by simp[hi]
  have e1:=Qn i _ hlt hl;have hd:kept (L.drop i) n=((decide (x.lo≤n)&&decide (n≤x.hi))||kept (L.drop (i+1)) n):=by
   unfold kept;rw[QzR hlt,show L[i]=x from(Qze.1 hi).2];rfl
  rw[hd]at hx;simp only[QA hlt,Qk,QAq,Qc,hg,Q0,PS.cells,h0,h1,h5,eE,seval];cases a1:decide (x.lo≤n)
  ·rw[a1,QAs,QAF]at hx;simp only[h5,e1,Qa,seval];exact⟨L.length-(i+1),by omega,_,i+1,rfl,rfl,hx,(by exact h0),(by exact h1),(by rfl)⟩
  ·cases a2:decide (n≤x.hi)
   ·rw[a1,a2,QAP,QAF]at hx;simp only[a2,Qk,QAq,Qc,hg,Q0,PS.cells,h0,h1,h5,e1,eE,seval];exact⟨L.length-(i+1),by omega,_,i+1,rfl,rfl,hx,(by exact h0),(by exact h1),(by rfl)⟩
   ·rw[a1,a2,QAf,QAE]at hx;simp only[a2,Qk,QAq,Qc,hg,Q0,PS.cells,h0,h1,h5,hx,eE,seval]
 ·have hx':kept L n=false:=by rw[hx,QzL (by omega)];rfl
  simp only[QC hlt,hx',Qa,seval]

section
variable {M:Nat}(P:PL)(hP:P.ok M)(fr:Nat→Ob)(m1:fr 1=.cells (Pc P))(f:Fr)(b:Bool)(h1:f 1=.ptr 0 1 0)(h3:f 3=.bool b)(Q:Exit→St→Prop)

include hP m1 h1 h3

end

section
variable (kd:Int)(b:Nat)(t:List UInt8)(l p s r:List AV)(ht:t.length+8≤maxLen)
include ht

end

section
variable (P:PL)

end

def oth (k:Int)(b:Nat)(t:List UInt8)(l p s r:List AV):Bool :=
 (k != 11&&decide ((l.length:Int) > 0))||(k != 12&&decide ((p.length:Int) > 0))||(k != 10&&decide (((s.length+r.length:Nat):Int) > 0))||((b:Int) != 0&&(J5 k||k==10||k==11||k==12))||(!(t==[]) && !J5 k)

section
variable (k:Int)(b:Nat)(t:List UInt8)(l p s r:List AV)(hs:s.length≤140737488351232)(hr:r.length≤140737488351232)

end

section
variable (k:Int)(b:Nat)(t:List UInt8)(l p s r:List AV)(hs:s.length≤140737488351232)(hr:r.length≤140737488351232)

end

theorem U1 {α:Type}(p:α→Bool){l:List α}{i:Nat}{x:α}(hx:l[i]? = some x):(l.drop i).find? p=if p x=true then some x else(l.drop (i+1)).find? p:=by
 have hlt:i<l.length:=(Qze.1 hx).1;rw[QzR hlt,show l[i]=x from(Qze.1 hx).2,List.find?_cons];cases p x<;>rfl

def zc:List AV:=[.int .i64 0,.str [],.str [],.int .i64 0,.int .i64 0,.int .i64 0,.int .i64 0,.int .i64 0]

section progs
variable (L:List PG)(hl:L.length≤maxLen)(p:PG→Bool)(c:Nat)(cap:AV)(m:Qo)

end progs

section items
variable (L:List PI)(hl:L.length≤maxLen)(p:PI→Bool)(c:Nat)(cap:AV)(m:Qo)

theorem Fk {α:Type}(p:α→Bool)(l:List α):decide (QZ p l 0≥0)=l.any p:=by
 rcases Xp p l 0 with⟨h1,h2⟩|⟨k,o,h1,_,h3⟩
 ·rw[h1];have:l.any p=false:=by
   rw[List.any_eq_false];intro x hx;exact fun h=>by have:=QAI.1 h2 x hx;exact this h
  rw[this];rfl
 ·rw[h1];have:l.any p=true:=QAJ.2 ⟨o,QAK h3,QAL h3⟩;rw[this];exact QAM (by omega)

end items

def pmi (b:Nat)(x:PI):Bool:=IntKind.u64.wrap x.num==(b:Int)
def acp (E:List PE)(t:Int)(b:Nat):Bool :=
 if 0≤t∧t<E.length∧b≤2147483647 then
  match E[t.toNat]? with
  |some x=>x.opn||x.items.any (pmi b)
  |none=>false
 else false

def Qvf (P:PL)(k tg kd:Int)(b:Nat)(t:List UInt8)(l p s r:List AV):Int :=
 if (kd != k||oth kd b t l p s r)=true then 12 else if decide ((t.length:Int) > 4096)=true then 3 else if (k==7 && !Z2 t)=true then 7
 else if (!ZY k kd b t l p s r)=true then 12 else if (k==9 && !acp P.enums tg b)=true then 16 else 0

section
variable {M:Nat}(P:PL)(hP:P.ok M)(k tg kd:Int)(b:Nat)(t:List UInt8)(l p s r:List AV)(hl:l.length≤140737488351232)(hp:p.length≤140737488351232)(hs:s.length≤140737488351232)(hr:r.length≤140737488351232)

end

section
variable {M:Nat}(hM:M≤140737488351232)(P:PL)(hP:P.ok M)(fr:Nat→Ob)(m1:fr 1=.cells (Pc P))(f:Fr)(b:Bool)(h1:f 1=.ptr 0 1 0)(h3:f 3=.bool b)(Q:Exit→St→Prop)
include hM hP m1 h1 h3

end

section
variable {M:Nat}(P:PL)(hP:P.ok M)(fr:Nat→Ob)(m1:fr 1=.cells (Pc P))(f:Fr)(b:Bool)(h1:f 1=.ptr 0 1 0)(h3:f 3=.bool b)(Q:Exit→St→Prop)
include hP m1 h1 h3

end

section
variable (x:PE)(hl1:x.items.length≤maxLen)(hl:x.free.length≤maxLen)(P:PL)(f:Fr)(b:Bool)(j:Nat)(fr:Nat→Ob)(h1:f 1=.ptr 0 1 0)(h3:f 3=.bool b)(h7:f 7=.int .i64 (j:Nat))(h8:f 8=.ptr 0 8 0)(m1:fr 1=.cells (Pc P))(m8:fr 8=.cells x.cells)(Q:Exit→St→Prop)
include hl1 hl h1 h3 h7 h8 m8

end

section
variable {M:Nat}(P:PL)(hP:P.ok M)(fr:Nat→Ob)(m1:fr 1=.cells (Pc P))(f:Fr)(b:Bool)(h1:f 1=.ptr 0 1 0)(h3:f 3=.bool b)(Q:Exit→St→Prop)
include hP m1 h1 h3

end

section
variable (k kd:Int)(b:Nat)(t:List UInt8)(l p s r:List AV)(ht:t.length+8≤maxLen)

include ht in
theorem Qkp:Qu Tryz.prog 173 [.int .i64 k,vo kd b t l p s r] (.bool (ZY k kd b t l p s r)):=by
 have hl:=Qu6 kd b t l p s r;simp only[vo]at hl;have n1:(kd != k)=!(kd==k):=rfl;have n2:(t != [])=!(t==[]):=rfl;refine Qsy.fn (by simp) ?_;simp only[vo,ZY,eE,seval];refine aC (Qun k) ?_;cases hk:UX k
 ·simp only[QAb,QAs,Qa,seval]
 simp only[n1,QAD,QAC,eE,seval];cases a1:(kd==k)
 ·simp only[QAb,QAs,Qa,seval]
 have e:kd=k:=by simpa using a1
 subst e;simp only[QAD,QAC,eE,seval];refine aC hl ?_;cases Wb l p s r
 ·simp only[QAb,QAs,Qa,seval]
 simp only[QAD,QAC,Qa,seval];refine aC (Qup kd) ?_;cases tx:J5 kd
 ·simp only[Qzv,Qx,eE,seval];cases a2:(t==[])
  ·simp only[QAb,QAs,Qa,seval]
  have e:t=[]:=by simpa using a2
  subst e;have k7:(kd != 7)=true:=by
   simp only[J5,QzX,QAO]at tx;simp[tx.1]
  have d0:decide (((0:Nat):Int)≤4096)=true:=rfl;simp only[k7,QAe,QAD,QAC,QAf,QAE,Qa,seval];unfold Uu;by_cases h1:kd=1
  ·subst h1;have b1:((1:Int)==1)=true:=rfl;simp only[b1,eE,seval]
  ·have b1:(kd==1)=false:=by simp[h1]
   by_cases h2:kd=2
   ·subst h2;have b2:((2:Int)==2)=true:=rfl;simp only[b1,b2,h1,eE,seval];cases hd:decide (IntKind.i64.wrap (b:Int)≥-2147483648)<;>simp only[QAC,QAs,Qa,seval]
   ·have b2:(kd==2)=false:=by simp[h2]
    by_cases h4:kd=4
    ·subst h4;have b4:((4:Int)==4)=true:=rfl;simp only[b1,b2,b4,h1,h2,eE,seval]
    ·have b4:(kd==4)=false:=by simp[h4]
     by_cases h9:kd=9
     ·subst h9;have b9:((9:Int)==9)=true:=rfl;simp only[b1,b2,b9,b4,h1,h2,h4,eE,seval]
     ·have b9:(kd==9)=false:=by simp[h9]
      simp only[b1,b2,b9,b4,h1,h2,h4,h9,Qa,seval]
 ·simp only[eE,seval];cases a2:((b:Int)==0)
  ·simp only[QAs,Qa,seval]
  have hfn:Uu kd b=true:=by
   simp only[J5,Qz1,QzA]at tx;rcases tx with rfl|rfl<;>rfl
  cases a3:decide ((t.length:Int)≤4096)
  ·simp only[a3,hfn,QAs,QAP,eE,seval]
  simp only[J5,Qz1,QzA]at tx;rcases tx with rfl|rfl
  ·have c8:((7:Int)==8)=false:=rfl;have c7:((7:Int) != 7)=false:=rfl;simp only[a3,c8,c7,hfn,QAC,QAF,eE,seval];refine aC (Qki t ht) ?_;simp only[Qa,seval]
  ·have c8:((8:Int)==8)=true:=rfl;have c7:((8:Int) != 7)=true:=rfl;simp only[a3,c8,c7,hfn,QAE,eE,seval]

end

section
variable {M:Nat}(P:PL)(hP:P.ok M)(k tg kd:Int)(b:Nat)(t:List UInt8)(l p s r:List AV)(ht:t.length+8≤maxLen)(hs:s.length≤140737488351232)(hr:r.length≤140737488351232)

end
open Up So

def Da (l:List Int):Int:=l.foldl (fun a t=>a+(2:Int) ^ t.toNat) 0
def Yg (x:List UInt8×Int×List Int):AV:=.agg [.int .i64 x.2.1,.int .i64 (Da x.2.2)]
def Fl:List AV→List (List UInt8×Int×List Int)→Bool
 | [],[]=>true
 |.agg [.int .i64 a,.int .i64 b] :: l,x :: r=>a==x.2.1&&b==Da x.2.2&&Fl l r
 |_,_=>false
theorem Qkq:∀ {l:List AV} {r:List (List UInt8×Int×List Int)},Fl l r=true→l=r.map Yg:=by
 intro l
 induction l with
 |nil=>
  intro r h;cases r with
  |nil=>rfl
  |cons x r=>simp[Fl]at h
 |cons y l ih=>
  intro r h;cases r with
  |nil=>unfold Fl at h;split at h<;>simp_all
  |cons x r=>
   unfold Fl at h;split at h
   ·simp_all
   ·rename_i hl hr;cases hl;cases hr;simp only[Qzz,QzA]at h;rw[QzI,←ih h.2,Yg,←h.1.1,←h.1.2]
   ·cases h
theorem Wy (s:List UInt8):∀L:List (List UInt8×Int×List Int),ZG s (L.map Prod.fst) (L.map Yg)=(L.find? fun x=>x.1==s).map Yg
 | []=>rfl
 |x :: L=>by
  rw[QzI,QzI,ZG,Wy s L,List.find?_cons];rw[show(s==x.1)=(x.1==s)from BEq.comm];cases x.1==s<;>rfl

def Wz:HX:=fun k=>match k with
 |186=>some (QhY,QhZ,16)
 |208=>some (QiE,QiF,21)
 |209=>some (QiR,QiS,48)
 |_=>none
theorem JY:YI Tryz.prog Wz:=by
 intro k c rs N h;unfold Wz at h;split at h
 ·cases h;exact QsR
 ·cases h;exact QiG
 ·cases h;exact Qtm
 ·cases h
def pKn:Option (AV×Qo)→Bool
 |some (.mp ks vs,_)=>ks==nK.map Prod.fst&&Fl vs nK
 |_=>false
theorem Qkr:pKn (JI Ev.Xz Wz (Zs Ev.Xz Wz 300) 186 [] [])=true:=by decide +kernel
theorem Qks:Qu Tryz.prog 186 [] (.mp (nK.map Prod.fst) (nK.map Yg)):=by
 have h:=Qkr;unfold pKn at h;split at h
 ·rename_i ks vs m' h1;rw[Qzz,QzA]at h;rw[←h.1,←Qkq h.2];exact(Jc Ev.J9 JY (YM Ev.J9 JY 300) _ _ _ _ _ h1).mono fun _ _ e=>e.1
 ·cases h
def pKi (n:Int):Option (AV×Qo)→Bool
 |some (.int .i64 k,_)=>k==n
 |_=>false
def pKb (b:Bool):Option (AV×Qo)→Bool
 |some (.bool k,_)=>k==b
 |_=>false
def KD:List Int:=[1,2,3,4,5,6]
theorem Mt:nK.all (fun x=>pKi x.2.1 (JI Ev.Xz Wz (Zs Ev.Xz Wz 300) 208 [.str x.1] []))=true:=by decide +kernel
theorem Mu:nK.all (fun x=>KD.all fun t=>pKb (x.2.2.contains t) (JI Ev.Xz Wz (Zs Ev.Xz Wz 300) 209 [.str x.1,.int .i64 t] []))=true:=by decide +kernel
theorem Mv:nK.all (fun x=>KD.all fun t=>(bits .and .i64 ((Da x.2.2).fdiv (2 ^ (min t.toNat IntKind.i64.bits))) 1==0) == !(x.2.2.contains t))=true:=by decide +kernel
theorem Qkt:nK.all (fun x=>decide (x.2.1≠0))=true:=by decide

theorem K0 {s:List UInt8}{x:List UInt8×Int×List Int}(h:nK.find? (fun x=>x.1==s)=some x):x∈nK∧x.1=s∧XP s=x.2.1∧x.2.1≠0∧∀t,Cg s t=x.2.2.contains t:=by
 have h1:=QAK h;have h2:x.1=s:=by simpa using QAL h
 have e:Fi s=some x.2:=by unfold Fi;rw[h];rfl
 refine⟨h1,h2,?_,?_,fun t=>?_⟩
 ·unfold XP;rw[e];rfl
 ·simpa using Qzp.1 Qkt x h1
 ·unfold Cg;rw[e];rfl
theorem K1 {s:List UInt8}(h:nK.find? (fun x=>x.1==s)=none):XP s=0:=by
 have e:Fi s=none:=by unfold Fi;rw[h];rfl
 unfold XP;rw[e];rfl

theorem Qvg (s:List UInt8):Qu Tryz.prog 217 [.str s] (.int .i64 (XP s)):=by
 have hm:=Wy s nK;refine Qtz.fn (by simp) ?_;simp only[Qa,seval];refine aC Qks ?_;cases hf:nK.find? (fun x=>x.1==s)with
 |none=>
  rw[hf]at hm;simp only[X8,hm,Qz3,K1 hf,Qa,seval]
 |some x=>
  rw[hf]at hm;obtain⟨_,_,hk,_⟩:=K0 hf;have hg:AV.gr (.agg [.int .i64 x.2.1,.int .i64 (Da x.2.2)])=true:=rfl;simp only[X8,hm,QzC,Yg,hg,hk,Qa,seval]

section
variable {M:Nat}(n:SN)(hn:n.ok M)(hM:M+8≤maxLen)

theorem Ka (n:SN):n.cells=[.str n.name,.int .i64 n.val.kd,.int .u64 (n.val.bits:Nat),.str n.val.text,.list (n.val.list.map V.av),.list (n.val.pairs.map V.pav),.list (n.val.slots.map V.sav),.list (n.val.raws.map R.av)]:=by
 rw[SN.cells,V.eta]

include hn in
theorem Qvh:Qu Tryz.prog 187 [.agg n.cells] (.bool (U0 n)):=by
 have hv:=hn.val;have n1:=hv.nl;have n2:=hv.np;have n3:=hv.ns;have n4:=hv.nr;have hf:=Qkk (XP n.name) n.val.kd n.val.bits n.val.text (n.val.list.map V.av) (n.val.pairs.map V.pav) (n.val.slots.map V.sav) (n.val.raws.map R.av) (by simp;omega) (by simp;omega) (by simp;omega) (by simp;omega);have he:U0 n=(XP n.name != 0&&ZY (XP n.name) n.val.kd n.val.bits n.val.text (n.val.list.map V.av) (n.val.pairs.map V.pav) (n.val.slots.map V.sav) (n.val.raws.map R.av)):=rfl;simp only[vo]at hf;rw[Ka,he];refine QsU.fn (by simp) ?_;simp only[eE,seval];refine aC (Qvg n.name) ?_;cases h0:(XP n.name != 0)
 ·simp only[h0,QAs,Qa,seval]
 ·simp only[h0,QAC,eE,seval];refine aC hf ?_;simp only[Qa,seval]

include hn in
theorem Qvi (t:Int)(ht:t∈KD)(last:List UInt8)(ok:Bool):Qu Tryz.prog 145 [.agg n.cells,.int .i64 t,.str last,.bool ok] (.int .i64 (Jd t (if ok=true then some last else none) n)):=by
 have hr:=Qvh n hn;have hm:=Wy n.name nK;have t1:decide (t<1)=false:=by simp[KD]at ht;exact QAR (by omega)
 have t2:decide (t > 6)=false:=by simp[KD]at ht;exact QAR (by omega)
 have t3:(0≤t)=True:=by simp[KD]at ht;simp;omega
 have hrt:U0 n=(XP n.name != 0&&n.val.fitk (XP n.name)):=rfl;rw[Ka]at hr ⊢;unfold Jd;refine QrY.fn (by simp) ?_;simp only[eE,seval];refine aC Qks ?_;cases hf:nK.find? (fun x=>x.1==n.name)with
 |none=>
  rw[hf]at hm;rw[Qzk (K1 hf)];simp only[hm,Qz3,eE,seval]
 |some x=>
  rw[hf]at hm;obtain⟨hx,_,hk,h0,htg⟩:=K0 hf;have hg:AV.gr (.agg [.int .i64 x.2.1,.int .i64 (Da x.2.2)])=true:=rfl;have hb:(bits .and .i64 ((Da x.2.2).fdiv (2 ^ (min t.toNat IntKind.i64.bits))) 1==0)=!(x.2.2.contains t):=by simpa using Qzp.1 (Qzp.1 Mv x hx) t ht
  have hb2:(bits .and .i64 ((Da x.2.2).fdiv (2 ^ (min t.toNat 64))) 1==0)=!(x.2.2.contains t):=hb;rw[Qzj (by rw[hk];exact h0),htg t];have hrt':U0 n=n.val.fitk (XP n.name):=by rw[hrt,hk];simp[h0]
  simp only[hm,QzC,Yg,hg,t1,t2,t3,hb2,eE,seval];cases hc:x.2.2.contains t
  ·simp only[QAb,Qa,seval]
  ·simp only[QAD,Bool.true_eq_false,eE,seval];refine aC hr ?_;rw[hrt'];cases hq:n.val.fitk (XP n.name)
   ·simp only[QAb,Qa,seval]
   ·simp only[QAD,Bool.true_eq_false,Qa,seval];cases ok
    ·simp only[Qzv,Qa,seval]
    ·simp only[eE,seval];cases hl:Op.bytesLess n.name last
     ·simp only[Qx,hl,Qzv,eE,seval];by_cases he:n.name=last
      ·have b0:(n.name==last)=true:=by simp[he]
       simp only[b0,Qzk he,Qa,seval]
      ·have b0:(n.name==last)=false:=by simp[he]
       simp only[b0,Qzj he,Qa,seval]
     ·simp only[Qx,hl,Qa,seval]
end

def Zj (l:List SN):Nat→Option (List UInt8)
 |0=>none
 |i+1=>(l[i]?).map SN.name
theorem Jt {l:List SN}{i:Nat}{x:SN}(h:l[i]? = some x):Zj l (i+1)=some x.name:=by
 rw[Zj,h];rfl
theorem Db {t:Int}{l:List SN}{i:Nat}{x:SN}(h:l[i]? = some x)(la:Option (List UInt8)):Jv t la (l.drop i)=if Jd t la x=0 then Jv t (some x.name) (l.drop (i+1))else Jd t la x:=by
 have hlt:i<l.length:=(Qze.1 h).1;rw[QzR hlt,show l[i]=x from(Qze.1 h).2];rfl

def KcI (l:List SN)(t:Int)(k:Nat)(st:St):Prop :=
 ∃f fr i la,st=⟨f,[fr],[]⟩∧k=l.length-i∧i≤l.length∧Jv t none l=Jv t (Zj l i) (l.drop i)∧f 5=.str la∧(i=0∨Zj l i=some la)∧f 1=.int .i64 t∧f 12=.list (l.map fun n=>.agg n.cells)∧f 13=.int .i64 (l.length:Nat)∧f 14=.int .i64 (i:Nat)∧∀s∈[7],(fr s).isRow=false

theorem y94 {M:Nat}(l:List SN)(hl:l.length≤maxLen)(hn:∀n∈l,n.ok M)(t:Int)(ht:t∈KD):Qu Tryz.prog 94 [.list (l.map fun n=>.agg n.cells),.int .i64 t] (.int .i64 (XT l t)):=by
 unfold XT;refine k94.fn (by simp) ?_;simp only[QAo,Qa,seval];by_cases h8:l.length > 8
 ·have d:decide ((l.length:Int) > 8)=true:=QAM (by omega);rw[Qzk h8];simp only[d,Qa,seval]
 have d:decide ((l.length:Int) > 8)=false:=QAR (by omega);rw[Qzj h8];simp only[d,Qa,seval];refine Qe (KcI l t) _ ⟨_,_,0,[],rfl,rfl,Qzl _,rfl,(by rfl),.inl rfl,(by rfl),(by rfl),(by simp only[QAo,Qa,seval]),(by rfl),by simp<;>rfl⟩ ?_;rintro _ st ⟨f0,fr0,i,la,rfl,rfl,hi,hc,h50,hla,h10,h120,h130,h140,r7⟩;refine QJ (a:=_) [7] r7 ?_;intro f fr hff hm hn7;have h1:f 1=.int .i64 t:=by rw[hff,h10]<;>rfl
 have h5:f 5=.str la:=by rw[hff,h50]<;>rfl
 have h12:f 12=.list (l.map fun n=>.agg n.cells):=by rw[hff,h120]<;>rfl
 have h13:f 13=.int .i64 (l.length:Nat):=by rw[hff,h130]<;>rfl
 have h14:f 14=.int .i64 (i:Nat):=by rw[hff,h140]<;>rfl
 have n7:=hn7 7 (by decide);clear hff hm hn7 h10 h50 h120 h130 h140 r7;simp only[h13,h14,Qa,seval];by_cases hlt:i<l.length
 ·obtain⟨x,hi'⟩:∃x,l[i]? = some x:=⟨l[i],Qzf hlt⟩;have hg:(l.map fun n=>AV.agg n.cells)[i]? = some (.agg x.cells):=by simp[hi']
  have e1:=Qn i _ hlt hl;have ho:=Qvi x (hn x (Qzq hi')) t ht la (decide ((i:Int) > 0));have hx:(if decide ((i:Int) > 0)=true then some la else none)=Zj l i:=by
   rcases QzV i with h0|h0
   ·subst h0;rfl
   ·rw[Qzk (QAM (by omega))];rcases hla with h|h
    ·omega
    ·exact h.symm
  rw[hx]at ho;rw[Db hi']at hc;rw[Ka]at hg ho;simp only[QA hlt,Qk,QAq,Qc,hg,n7,h1,h5,h12,h14,eE,seval];refine aC ho ?_;by_cases hz:Jd t (Zj l i) x=0
  ·have d0:(Jd t (Zj l i) x != 0)=false:=by simp[hz]
   rw[Qzk hz]at hc;simp only[d0,h14,e1,eE,seval];exact⟨l.length-(i+1),by omega,_,_,i+1,x.name,rfl,rfl,by omega,by rw[hc,Jt hi'],(by rfl),.inr (Jt hi'),(by exact h1),(by exact h12),(by exact h13),(by rfl),by simp<;>rfl⟩
  ·have d0:(Jd t (Zj l i) x != 0)=true:=by simp[hz]
   rw[Qzj hz]at hc;simp only[d0,hc,Qa,seval]
 ·rw[QzL (by omega)]at hc;have hc':Jv t none l=0:=hc;simp only[QC hlt,hc',Qa,seval]

theorem Qku (s:List UInt8):Qu Tryz.prog 208 [.str s] (.int .i64 (XP s)):=by
 cases hf:nK.find? (fun x=>x.1==s)with
 |some x=>
  obtain⟨hx,hs,hk,_,_⟩:=K0 hf;have h:=Qzp.1 Mt x hx;rw[hs]at h;rw[hk];unfold pKi at h;split at h
  ·rename_i k m' h1;rw[QzA]at h;subst h;exact(Jc Ev.J9 JY (YM Ev.J9 JY 300) _ _ _ _ _ h1).mono fun _ _ e=>e.1
  ·cases h
 |none=>
  have hno:=QAI.1 hf;have hb:∀x∈nK,(s==x.1)=false:=fun x hx=>by
   have:=hno x hx;rw[BEq.comm]
   simpa using this
  simp only[nK,List.forall_mem_cons,QAT,false_implies,implies_true,and_true]at hb;obtain⟨b1,b2,b3,b4,b5,b6,b7,b8,b9,b10,b11,b12,b13⟩:=hb;rw[K1 hf];refine QiG.fn (by simp) ?_;simp only[Qx,b1,b2,b3,b4,b5,b6,b7,b8,b9,b10,b11,b12,b13,Qa,seval]
theorem Qvj (s:List UInt8)(hs:XP s≠0)(t:Int)(ht:t∈KD):Qu Tryz.prog 209 [.str s,.int .i64 t] (.bool (Cg s t)):=by
 cases hf:nK.find? (fun x=>x.1==s)with
 |some x=>
  obtain⟨hx,hs,_,_,hk⟩:=K0 hf;have h:=Qzp.1 (Qzp.1 Mu x hx) t ht;rw[hs]at h;rw[hk t];unfold pKb at h;split at h
  ·rename_i k m' h1;rw[QzA]at h;subst h;exact(Jc Ev.J9 JY (YM Ev.J9 JY 300) _ _ _ _ _ h1).mono fun _ _ e=>e.1
  ·cases h
 |none=>exact absurd (K1 hf) hs

theorem Ar {n:V}{k:Int}(h:n.fitk k=true):n.kd=k:=by
 unfold V.fitk ZY at h;simp only[Qzz,QzA]at h;exact h.1.1.1.1.1.2
section
variable {M:Nat}(n:SN)(hn:n.ok M)(hM:M+8≤maxLen)
include hn hM in
theorem Qvk:Qu Tryz.prog 210 [.agg n.cells] (.bool (U0 n)):=by
 have hf:=Qkp (XP n.name) n.val.kd n.val.bits n.val.text (n.val.list.map V.av) (n.val.pairs.map V.pav) (n.val.slots.map V.sav) (n.val.raws.map R.av) (by have:=hn.val.text;omega);have he:U0 n=(XP n.name != 0&&ZY (XP n.name) n.val.kd n.val.bits n.val.text (n.val.list.map V.av) (n.val.pairs.map V.pav) (n.val.slots.map V.sav) (n.val.raws.map R.av)):=rfl;have hk:n.val.fitk (XP n.name)=ZY (XP n.name) n.val.kd n.val.bits n.val.text (n.val.list.map V.av) (n.val.pairs.map V.pav) (n.val.slots.map V.sav) (n.val.raws.map R.av):=rfl;simp only[vo]at hf;rw[Ka,he,←hk];rw[←hk]at hf;refine Qtp.fn (by simp) ?_;simp only[eE,seval];refine aC (Qku n.name) ?_;cases h0:(XP n.name != 0)
 ·simp only[h0,QAs,Qa,seval]
 simp only[h0,QAC,eE,seval];cases a1:(n.val.kd==XP n.name)
 ·have e:n.val.fitk (XP n.name)=false:=by
   rw[QAH];intro h;rw[Ar h]at a1;simp at a1
  simp only[e,Qa,seval]
 ·simp only[eE,seval];refine aC hf ?_;simp only[Qa,seval]
end

def ScI (l:List SN)(t:Int)(k:Nat)(st:St):Prop :=
 ∃f i,st=⟨f,[Qh],[]⟩∧k=l.length-i∧i≤l.length∧Jv t none l=Jv t (Zj l i) (l.drop i)∧f 0=.list (l.map fun n=>.agg n.cells)∧f 1=.int .i64 t∧f 5=.int .i64 (i:Nat)

theorem Qvl {M:Nat}(hM:M+8≤maxLen)(l:List SN)(hl:l.length≤maxLen)(hn:∀n∈l,n.ok M)(t:Int)(ht:t∈KD):Qu Tryz.prog 175 [.list (l.map fun n=>.agg n.cells),.int .i64 t] (.int .i64 (XT l t)):=by
 unfold XT;refine QsE.fn (by simp) ?_;simp only[QAo,Qa,seval];by_cases h8:l.length > 8
 ·have d:decide ((l.length:Int) > 8)=true:=QAM (by omega);rw[Qzk h8];simp only[d,Qa,seval]
 have d:decide ((l.length:Int) > 8)=false:=QAR (by omega);rw[Qzj h8];simp only[d,Qa,seval];refine Qe (ScI l t) _ ⟨_,0,rfl,rfl,Qzl _,rfl,(by rfl),(by rfl),(by rfl)⟩ ?_;rintro _ st ⟨f,i,rfl,rfl,hi,hc,h0,h1,h5⟩;simp only[QAo,h0,h5,Qa,seval];by_cases hlt:i<l.length
 case neg=>
  rw[QzL (by omega)]at hc;have hc':Jv t none l=0:=hc;simp only[QC hlt,hc',Qa,seval]
 obtain⟨x,hi'⟩:∃x,l[i]? = some x:=⟨l[i],Qzf hlt⟩;have hx:=hn x (Qzq hi');have hg:(l.map fun n=>AV.agg n.cells)[i]? = some (.agg x.cells):=by simp[hi']
 have e1:=Qn i _ hlt hl;have hr:=Qvk x hx hM;have hrt:U0 x=(XP x.name != 0&&x.val.fitk (XP x.name)):=rfl;rw[Db hi']at hc;rw[Ka]at hg hr;simp only[QA hlt,Qk,QAq,Qc,hg,h0,h5,eE,seval];refine aC (Qku x.name) ?_;by_cases hk:XP x.name=0
 ·have b0:(XP x.name==0)=true:=by simp[hk]
  have hz:Jd t (Zj l i) x=8:=by unfold Jd;rw[Qzk hk]
  rw[hz,Qzj (by decide)]at hc;simp only[b0,hc,Qa,seval]
 have b0:(XP x.name==0)=false:=by simp[hk]
 simp only[b0,Qk,QAq,Qc,hg,h0,h1,h5,eE,seval];refine aC (Qvj x.name hk t ht) ?_;cases a1:Cg x.name t
 ·have hz:Jd t (Zj l i) x=1:=by unfold Jd;rw[Qzj hk,Qzk a1]
  rw[hz,Qzj (by decide)]at hc;simp only[QAb,hc,Qa,seval]
 simp only[QAD,Qk,QAq,Qc,hg,h0,h5,eE,seval];refine aC hr ?_;have hrt':U0 x=x.val.fitk (XP x.name):=by rw[hrt];simp[hk]
 rw[hrt'];cases a2:x.val.fitk (XP x.name)
 ·have hz:Jd t (Zj l i) x=12:=by unfold Jd;rw[Qzj hk,Qzj (by rw[a1];decide),Qzk a2]
  rw[hz,Qzj (by decide)]at hc;simp only[QAb,hc,Qa,seval]
 have hz:Jd t (Zj l i) x=match Zj l i with
   |none=>0
   |some s=>if Op.bytesLess x.name s=true then 11 else if x.name=s then 9 else 0:=by
  unfold Jd;rw[Qzj hk,Qzj (by rw[a1];decide),Qzj (by rw[a2];decide)]<;>cases Zj l i<;>rfl
 cases i with
 |zero=>
  have c1:decide (((0:Nat):Int) > 0)=false:=rfl;have hz':Jd t (Zj l 0) x=0:=hz;rw[Qzk hz']at hc;simp only[QAD,h5,Qa,seval];exact⟨l.length-(0+1),by omega,_,0+1,rfl,rfl,by omega,by rw[hc,Jt hi'],(by exact h0),(by exact h1),(by rfl)⟩
 |succ j=>
  obtain⟨p,hj⟩:∃p,l[j]? = some p:=⟨l[j],Qzf (by omega)⟩;have hgj:(l.map fun n=>AV.agg n.cells)[j]? = some (.agg p.cells):=by simp[hj]
  have e2:=JC j _ hlt hl;have c1:decide (((j+1:Nat):Int) > 0)=true:=QAM (by omega);rw[Jt hj]at hz hc;dsimp only at hz;rw[Ka]at hgj;simp only[QAD,c1,e2,Qk,QAq,Qc,hg,hgj,Qx,h0,h5,eE,seval];cases a3:Op.bytesLess x.name p.name
  ·rw[a3,Qzj (by decide)]at hz;by_cases a4:x.name=p.name
   ·have b4:(x.name==p.name)=true:=by simp[a4]
    rw[Qzk a4]at hz;rw[hz,Qzj (by decide)]at hc;simp only[b4,c1,e2,Qk,QAq,Qc,hg,hgj,Qx,hc,h0,h5,eE,seval]
   ·have b4:(x.name==p.name)=false:=by simp[a4]
    rw[Qzj a4]at hz;rw[Qzk hz]at hc;simp only[b4,c1,e2,Qk,QAq,Qc,hg,hgj,Qx,h0,h5,e1,eE,seval];exact⟨l.length-(j+1+1),by omega,_,j+1+1,rfl,rfl,by omega,by rw[hc,Jt hi'],(by exact h0),(by exact h1),(by rfl)⟩
  ·rw[a3,Qzk rfl]at hz;rw[hz,Qzj (by decide)]at hc;simp only[hc,Qa,seval]

def Je (S:SC)(n:List UInt8):Int:=QZ (fun m:SM=>m.name==n) S.msgs 0
def Xh (S:SC)(F:List Bool)(m:SM):Bool:=(XU m).any fun n=>decide (Je S n≥0) && !(F[(Je S n).toNat]?.getD false)
def Kd (S:SC)(F:List Bool)(i:Nat):List Bool:=match S.msgs[i]? with
 |none=>F
 |some m=>if F[i]? = some false∧Xh S F m=false then F.set i true else F
def Xi (S:SC)(F:List Bool):Nat→List Bool
 |0=>F
 |i+1=>Kd S (Xi S F i) i
def Zz (S:SC):Nat→List Bool→List Bool
 |0,F=>F
 |k+1,F=>if Xi S F S.msgs.length=F then F else Zz S k (Xi S F S.msgs.length)
def Q2 (S:SC):List Bool:=Zz S S.msgs.length (List.replicate S.msgs.length false)

theorem As (S:SC)(F:List Bool)(i:Nat):(Kd S F i).length=F.length:=by
 unfold Kd;split
 ·rfl
 ·split
  ·exact List.length_set ..
  ·rfl
theorem JZ (S:SC)(F:List Bool):∀i,(Xi S F i).length=F.length
 |0=>rfl
 |i+1=>by rw[Xi,As,JZ S F i]
theorem Dc (S:SC):∀(k:Nat) (F:List Bool),(Zz S k F).length=F.length
 |0,_=>rfl
 |k+1,F=>by
  rw[Zz];split
  ·rfl
  ·rw[Dc S k,JZ]

def WZ (F:List Bool):Nat:=F.countP id
theorem Fm {F:List Bool}{i:Nat}(h:F[i]? = some false):WZ (F.set i true)=WZ F+1:=by
 induction F generalizing i with
 |nil=>cases h
 |cons b F ih=>
  cases i with
  |zero=>
   simp only[Qz5,QzD]at h;subst h;simp[WZ]
  |succ i=>
   simp only[QAa]at h;have:=ih h;unfold WZ at this ⊢;rw[List.set_cons_succ,List.countP_cons,List.countP_cons,this];omega
theorem Qkv (F:List Bool):WZ F≤F.length:=List.countP_le_length
theorem Fo (S:SC)(F:List Bool)(i:Nat):Kd S F i=F∨WZ (Kd S F i)=WZ F+1:=by
 unfold Kd;split
 ·exact .inl rfl
 ·split
  ·rename_i h;exact .inr (Fm h.1)
  ·exact .inl rfl
theorem KE (S:SC)(F:List Bool):∀i,Xi S F i=F∨WZ F<WZ (Xi S F i)
 |0=>.inl rfl
 |i+1=>by
  rw[Xi];rcases KE S F i with h|h
  ·rw[h];rcases Fo S F i with g|g
   ·exact .inl g
   ·exact .inr (by omega)
  ·rcases Fo S (Xi S F i) i with g|g
   ·exact .inr (by rw[g];exact h)
   ·exact .inr (by omega)
theorem Dd (S:SC):∀(k:Nat) (F:List Bool),F.length-WZ F≤k→Xi S (Zz S k F) S.msgs.length=Zz S k F
 |0,F,h=>by
  rw[Zz];rcases KE S F S.msgs.length with g|g
  ·exact g
  ·have h1:=Qkv (Xi S F S.msgs.length);rw[JZ]at h1;omega
 |k+1,F,h=>by
  rw[Zz];split
  ·rename_i e;exact e
  ·rename_i e;refine Dd S k _ ?_;rcases KE S F S.msgs.length with g|g
   ·exact absurd g e
   ·rw[JZ];omega

theorem U2 (S:SC):∀(k:Nat) (F:List Bool),∃j,j≤k∧Zz S k F=Nat.repeat (fun F=>Xi S F S.msgs.length) j F∧(j<k→Xi S (Zz S k F) S.msgs.length=Zz S k F)
 |0,F=>⟨0,Qzc _,rfl,fun h=>by omega⟩
 |k+1,F=>by
  by_cases e:Xi S F S.msgs.length=F
  ·exact⟨0,Qzl _,by rw[Zz,Qzk e];rfl,fun _=>by rw[Zz,Qzk e];exact e⟩
  ·obtain⟨j,h1,h2,h3⟩:=U2 S k (Xi S F S.msgs.length);have hrep:∀(j:Nat) (F:List Bool),Nat.repeat (fun F=>Xi S F S.msgs.length) (j+1) F=Nat.repeat (fun F=>Xi S F S.msgs.length) j (Xi S F S.msgs.length):=by
    intro j
    induction j with
    |zero=>intro F;rfl
    |succ j ih=>intro F;show Xi S (Nat.repeat _ (j+1) F) _=_;rw[ih F];rfl
   refine⟨j+1,by omega,by rw[Zz,Qzj e,h2,hrep],fun hj=>?_⟩;rw[Zz,Qzj e];exact h3 (by omega)

def WA (S:SC)(F:List Bool)(X:List (List UInt8)):Prop:=F.length=S.msgs.length∧∀(i:Nat) (m:SM),S.msgs[i]? = some m→(X.contains m.name=true↔F[i]? = some true)
def Dst (S:SC):Prop:=∀(i j:Nat) (m n:SM),S.msgs[i]? = some m→S.msgs[j]? = some n→m.name=n.name→i=j

section
variable {S:SC}(hD:Dst S)
include hD
theorem Qkx {i:Nat}{m:SM}(h:S.msgs[i]? = some m):Je S m.name=(i:Int):=by
 unfold Je;rcases Xp (fun x:SM=>x.name==m.name) S.msgs 0 with⟨_,hn⟩|⟨k,o,h1,h2,h3⟩
 ·have:=QAI.1 hn m (Qzq h);simp at this
 ·have hn:o.name=m.name:=by simpa using QAL h3
  have:=hD k i o m h2 h hn;rw[h1];omega
theorem Au {i:Nat}{m:SM}(h:S.msgs[i]? = some m):S.msgs.find? (fun x=>x.name==m.name)=some m:=by
 rcases Xp (fun x:SM=>x.name==m.name) S.msgs 0 with⟨_,hn⟩|⟨k,o,h1,h2,h3⟩
 ·have:=QAI.1 hn m (Qzq h);simp at this
 ·have hn:o.name=m.name:=by simpa using QAL h3
  have:=hD k i o m h2 h hn;subst this;rw[h2]at h;cases h;exact h3
theorem Fp {F:List Bool}{X:List (List UInt8)}(h:WA S F X)(m:SM):(XU m).any (fun n=>QS S n && !X.contains n)=Xh S F m:=by
 unfold Xh;congr 1
 funext n;cases hm:QS S n with
 |false=>
  have:¬Je S n≥0:=by
   unfold Je;rcases Xp (fun x:SM=>x.name==n) S.msgs 0 with⟨h1,_⟩|⟨k,o,_,h2,h3⟩
   ·rw[h1];decide
   ·unfold QS at hm;have:=List.any_eq_false.1 hm o (Qzq h2);exact absurd (QAL h3) this
  rw[QAR this];rfl
 |true=>
  unfold QS at hm;obtain⟨x,hx,hxn⟩:=QAJ.1 hm;obtain⟨i,hi,rfl⟩:=List.getElem_of_mem hx;have hxi:S.msgs[i]? = some S.msgs[i]:=Qzf hi;have hxn:S.msgs[i].name=n:=by simpa using hxn
  subst hxn;rw[Qkx hD hxi,QAM (by omega),QAq];obtain⟨hl,h2⟩:=h;have h3:=h2 i _ hxi;have hF:F[i]? = some (F[i]'(by omega)):=Qzf (by omega);rw[hF]at h3 ⊢;simp only[QzD,QAd]at h3 ⊢;cases hb:F[i]'(by omega)<;>cases hc:X.contains S.msgs[i].name<;>simp_all
theorem Av {F:List Bool}{X:List (List UInt8)}(h:WA S F X){i:Nat}{m:SM}(hm:S.msgs[i]? = some m):WA S (Kd S F i) (Zc S X m):=by
 have hne:=Fp hD h m;unfold Zc Kd;rw[hm,Au hD hm];dsimp only;rw[hne];obtain⟨hl,h2⟩:=h;have h3:=h2 i m hm;have hi:i<S.msgs.length:=(Qze.1 hm).1;have hF:F[i]? = some (F[i]'(by omega)):=Qzf (by omega);cases hs:Xh S F m with
 |true=>
  rw[Qzk (show true=true from rfl),Qzj (fun h:F[i]? = some false∧true=false=>by cases h.2)];exact⟨hl,h2⟩
 |false=>
  rw[Qzj (show ¬(false=true)by decide)];by_cases hc:X.contains m.name=true
  ·have:=h3.1 hc;rw[Qzk hc,Qzj (fun h:F[i]? = some false∧false=false=>by rw[this]at h;cases h.1)];exact⟨hl,h2⟩
  ·have hf:F[i]? = some false:=by
    cases hb:F[i]'(by omega)with
    |false=>rw[hF,hb]
    |true=>exact absurd (h3.2 (by rw[hF,hb])) hc
   rw[Qzj hc,Qzk (show F[i]? = some false∧false=false from⟨hf,rfl⟩)];refine⟨by rw[List.length_set];exact hl,fun j n hn=>?_⟩;have h4:=h2 j n hn;rw[List.getElem?_set];by_cases hij:i=j
   ·subst hij;rw[hm]at hn;cases hn;rw[Qzk rfl,Qzk (by omega)];simp
   ·rw[Qzj hij,←h4];have hnn:n.name≠m.name:=fun e=>hij (hD i j m n hm hn e.symm)
    simp only[QAU,List.mem_append,List.mem_singleton];exact⟨fun h=>h.resolve_right hnn,.inl⟩
theorem De {F:List Bool}{X:List (List UInt8)}(h:WA S F X):∀i,i≤S.msgs.length→WA S (Xi S F i) ((S.msgs.take i).foldl (Zc S) X)
 |0,_=>by simpa [Xi]using h
 |i+1,hi=>by
  have ih:=De h i (by omega);have hm:S.msgs[i]? = some (S.msgs[i]'(by omega)):=Qzf (by omega);rw[Xi,QAx,hm,List.foldl_append];exact Av hD ih hm
theorem Ch {F:List Bool}{X:List (List UInt8)}(h:WA S F X):WA S (Xi S F S.msgs.length) (Yf S X):=by
 have:=De hD h S.msgs.length (Qzc _)
 rwa [QAv]at this
theorem Df {F:List Bool}{X:List (List UInt8)}(h:WA S F X):∀(k:Nat),WA S (Nat.repeat (fun F=>Xi S F S.msgs.length) k F) (Nat.repeat (Yf S) k X)
 |0=>h
 |k+1=>Ch hD (Df h k)
theorem Qky:WA S (Q2 S) (KZ S):=by
 have h0:WA S (List.replicate S.msgs.length false) []:=by
  refine⟨List.length_replicate,fun i m hm=>?_⟩;have hi:=(Qze.1 hm).1;rw[List.getElem?_replicate,Qzk hi];simp
 obtain⟨j,h1,h2,h3⟩:=U2 S S.msgs.length (List.replicate S.msgs.length false);have hfix:Xi S (Q2 S) S.msgs.length=Q2 S:=Dd S _ _ (by rw[List.length_replicate];omega);have hX:∀k,KY S k=Nat.repeat (Yf S) k []:=by
  intro k
  induction k with
  |zero=>rfl
  |succ k ih=>rw[KY,ih];rfl
 have hstay:∀d,Nat.repeat (fun F=>Xi S F S.msgs.length) d (Q2 S)=Q2 S:=by
  intro d
  induction d with
  |zero=>rfl
  |succ d ih=>show Xi S (Nat.repeat _ d (Q2 S)) _=_;rw[ih,hfix]
 have hadd:∀d (F:List Bool),Nat.repeat (fun F=>Xi S F S.msgs.length) (d+j) F=Nat.repeat (fun F=>Xi S F S.msgs.length) d (Nat.repeat (fun F=>Xi S F S.msgs.length) j F):=by
  intro d
  induction d with
  |zero=>intro F;rw[QzB];rfl
  |succ d ih=>intro F;rw[show d+1+j=(d+j)+1 by omega];show Xi S (Nat.repeat _ (d+j) F) _=_;rw[ih F];rfl
 have:=Df hD h0 (S.msgs.length+1);rw[←hX,show S.msgs.length+1=(S.msgs.length+1-j)+j by omega,hadd,←h2,show Zz S S.msgs.length (List.replicate S.msgs.length false)=Q2 S from rfl,hstay]at this;rw[show(S.msgs.length+1-j)+j=S.msgs.length+1 by omega]at this;exact this
theorem Qkz (m:SM):Y6 S m=Xh S (Q2 S) m:=Fp hD (Qky hD) m
end

end Go.Proofs.YtaiflhahcglpgaaGreatDoor.Va

namespace Go.Proofs.YtaiflhahcglpgaaGreatDoor.Va
open Go Am Rc Bt Br Up

def _root_.Go.Proofs.YtaiflhahcglpgaaGreatDoor.Br.V.oth (v:V):Bool:=Va.oth v.kd v.bits v.text (v.list.map V.av) (v.pairs.map V.pav) (v.slots.map V.sav) (v.raws.map R.av)
def _root_.Go.Proofs.YtaiflhahcglpgaaGreatDoor.Br.V.one (P:PL)(k tg:Int)(v:V):Int:=Qvf P k tg v.kd v.bits v.text (v.list.map V.av) (v.pairs.map V.pav) (v.slots.map V.sav) (v.raws.map R.av)

section
variable (m:PG→V→Int)(P:PL)
end

mutual
def _root_.Go.Proofs.YtaiflhahcglpgaaGreatDoor.Br.V.cnt:V→Nat
 |.mk _ _ _ l p s r=>1+r.length+QkA l+QkB p+QkC s
def QkA:List V→Nat
 | []=>0
 |x :: l=>x.cnt+QkA l
def QkB:List (V×V)→Nat
 | []=>0
 |(a,b) :: l=>a.cnt+b.cnt+QkB l
def QkC:List (Int×V)→Nat
 | []=>0
 |(_,a) :: l=>a.cnt+QkC l
end

inductive Thin:V→Prop
 |mk {v:V} (n:v.list.length+2*v.pairs.length+v.slots.length≤1099511627776) (list:∀x∈v.list,Thin x) (keys:∀x∈v.pairs,Thin x.1) (vals:∀x∈v.pairs,Thin x.2) (slots:∀x∈v.slots,Thin x.2):Thin v

open So

section sorting
variable {α:Type}{lt:α→α→Bool}
end sorting

theorem K2:∀ {a b c:List UInt8},Op.bytesLess a b=true→Op.bytesLess b c=true→Op.bytesLess a c=true
 |a,b,[],_,h=>by cases b<;>simp[Op.bytesLess]at h
 | [],_,_ :: _,_,_=>by simp[Op.bytesLess]
 |x :: a,[],_ :: _,h,_=>by simp[Op.bytesLess]at h
 |x :: a,y :: b,z :: c,h,k=>by
  simp only[Op.bytesLess,Qz1,Qzz,QAl,QzA]at h k ⊢;rcases h with h|⟨h1,h2⟩<;>rcases k with k|⟨k1,k2⟩
  ·exact .inl (UInt8.lt_trans h k)
  ·subst k1;exact .inl h
  ·subst h1;exact .inl k
  ·subst h1 k1;exact .inr ⟨rfl,K2 h2 k2⟩
theorem WB:∀ {a b:List UInt8},Op.bytesLess a b=false→Op.bytesLess b a=false→a=b
 | [],[],_,_=>rfl
 | [],_ :: _,h,_=>by simp[Op.bytesLess]at h
 |_ :: _,[],_,h=>by simp[Op.bytesLess]at h
 |x :: a,y :: b,h,k=>by
  simp only[Op.bytesLess,QzX,Bool.and_eq_false_iff,QAN,QAO]at h k;have e:x=y:=by
   rcases Nat.lt_trichotomy x.toNat y.toNat with g|g|g
   ·exact absurd (UInt8.lt_iff_toNat_lt.2 g) h.1
   ·exact UInt8.toNat_inj.1 g
   ·exact absurd (UInt8.lt_iff_toNat_lt.2 g) k.1
  subst e;rw[WB (h.2.resolve_left fun g=>g rfl) (k.2.resolve_left fun g=>g rfl)]
theorem Jf:∀a:List UInt8,Op.bytesLess a a=false
 | []=>rfl
 |x :: a=>by simp[Op.bytesLess,Jf a]

def kl (k:Int)(a b:V):Bool :=
 if J5 k=true then Op.bytesLess a.text b.text else if (k==2||k==3)=true then decide (IntKind.i64.wrap (a.bits:Int)<IntKind.i64.wrap (b.bits:Int))else decide ((a.bits:Int)<(b.bits:Int))
section
variable (nm:PG→V→V)(P:PL)
end

theorem Ux {α β:Type}(f:α→β)(lt:β→β→Bool)(l:List α):XS (l.map f) lt=XS l (fun x y=>lt (f x) (f y)):=by
 unfold XS;rw[QAo];refine Bq fun i hi=>?_
 cases i with
 |zero=>rfl
 |succ k=>
  rw[J6 (x:=f (l[k]'(by omega))) (y:=f l[k+1]) (by rw[QAm,Qzf (by omega)];rfl) (by rw[QAm,Qzf hi];rfl)];rw[J6 (Qzf (by omega:k<l.length)) (Qzf hi)]
structure Sok (S:SC):Prop where
 lm:S.msgs.length≤64∧S.enums.length≤64∧S.servs.length≤64
 om:XS S.msgs (J7 SM.name)=true
 oe:XS S.enums (J7 SE.name)=true
 ap:∀e∈S.enums,∀m∈S.msgs,m.name≠e.name
 ms:∀m∈S.msgs,Bw S m=true
 es:∀e∈S.enums,Uw e=true
theorem Ci {S:SC}(h:ZF S=true):Sok S:=by
 unfold ZF at h;simp only[Qzz,Qzp]at h;obtain⟨⟨⟨⟨⟨h1,h2⟩,h3⟩,h4⟩,h5⟩,_⟩:=h;unfold Ms at h1;unfold Mr at h2;unfold Z7 at h3;simp only[Qzz,QAl]at h1 h2 h3;refine⟨⟨h1.1.1,h1.1.2,h1.2⟩,h2.1.1,h2.1.2,fun e he m hm hn=>?_,h4,h5⟩;have:=h3.1.1;rw[Qz0,List.any_eq_false]at this;refine this e he (QAJ.2 ⟨m,hm,?_⟩);simp[hn]

structure Mok (S:SC)(m:SM):Prop where
 name:Xg m.name=true
 len:m.fields.length≤64
 flds:∀i,i<m.fields.length→Uv S m i=true
 nc:Y6 S m=false
structure Fok (S:SC)(m:SM)(i:Nat)(f:SF):Prop where
 num:1≤f.num∧f.num≤65535
 up:∀j y,i=j+1→m.fields[j]? = some y→y.num<f.num
 name:Q5 f.name=true
 twice:((m.fields.take i).any fun x=>x.name==f.name)=false
 card:Ww f=true
 typ:JD S f=true
 uni:Js m i=true
 Kq:Kq S f=true
 notes:XT f.notes 2=0
theorem Fq {S:SC}(hS:XS S.msgs (J7 SM.name)=true):Dst S:=by
 have hs:∀i (hi:i+1<S.msgs.length),Op.bytesLess S.msgs[i].name S.msgs[i+1].name=true:=by
  intro i hi;have h:=hS;unfold XS at h;have:=QW.1 h (i+1) hi;rw[J6 (Qzf (by omega:i<S.msgs.length)) (Qzf hi)]at this;exact this
 have hp:∀(i j:Nat) (hi:i<S.msgs.length) (hj:j<S.msgs.length),i<j→Op.bytesLess S.msgs[i].name S.msgs[j].name=true:=by
  intro i j hi hj hij;obtain⟨d,rfl⟩:∃d,j=i+1+d:=⟨j-(i+1),by omega⟩;clear hij
  induction d with
  |zero=>exact hs i (by omega)
  |succ d ih=>exact K2 (ih (by omega)) (hs (i+1+d) (by omega))
 intro i j m n hm hn e;obtain⟨hi,rfl⟩:=Qze.1 hm;obtain⟨hj,rfl⟩:=Qze.1 hn;rcases Nat.lt_trichotomy i j with c|c|c
 ·have:=hp i j hi hj c;rw[e,Jf]at this;cases this
 ·exact c
 ·have:=hp j i hj hi c;rw[e,Jf]at this;cases this

section
variable {S:SC}(hS:Sok S)
include hS
end

structure Eok (e:SE):Prop where
 name:Xg e.name=true
 len:1≤e.items.length∧e.items.length≤64
 free:e.free.length≤16
 itms:∀i,i<e.items.length→Wx e i=true
 spn:G9 0 2147483647 e.free=true
theorem Cj {e:SE}(h:Uw e=true):Eok e:=by
 unfold Uw at h;simp only[Qzz,QAl]at h;obtain⟨⟨⟨⟨⟨⟨h1,h2⟩,h3⟩,h4⟩,h5⟩,h6⟩,_⟩:=h;exact⟨h1,⟨h2,h3⟩,h4,QW.1 h5,h6⟩
structure Iok (e:SE)(i:Nat)(x:SI):Prop where
 num:0≤x.num∧x.num≤2147483647
 fst:i=0→x.num=0
 up:∀j y,i=j+1→e.items[j]? = some y→y.num<x.num
 name:Q5 x.name=true
 twice:((e.items.take i).any fun y=>y.name==x.name)=false
 kept:kept e.free x.num=false
 notes:XT x.notes 4=0
theorem Ck {e:SE}(he:Eok e){i:Nat}{x:SI}(hx:e.items[i]? = some x):Iok e i x:=by
 have h:=he.itms i (Qze.1 hx).1;unfold Wx at h;rw[hx]at h;simp only[Qzz,QAl,Qz0,QzA]at h;obtain⟨⟨⟨⟨⟨⟨h1,h2⟩,h3⟩,h4⟩,h5⟩,h6⟩,h7⟩:=h;refine⟨⟨h1,h2⟩,fun h0=>?_,fun j y hj hy=>?_,h4,h5,h6,h7⟩
 ·subst h0
  simpa using h3
 ·subst hj;dsimp only at h3;rw[hy]at h3
  simpa using h3

theorem Uy:∀(l:List SF) (us:List (List UInt8)),∃r,unl us l=us++r
 | [],us=>⟨[],by simp[unl]⟩
 |f :: l,us=>by
  rw[unl];split
  ·exact Uy l us
  ·obtain⟨r,h⟩:=Uy l (us++[f.union]);exact⟨f.union :: r,by rw[h];simp⟩
theorem Uz:∀(l:List SF) (us:List (List UInt8)) (s:List UInt8),s∈unl us l↔s∈us∨(s≠[]∧∃f∈l,f.union=s)
 | [],us,s=>by simp[unl]
 |f :: l,us,s=>by
  rw[unl];split
  ·rename_i h;rw[Uz l us s]
   constructor
   ·rintro(h1|⟨h1,g,hg,h2⟩)
    ·exact .inl h1
    ·exact .inr ⟨h1,g,by simp[hg],h2⟩
   ·rintro(h1|⟨h1,g,hg,h2⟩)
    ·exact .inl h1
    ·rcases QAj.1 hg with rfl|hg
     ·rcases h with h|h
      ·exact absurd (h2.symm.trans h) h1
      ·rw[h2]at h;exact .inl (by simpa using h)
     ·exact .inr ⟨h1,g,hg,h2⟩
  ·rename_i h;simp only[not_or]at h;rw[Uz l _ s];simp only[List.mem_append,List.mem_singleton]
   constructor
   ·rintro((h1|h1)|⟨h1,g,hg,h2⟩)
    ·exact .inl h1
    ·exact .inr ⟨by rw[h1];exact h.1,f,by simp,h1.symm⟩
    ·exact .inr ⟨h1,g,by simp[hg],h2⟩
   ·rintro(h1|⟨h1,g,hg,h2⟩)
    ·exact .inl (.inl h1)
    ·rcases QAj.1 hg with rfl|hg
     ·exact .inl (.inr h2.symm)
     ·exact .inr ⟨h1,g,hg,h2⟩
theorem UA:∀(a b:List SF) (us:List (List UInt8)),unl us (a++b)=unl (unl us a) b
 | [],b,us=>rfl
 |f :: a,b,us=>by rw[Qzx,unl,unl,UA a b]
theorem Fs {us r:List (List UInt8)}{s:List UInt8}(h:s∈us):XB (us++r) s=XB us s∧0≤XB us s∧XB us s<(us.length:Int):=by
 unfold XB;rcases Xp (fun u=>u==s) us 0 with⟨_,hn⟩|⟨k,o,h1,h2,h3⟩
 ·exact absurd (by simp) (QAI.1 hn s h)
 ·have hk:=(Qze.1 h2).1;have happ:∀(l:List (List UInt8)) (i:Nat),s∈l→QZ (fun u=>u==s) (l++r) i=QZ (fun u=>u==s) l i:=by
   intro l
   induction l with
   |nil=>intro i h;cases h
   |cons x l ih=>
    intro i h;rw[Qzx,QZ,QZ];split
    ·rfl
    ·rename_i hx;exact ih _ ((QAj.1 h).resolve_left fun e=>hx (by simp[e]))
  refine⟨happ us 0 h,?_,?_⟩
  ·rw[h1];omega
  ·rw[h1];omega
def X4 (us:List (List UInt8))(f:SF):Int:=if f.union=[]then -1 else XB us f.union

structure PB where
 dfn:List UInt8
 num:Int
 err:Int
def PB.av (x:PB):AV:=.agg [.str x.dfn,.int .i64 x.num,.int .i64 x.err]
def pb (d:List UInt8)(n:Int)(ok:Bool)(e:Int):List PB:=bif ok then []else [⟨d,n,e⟩]
theorem X5 {d:List UInt8}{n:Int}{ok:Bool}{e:Int}:pb d n ok e=[]↔ok=true:=by
 cases ok<;>simp[pb]
def Xl (d:List UInt8)(n:Int)(l:List SN)(t:Int):List PB:=pb d n (XT l t==0) (XT l t)
def Jw {α:Type}(l:List α)(num:α→Int)(i:Nat)(x:α):Bool:=match i with
 |0=>true
 |j+1=>match l[j]? with
  |none=>true
  |some y=>decide (num x > num y)
def Jg (S:SC)(m:SM)(i:Nat)(f:SF):List PB :=
 pb m.name f.num (decide (f.num≥1)&&decide (f.num≤65535)) 6++pb m.name f.num (Jw m.fields SF.num i f) 11++pb m.name f.num (Q5 f.name) 8 ++
 pb m.name f.num (!((m.fields.take i).any fun x=>x.name==f.name)) 9++pb m.name f.num (!(kept m.free f.num) && !(m.gone.contains f.name)) 21 ++
 pb m.name f.num (Ww f) 1++pb m.name f.num (JD S f) 12++pb m.name f.num (Js m i) 15++pb m.name f.num (Kq S f) 1++Xl m.name f.num f.notes 2
def upto {α β:Type}(l:List α)(g:Nat→α→List β):Nat→List β
 |0=>[]
 |n+1=>upto l g n++(match l[n]? with
  |none=>[]
  |some x=>g n x)
def Ju (d:List UInt8)(lo hi:Int)(l:List PS)(i:Nat)(x:PS):List PB :=
 pb d (-1) (decide (x.lo≥lo)&&decide (x.hi≤hi)&&decide (x.lo≤x.hi)) 6++pb d (-1) (match i with
  |0=>true
  |j+1=>match l[j]? with
   |none=>true
   |some y=>decide (x.lo > y.hi)) 11
def ZO (S:SC)(cy:SM→Bool)(m:SM):List PB :=
 pb m.name (-1) (Xg m.name) 8++pb m.name (-1) (decide (m.fields.length≤64)&&decide (m.free.length≤16)&&decide (m.gone.length≤16)) 3 ++
 upto m.fields (Jg S m) m.fields.length++upto m.free (Ju m.name 1 65535 m.free) m.free.length++upto m.gone (fun _ g=>pb m.name (-1) (Z2 g) 7) m.gone.length ++
 Xl m.name (-1) m.notes 1++pb m.name (-1) (!cy m) 19
def ZP (e:SE)(i:Nat)(x:SI):List PB :=
 pb e.name x.num (decide (x.num≥0)&&decide (x.num≤2147483647)) 6++pb e.name x.num (Jw e.items SI.num i x) 11++pb e.name x.num (Q5 x.name) 8 ++
 pb e.name x.num (!((e.items.take i).any fun y=>y.name==x.name)) 9++pb e.name x.num (!(kept e.free x.num)) 21++Xl e.name x.num x.notes 4
def Zn (e:SE):Bool:=match e.items with
 | []=>true
 |x :: _=>x.num==0
def ZK (e:SE):List PB :=
 pb e.name (-1) (Xg e.name) 8++pb e.name (-1) (decide (e.items.length≥1)&&decide (e.items.length≤64)&&decide (e.free.length≤16)) 3++pb e.name (-1) (Zn e) 14 ++
 upto e.items (ZP e) e.items.length++upto e.free (Ju e.name 0 2147483647 e.free) e.free.length++Xl e.name (-1) e.notes 3
def Jh (S:SC)(v:SQ)(i:Nat)(x:SO):List PB :=
 pb v.name (i:Int) (Q5 x.name) 8++pb v.name (i:Int) (match i with
  |0=>true
  |j+1=>match v.meths[j]? with
   |none=>true
   |some y=>Op.bytesLess y.name x.name) 11++pb v.name (i:Int) (QS S x.inn&&QS S x.out) 12++pb v.name (i:Int) (decide (x.shape≥1)&&decide (x.shape≤4)) 1++Xl v.name (i:Int) x.notes 6
def ZV (S:SC)(v:SQ):List PB :=
 pb v.name (-1) (Xg v.name) 8++pb v.name (-1) (decide (v.meths.length≤64)) 3++upto v.meths (Jh S v) v.meths.length++Xl v.name (-1) v.notes 5
def ZQ (l:List (List UInt8)):List PB:=pb [] (-1) (decide (l.length≤64)) 3++pb [] (-1) (XS l Op.bytesLess) 11
def KF (S:SC)(cy:SM→Bool):List PB :=
 ZQ (S.msgs.map SM.name)++ZQ (S.enums.map SE.name)++ZQ (S.servs.map SQ.name)++pb [] (-1) (Z7 S) 9 ++
 S.msgs.flatMap (ZO S cy)++S.enums.flatMap ZK++S.servs.flatMap (ZV S)

theorem Ke {α β:Type}{l:List α}{g:Nat→α→List β}{n:Nat}:upto l g n=[]↔∀i,i<n→∀x,l[i]? = some x→g i x=[]:=by
 induction n with
 |zero=>simp[upto]
 |succ n ih=>
  rw[upto,QAV,ih]
  constructor
  ·rintro⟨h1,h2⟩ i hi x hx;rcases QAG.1 hi with h|rfl
   ·exact h1 i h x hx
   ·rw[hx]at h2;exact h2
  ·intro h;refine⟨fun i hi=>h i (by omega),?_⟩;cases hx:l[n]? with
   |none=>rfl
   |some x=>exact h n (by omega) x hx
theorem Ft {S:SC}{m:SM}{i:Nat}{f:SF}(hf:m.fields[i]? = some f):Jg S m i f=[]↔Uv S m i=true:=by
 cases i with
 |zero=>
  unfold Uv;rw[hf];unfold Jg Xl Jw;simp only[QAV,X5,Qzz,and_assoc]
 |succ j=>
  unfold Uv;rw[hf];unfold Jg Xl Jw;simp only[QAV,X5,Qzz,and_assoc];cases m.fields[j]?<;>exact Iff.rfl
theorem Fu {d:List UInt8}{lo hi:Int}{l:List PS}:upto l (Ju d lo hi l) l.length=[]↔G9 lo hi l=true:=by
 rw[Ke];unfold G9;rw[Qzz,Qzp];unfold XS;rw[QW]
 constructor
 ·intro h;refine⟨fun x hx=>?_,fun i hi=>?_⟩
  ·obtain⟨i,hi⟩:=Qzo.1 hx;have:=h i (Qze.1 hi).1 x hi;unfold Ju at this;simp only[QAV,X5]at this;exact this.1
  ·cases i with
   |zero=>rfl
   |succ k=>
    have h1:l[k]? = some (l[k]'(by omega)):=Qzf (by omega);have h2:l[k+1]? = some l[k+1]:=Qzf hi;have:=h (k+1) hi _ h2;unfold Ju at this;simp only[QAV,X5]at this;have:=this.2;rw[h1]at this;rw[J6 h1 h2];exact this
 ·rintro⟨h1,h2⟩ i hi x hx;unfold Ju;simp only[QAV,X5];refine⟨h1 x (Qzq hx),?_⟩;cases i with
  |zero=>rfl
  |succ k=>
   have h3:l[k]? = some (l[k]'(by omega)):=Qzf (by omega);have:=h2 (k+1) hi;rw[J6 h3 hx]at this;dsimp only;rw[h3];exact this
theorem Fv {S:SC}{cy:SM→Bool}{m:SM}(hc:cy m=Y6 S m):ZO S cy m=[]↔Bw S m=true:=by
 have h1:upto m.fields (Jg S m) m.fields.length=[]↔Q7 (Uv S m) m.fields.length=true:=by
  rw[Ke,QW]
  constructor
  ·intro h i hi;have hx:m.fields[i]? = some m.fields[i]:=Qzf hi;exact(Ft hx).1 (h i hi _ hx)
  ·intro h i hi x hx;exact(Ft hx).2 (h i hi)
 have h2:upto m.gone (fun _ g=>pb m.name (-1) (Z2 g) 7) m.gone.length=[]↔m.gone.all Z2=true:=by
  rw[Ke,Qzp]
  constructor
  ·intro h x hx;obtain⟨i,hi⟩:=Qzo.1 hx;exact X5.1 (h i (Qze.1 hi).1 x hi)
  ·intro h i hi x hx;exact X5.2 (h x (Qzq hx))
 unfold ZO Bw Xl;rw[hc];simp only[QAV,X5,h1,h2,Fu,Qzz,and_assoc]
theorem Fw {e:SE}:ZK e=[]↔Uw e=true:=by
 have h1:(Zn e=true∧upto e.items (ZP e) e.items.length=[])↔Q7 (Wx e) e.items.length=true:=by
  rw[Ke,QW];have key:∀i x,e.items[i]? = some x→i≠0→(ZP e i x=[]↔Wx e i=true):=by
   intro i x hx h0;obtain⟨j,rfl⟩:∃j,i=j+1:=⟨i-1,by omega⟩;unfold Wx;rw[hx];unfold ZP Xl Jw;simp only[QAV,X5,Qzz,and_assoc];cases e.items[j]?<;>exact Iff.rfl
  have key0:∀x,e.items[0]? = some x→((Zn e=true∧ZP e 0 x=[])↔Wx e 0=true):=by
   intro x hx;have hf:Zn e=(x.num==0):=by
    unfold Zn;cases hi:e.items with
    |nil=>rw[hi]at hx;cases hx
    |cons y l=>rw[hi]at hx;cases hx;rfl
   unfold Wx;rw[hx,hf];unfold ZP Xl Jw;simp only[QAV,X5,Qzz,and_assoc,true_and]
   constructor
   ·rintro⟨a,b,c,f,g,h,i⟩;exact⟨b,c,a,f,g,h,i⟩
   ·rintro⟨b,c,a,f,g,h,i⟩;exact⟨a,b,c,f,g,h,i⟩
  constructor
  ·rintro⟨hf,h⟩ i hi;have hx:e.items[i]? = some e.items[i]:=Qzf hi;by_cases h0:i=0
   ·subst h0;exact(key0 _ hx).1 ⟨hf,h 0 hi _ hx⟩
   ·exact(key i _ hx h0).1 (h i hi _ hx)
  ·intro h;refine⟨?_,fun i hi x hx=>?_⟩
   ·cases hi:e.items with
    |nil=>unfold Zn;rw[hi]
    |cons y l=>
     have hl:0<e.items.length:=by rw[hi];simp
     exact((key0 y (by rw[hi];rfl)).2 (h 0 hl)).1
   ·by_cases h0:i=0
    ·subst h0;exact((key0 x hx).2 (h 0 hi)).2
    ·exact(key i x hx h0).2 (h i hi)
 unfold ZK Uw Xl;simp only[QAV,X5,Fu,Qzz,and_assoc]
 constructor
 ·rintro⟨a,b,c,d,f,g,h,i⟩;exact⟨a,b,c,d,h1.1 ⟨f,g⟩,h,i⟩
 ·rintro⟨a,b,c,d,f,h,i⟩;exact⟨a,b,c,d,(h1.2 f).1,(h1.2 f).2,h,i⟩
theorem Fx {S:SC}{v:SQ}:ZV S v=[]↔Mq S v=true:=by
 have h1:upto v.meths (Jh S v) v.meths.length=[]↔Q7 (Bx S v) v.meths.length=true:=by
  rw[Ke,QW];have key:∀i x,v.meths[i]? = some x→(Jh S v i x=[]↔Bx S v i=true):=by
   intro i x hx;unfold Bx;rw[hx];unfold Jh Xl;simp only[QAV,X5,Qzz,and_assoc]<;>exact Iff.rfl
  constructor
  ·intro h i hi;have hx:v.meths[i]? = some v.meths[i]:=Qzf hi;exact(key i _ hx).1 (h i hi _ hx)
  ·intro h i hi x hx;exact(key i x hx).2 (h i hi)
 unfold ZV Mq Xl;simp only[QAV,X5,h1,Qzz,and_assoc]
theorem flatMap_nil {α β:Type}{l:List α}{g:α→List β}:l.flatMap g=[]↔∀x∈l,g x=[]:=List.flatMap_eq_nil_iff

theorem Aw {l:List (List UInt8)}:ZQ l=[]↔(decide (l.length≤64)=true∧XS l Op.bytesLess=true):=by
 unfold ZQ;simp only[QAV,X5]
theorem Fy {S:SC}{cy:SM→Bool}(h:Dst S→∀m∈S.msgs,cy m=Y6 S m):KF S cy=[]↔ZF S=true:=by
 have e1:XS (S.msgs.map SM.name) Op.bytesLess=XS S.msgs (J7 SM.name):=Ux ..;have e2:XS (S.enums.map SE.name) Op.bytesLess=XS S.enums (J7 SE.name):=Ux ..;have e3:XS (S.servs.map SQ.name) Op.bytesLess=XS S.servs (J7 SQ.name):=Ux ..;unfold KF ZF Ms Mr;simp only[QAV,Aw,X5,flatMap_nil,Qzz,Qzp,QAo,e1,e2,e3]
 constructor
 ·rintro⟨⟨⟨⟨⟨⟨⟨a1,a2⟩,b1,b2⟩,c1,c2⟩,d⟩,f⟩,g⟩,i⟩;have hD:=Fq a2;exact⟨⟨⟨⟨⟨⟨⟨a1,b1⟩,c1⟩,⟨a2,b2⟩,c2⟩,d⟩,fun m hm=>(Fv (h hD m hm)).1 (f m hm)⟩,fun e he=>Fw.1 (g e he)⟩,fun v hv=>Fx.1 (i v hv)⟩
 ·rintro⟨⟨⟨⟨⟨⟨⟨a1,b1⟩,c1⟩,⟨a2,b2⟩,c2⟩,d⟩,f⟩,g⟩,i⟩;have hD:=Fq a2;exact⟨⟨⟨⟨⟨⟨⟨a1,a2⟩,b1,b2⟩,c1,c2⟩,d⟩,fun m hm=>(Fv (h hD m hm)).2 (f m hm)⟩,fun e he=>Fw.2 (g e he)⟩,fun v hv=>Fx.2 (i v hv)⟩
theorem Ax {S:SC}:KF S (Y6 S)=[]↔ZF S=true:=Fy fun _ _ _=>rfl
theorem Ay {S:SC}:KF S (fun m=>Xh S (Q2 S) m)=[]↔ZF S=true:=Fy fun hD m _=>(Qkz hD m).symm

def QT (x:SM):AV:=.agg x.cells
def XC (x:SE):AV:=.agg x.cells
def Xm (x:SF):AV:=.agg x.cells
def Zv (x:SI):AV:=.agg x.cells
def Y7 (x:SN):AV:=.agg x.cells
theorem QD (x:SF):x.cells=[.int .i64 x.num,.str x.name,.int .i64 x.card,.int .i64 x.key,.int .i64 x.kind,.str x.tname,.str x.union,.bool x.hasd,.int .i64 x.dflt.kd,.int .u64 (x.dflt.bits:Nat),.str x.dflt.text,.list (x.dflt.list.map V.av),.list (x.dflt.pairs.map V.pav),.list (x.dflt.slots.map V.sav),.list (x.dflt.raws.map R.av),.list (x.notes.map fun n=>.agg n.cells)]:=by
 rw[SF.cells,V.eta];rfl
theorem K3 {α:Type}(p:α→Bool):∀l:List α,l.any p=(l.find? p).isSome
 | []=>rfl
 |x :: l=>by
  rw[List.any_cons,List.find?_cons,K3 p l];cases p x<;>rfl

section
variable (L:List SM)(hl:L.length≤maxLen)(p:SM→Bool)(c:Nat)(cs:List AV)(m:Qo)

def JsM (k:Nat)(st:St):Prop :=
 ∃f i,st=⟨f,Qh :: m,[]⟩∧k=L.length-i∧QZ p L 0=QZ p (L.drop i) i∧f 0=.list (L.map QT)∧f 1=.fn (.func c) [] (AV.shL cs)∧f 7=.int .i64 (L.length:Nat)∧f 8=.int .i64 (i:Nat)

include hl in
theorem QkD (hc:∀o∈L,Qq Tryz.prog c (QT o :: AV.shL cs) (Qh :: m) fun y m1=>y=.bool (p o)∧m1=Qh :: m) :
  Qq Tryz.prog 105 [.list (L.map QT),.fn (.func c) [] cs] m fun y m1=>y=.int .i64 (QZ p L 0)∧m1=m:=by
 refine I6.go (by simp) ?_;simp only[QAo,Qa,seval];refine Qe (JsM L p c cs m) _ ⟨_,0,rfl,rfl,rfl,(by rfl),(by rfl),(by rfl),(by rfl)⟩ ?_;rintro _ st ⟨f,i,rfl,rfl,hx,h0,h1,h7,h8⟩;simp only[h7,h8,Qa,seval];by_cases hlt:i<L.length
 ·obtain⟨x,hi⟩:∃x,L[i]? = some x:=⟨L[i],Qzf hlt⟩;have hcl:=hc x (Qzq hi);have hg:(L.map QT)[i]? = some (QT x):=by simp[hi]
  have e1:=Qn i _ hlt hl;simp only[QT,SM.cells]at hcl;simp only[QA hlt,Qk,QAq,Qc,hg,QT,SM.cells,h0,h1,h8,eE,seval];refine Zy (fa:=[]) (fb:=AV.shL cs) (by rfl) hcl (by simp only[QzI,Qz4,Qzy,Qzx,Qa,seval]) ?_;rw[XG p hi]at hx;cases hp:p x
  ·rw[hp]at hx;simp only[Qzv,if_false]at hx;simp only[h8,e1,Qa,seval];exact⟨L.length-(i+1),by omega,_,i+1,rfl,rfl,hx,(by exact h0),(by exact h1),(by exact h7),(by rfl)⟩
  ·rw[hp]at hx;simp only[if_true]at hx;simp only[hx,Qa,seval]
 ·have hx':QZ p L 0 = -1:=by rw[hx,QzL (by omega)];rfl
  simp only[QC hlt,hx',Qa,seval]

end

section
variable (L:List SE)(hl:L.length≤maxLen)(p:SE→Bool)(c:Nat)(cs:List AV)(m:Qo)

def JsE (k:Nat)(st:St):Prop :=
 ∃f i,st=⟨f,Qh :: m,[]⟩∧k=L.length-i∧QZ p L 0=QZ p (L.drop i) i∧f 0=.list (L.map XC)∧f 1=.fn (.func c) [] (AV.shL cs)∧f 7=.int .i64 (L.length:Nat)∧f 8=.int .i64 (i:Nat)

include hl in
theorem QkE (hc:∀o∈L,Qq Tryz.prog c (XC o :: AV.shL cs) (Qh :: m) fun y m1=>y=.bool (p o)∧m1=Qh :: m) :
  Qq Tryz.prog 107 [.list (L.map XC),.fn (.func c) [] cs] m fun y m1=>y=.int .i64 (QZ p L 0)∧m1=m:=by
 refine Qq5.go (by simp) ?_;simp only[QAo,Qa,seval];refine Qe (JsE L p c cs m) _ ⟨_,0,rfl,rfl,rfl,(by rfl),(by rfl),(by rfl),(by rfl)⟩ ?_;rintro _ st ⟨f,i,rfl,rfl,hx,h0,h1,h7,h8⟩;simp only[h7,h8,Qa,seval];by_cases hlt:i<L.length
 ·obtain⟨x,hi⟩:∃x,L[i]? = some x:=⟨L[i],Qzf hlt⟩;have hcl:=hc x (Qzq hi);have hg:(L.map XC)[i]? = some (XC x):=by simp[hi]
  have e1:=Qn i _ hlt hl;simp only[XC,SE.cells]at hcl;simp only[QA hlt,Qk,QAq,Qc,hg,XC,SE.cells,h0,h1,h8,eE,seval];refine Zy (fa:=[]) (fb:=AV.shL cs) (by rfl) hcl (by simp only[QzI,Qz4,Qzy,Qzx,Qa,seval]) ?_;rw[XG p hi]at hx;cases hp:p x
  ·rw[hp]at hx;simp only[Qzv,if_false]at hx;simp only[h8,e1,Qa,seval];exact⟨L.length-(i+1),by omega,_,i+1,rfl,rfl,hx,(by exact h0),(by exact h1),(by exact h7),(by rfl)⟩
  ·rw[hp]at hx;simp only[if_true]at hx;simp only[hx,Qa,seval]
 ·have hx':QZ p L 0 = -1:=by rw[hx,QzL (by omega)];rfl
  simp only[QC hlt,hx',Qa,seval]

end

section
variable (L:List SF)(hl:L.length≤maxLen)(p:SF→Bool)(c:Nat)(cs:List AV)(m:Qo)

def JsF (k:Nat)(st:St):Prop :=
 ∃f i,st=⟨f,Qh :: m,[]⟩∧k=L.length-i∧QZ p L 0=QZ p (L.drop i) i∧f 0=.list (L.map Xm)∧f 1=.fn (.func c) [] (AV.shL cs)∧f 7=.int .i64 (L.length:Nat)∧f 8=.int .i64 (i:Nat)

include hl in
theorem Qvm (hc:∀o∈L,Qq Tryz.prog c (Xm o :: AV.shL cs) (Qh :: m) fun y m1=>y=.bool (p o)∧m1=Qh :: m) :
  Qq Tryz.prog 240 [.list (L.map Xm),.fn (.func c) [] cs] m fun y m1=>y=.int .i64 (QZ p L 0)∧m1=m:=by
 refine Qdz.go (by simp) ?_;simp only[QAo,Qa,seval];refine Qe (JsF L p c cs m) _ ⟨_,0,rfl,rfl,rfl,(by rfl),(by rfl),(by rfl),(by rfl)⟩ ?_;rintro _ st ⟨f,i,rfl,rfl,hx,h0,h1,h7,h8⟩;simp only[h7,h8,Qa,seval];by_cases hlt:i<L.length
 ·obtain⟨x,hi⟩:∃x,L[i]? = some x:=⟨L[i],Qzf hlt⟩;have hcl:=hc x (Qzq hi);have hg:(L.map Xm)[i]? = some (Xm x):=by simp[hi]
  have e1:=Qn i _ hlt hl;simp only[Xm,QD]at hcl;simp only[QA hlt,Qk,QAq,Qc,hg,Xm,QD,h0,h1,h8,eE,seval];refine Zy (fa:=[]) (fb:=AV.shL cs) (by rfl) hcl (by simp only[QzI,Qz4,Qzy,Qzx,Qa,seval]) ?_;rw[XG p hi]at hx;cases hp:p x
  ·rw[hp]at hx;simp only[Qzv,if_false]at hx;simp only[h8,e1,Qa,seval];exact⟨L.length-(i+1),by omega,_,i+1,rfl,rfl,hx,(by exact h0),(by exact h1),(by exact h7),(by rfl)⟩
  ·rw[hp]at hx;simp only[if_true]at hx;simp only[hx,Qa,seval]
 ·have hx':QZ p L 0 = -1:=by rw[hx,QzL (by omega)];rfl
  simp only[QC hlt,hx',Qa,seval]

include hl in
theorem Mw (hc:∀o∈L,Qq Tryz.prog c (Xm o :: AV.shL (AV.shL cs)) (Qh :: Qh :: m) fun y m1=>y=.bool (p o)∧m1=Qh :: Qh :: m) :
  Qq Tryz.prog 219 [.list (L.map Xm),.fn (.func c) [] cs] m fun y m1=>y=.bool (L.any p)∧m1=m:=by
 refine QcF.go (by simp) ?_;simp only[Qa,seval];refine Qb (Qvm L hl p c (AV.shL cs) _ hc) (by simp only[QzI,Qz4,Qa,seval]<;>rfl) ?_;simp only[J8,Qa,seval]

end

section
variable (L:List SI)(hl:L.length≤maxLen)(p:SI→Bool)(c:Nat)(cs:List AV)(m:Qo)

def JsI (k:Nat)(st:St):Prop :=
 ∃f i,st=⟨f,Qh :: m,[]⟩∧k=L.length-i∧QZ p L 0=QZ p (L.drop i) i∧f 0=.list (L.map Zv)∧f 1=.fn (.func c) [] (AV.shL cs)∧f 7=.int .i64 (L.length:Nat)∧f 8=.int .i64 (i:Nat)

include hl in
theorem Qvn (hc:∀o∈L,Qq Tryz.prog c (Zv o :: AV.shL cs) (Qh :: m) fun y m1=>y=.bool (p o)∧m1=Qh :: m) :
  Qq Tryz.prog 182 [.list (L.map Zv),.fn (.func c) [] cs] m fun y m1=>y=.int .i64 (QZ p L 0)∧m1=m:=by
 refine QsK.go (by simp) ?_;simp only[QAo,Qa,seval];refine Qe (JsI L p c cs m) _ ⟨_,0,rfl,rfl,rfl,(by rfl),(by rfl),(by rfl),(by rfl)⟩ ?_;rintro _ st ⟨f,i,rfl,rfl,hx,h0,h1,h7,h8⟩;simp only[h7,h8,Qa,seval];by_cases hlt:i<L.length
 ·obtain⟨x,hi⟩:∃x,L[i]? = some x:=⟨L[i],Qzf hlt⟩;have hcl:=hc x (Qzq hi);have hg:(L.map Zv)[i]? = some (Zv x):=by simp[hi]
  have e1:=Qn i _ hlt hl;simp only[Zv,SI.cells]at hcl;simp only[QA hlt,Qk,QAq,Qc,hg,Zv,SI.cells,h0,h1,h8,eE,seval];refine Zy (fa:=[]) (fb:=AV.shL cs) (by rfl) hcl (by simp only[QzI,Qz4,Qzy,Qzx,Qa,seval]) ?_;rw[XG p hi]at hx;cases hp:p x
  ·rw[hp]at hx;simp only[Qzv,if_false]at hx;simp only[h8,e1,Qa,seval];exact⟨L.length-(i+1),by omega,_,i+1,rfl,rfl,hx,(by exact h0),(by exact h1),(by exact h7),(by rfl)⟩
  ·rw[hp]at hx;simp only[if_true]at hx;simp only[hx,Qa,seval]
 ·have hx':QZ p L 0 = -1:=by rw[hx,QzL (by omega)];rfl
  simp only[QC hlt,hx',Qa,seval]

include hl in
theorem QkF (hc:∀o∈L,Qq Tryz.prog c (Zv o :: AV.shL (AV.shL cs)) (Qh :: Qh :: m) fun y m1=>y=.bool (p o)∧m1=Qh :: Qh :: m) :
  Qq Tryz.prog 138 [.list (L.map Zv),.fn (.func c) [] cs] m fun y m1=>y=.bool (L.any p)∧m1=m:=by
 refine QrP.go (by simp) ?_;simp only[Qa,seval];refine Qb (Qvn L hl p c (AV.shL cs) _ hc) (by simp only[QzI,Qz4,Qa,seval]<;>rfl) ?_;simp only[J8,Qa,seval]

end

section
variable (L:List SN)(hl:L.length≤maxLen)(p:SN→Bool)(c:Nat)(cs:List AV)(m:Qo)

def JsN (k:Nat)(st:St):Prop :=
 ∃f i,st=⟨f,Qh :: m,[]⟩∧k=L.length-i∧QZ p L 0=QZ p (L.drop i) i∧f 0=.list (L.map Y7)∧f 1=.fn (.func c) [] (AV.shL cs)∧f 7=.int .i64 (L.length:Nat)∧f 8=.int .i64 (i:Nat)

include hl in
theorem Qvo (hc:∀o∈L,Qq Tryz.prog c (Y7 o :: AV.shL cs) (Qh :: m) fun y m1=>y=.bool (p o)∧m1=Qh :: m) :
  Qq Tryz.prog 159 [.list (L.map Y7),.fn (.func c) [] cs] m fun y m1=>y=.int .i64 (QZ p L 0)∧m1=m:=by
 refine Qaw.go (by simp) ?_;simp only[QAo,Qa,seval];refine Qe (JsN L p c cs m) _ ⟨_,0,rfl,rfl,rfl,(by rfl),(by rfl),(by rfl),(by rfl)⟩ ?_;rintro _ st ⟨f,i,rfl,rfl,hx,h0,h1,h7,h8⟩;simp only[h7,h8,Qa,seval];by_cases hlt:i<L.length
 ·obtain⟨x,hi⟩:∃x,L[i]? = some x:=⟨L[i],Qzf hlt⟩;have hcl:=hc x (Qzq hi);have hg:(L.map Y7)[i]? = some (Y7 x):=by simp[hi]
  have e1:=Qn i _ hlt hl;simp only[Y7,Ka]at hcl;simp only[QA hlt,Qk,QAq,Qc,hg,Y7,Ka,h0,h1,h8,eE,seval];refine Zy (fa:=[]) (fb:=AV.shL cs) (by rfl) hcl (by simp only[QzI,Qz4,Qzy,Qzx,Qa,seval]) ?_;rw[XG p hi]at hx;cases hp:p x
  ·rw[hp]at hx;simp only[Qzv,if_false]at hx;simp only[h8,e1,Qa,seval];exact⟨L.length-(i+1),by omega,_,i+1,rfl,rfl,hx,(by exact h0),(by exact h1),(by exact h7),(by rfl)⟩
  ·rw[hp]at hx;simp only[if_true]at hx;simp only[hx,Qa,seval]
 ·have hx':QZ p L 0 = -1:=by rw[hx,QzL (by omega)];rfl
  simp only[QC hlt,hx',Qa,seval]

end

theorem Kf (n:Nat):(((n:Nat):Int)==0)=(n==0):=QzY.2 (by simp only[QzA];omega)
theorem Az (a b:Nat):(((a:Nat):Int) != ((b:Nat):Int))=!decide (a=b):=by
 show(!(((a:Nat):Int)==((b:Nat):Int)))=_;congr 1
 exact QzY.2 (by simp only[QzA,QAl];omega)
def Cl:SM:=⟨[],[],[],[],[]⟩
def Cm:SE:=⟨[],false,[],[],[]⟩

theorem Qvp (o:SM)(fr:Nat→Ob)(n:List UInt8)(hf:fr 3=.cells [.str n]):Qq Tryz.prog 188 [QT o,.ptr 1 3 0] [Qh,fr] fun y m1=>y=.bool (o.name==n)∧m1=[Qh,fr]:=by
 refine QaN.go (by simp) ?_;simp only[hf,QT,SM.cells,Qx,eE,seval]

theorem UB (S:SC)(hl:S.msgs.length≤maxLen)(n:List UInt8):Qu Tryz.prog 148 [S.av,.str n] (.tup [QT ((S.msgs.find? fun m=>m.name==n).getD Cl),.bool (QS S n)]):=by
 have e:QS S n=(S.msgs.find? fun m=>m.name==n).isSome:=K3 _ _;refine LA.fn (by simp) ?_;simp only[SC.av,eE,seval];refine Qb (QkD S.msgs hl (fun m=>m.name==n) 188 [.ptr 0 3 0] _ fun o _=>Qvp o _ n (by rfl)) (by simp only[QzI,Qz4,Qa,seval]<;>rfl) ?_;rcases Xp (fun m:SM=>m.name==n) S.msgs 0 with⟨h1,h2⟩|⟨j,o,h1,h2,h3⟩
 ·simp only[h1,e,h2,QAu,QzW,Cl,QT,SM.cells,Qz4,eE,seval]
 ·have hj:(S.msgs.map fun o=>AV.agg o.cells)[j]? = some (.agg o.cells):=by simp[h2]
  have d:decide ((j:Int)<0)=false:=QAR (by omega);rw[QzB]at h1;simp only[SM.cells]at hj;simp only[h1,d,Qk,QAq,Qc,QzB,hj,e,h3,QAd,QAS,QT,SM.cells,eE,seval]

theorem Qvq (o:SE)(fr:Nat→Ob)(n:List UInt8)(hf:fr 3=.cells [.str n]):Qq Tryz.prog 241 [XC o,.ptr 1 3 0] [Qh,fr] fun y m1=>y=.bool (o.name==n)∧m1=[Qh,fr]:=by
 refine Qud.go (by simp) ?_;simp only[hf,XC,SE.cells,Qx,eE,seval]

theorem QkG (S:SC)(hl:S.enums.length≤maxLen)(n:List UInt8):Qu Tryz.prog 221 [S.av,.str n] (.tup [XC ((S.enums.find? fun m=>m.name==n).getD Cm),.bool (G7 S n)]):=by
 have e:G7 S n=(S.enums.find? fun m=>m.name==n).isSome:=K3 _ _;refine QtI.fn (by simp) ?_;simp only[SC.av,eE,seval];refine Qb (QkE S.enums hl (fun m=>m.name==n) 241 [.ptr 0 3 0] _ fun o _=>Qvq o _ n (by rfl)) (by simp only[QzI,Qz4,Qa,seval]<;>rfl) ?_;rcases Xp (fun m:SE=>m.name==n) S.enums 0 with⟨h1,h2⟩|⟨j,o,h1,h2,h3⟩
 ·simp only[h1,e,h2,QAu,QzW,Cm,XC,SE.cells,Qz4,eE,seval]
 ·have hj:(S.enums.map fun o=>AV.agg o.cells)[j]? = some (.agg o.cells):=by simp[h2]
  have d:decide ((j:Int)<0)=false:=QAR (by omega);rw[QzB]at h1;simp only[SE.cells]at hj;simp only[h1,d,Qk,QAq,Qc,QzB,hj,e,h3,QAd,QAS,XC,SE.cells,eE,seval]

theorem Qvr (c k:Int):Qu Tryz.prog 191 [.int .i64 c,.int .i64 k] (.bool (G8 c k)):=by
 refine Qbs.fn (by simp) ?_;unfold G8;by_cases h:c=5
 ·have d:(c != 5)=false:=by simp[h]
  rw[Qzk h];simp only[d,Qa,seval];cases h1:decide (k≥1)<;>cases h2:decide (k≤7)<;>simp only[h2,QAC,QAs,Qa,seval]
 ·have d:(c != 5)=true:=by simp[h]
  rw[Qzj h];simp only[d,Qa,seval]

section
variable {M:Nat}(S:SC)(hS:S.ok M)(hM:M≤1048576)(x:SF)(hx:x.ok M)
include hS hM in
theorem Zd:S.msgs.length≤maxLen∧S.enums.length≤maxLen∧S.servs.length≤maxLen:=by
 have a:=hS.len1;have b:=hS.len2;have c:=hS.len3;simp only[maxLen];omega

include hS hM in
theorem Qvs:Qu Tryz.prog 192 [S.av,Xm x] (.bool (JD S x)):=by
 obtain⟨l1,l2,_⟩:=Zd S hS hM;have hm:=UB S l1 x.tname;have he:=QkG S l2 x.tname;simp only[QT,SM.cells,SC.av]at hm;simp only[XC,SE.cells,SC.av]at he;refine QbF.fn (by simp) ?_;unfold JD;simp only[SC.av,Xm,QD,eE,seval];by_cases h1:x.kind≥1
 ·have d1:decide (x.kind≥1)=true:=QAM h1;by_cases h2:x.kind≤8
  ·have d2:decide (x.kind≤8)=true:=QAM h2;rw[Qzk ⟨h1,h2⟩];simp only[d1,d2,Qx,eE,seval]
  ·have d2:decide (x.kind≤8)=false:=QAR h2;rw[Qzj fun h=>h2 h.2];by_cases h3:x.kind=9
   ·have d3:(x.kind==9)=true:=by simp[h3]
    rw[Qzk h3];simp only[d1,d2,d3,eE,seval];refine aC he ?_;simp only[eE,seval]
   ·have d3:(x.kind==9)=false:=by simp[h3]
    rw[Qzj h3];by_cases h4:x.kind=10
    ·have d4:(x.kind==10)=true:=by simp[h4]
     rw[Qzk h4];simp only[d1,d2,d3,d4,eE,seval];refine aC hm ?_;cases QS S x.tname<;>simp only[QAC,QAs,eE,seval]
    ·have d4:(x.kind==10)=false:=by simp[h4]
     rw[Qzj h4];simp only[d1,d2,d3,d4,eE,seval]
 ·have d1:decide (x.kind≥1)=false:=QAR h1;have d3:(x.kind==9)=false:=by rw[QAO];omega
  have d4:(x.kind==10)=false:=by rw[QAO];omega
  rw[Qzj fun h=>h1 h.1,Qzj (by omega),Qzj (by omega)];simp only[d1,d3,d4,eE,seval]

theorem Qvt (v:V)(hv:v.ok M):Qu Tryz.prog 224 [v.av] (.bool v.zro):=by
 have n1:=hv.nl;have n2:=hv.np;have n3:=hv.ns;have n4:=hv.nr;have w:IntKind.i64.wrap (IntKind.i64.wrap (IntKind.i64.wrap ((v.list.length:Int)+(v.pairs.length:Int))+(v.slots.length:Int))+(v.raws.length:Int))=(v.list.length+v.pairs.length+v.slots.length+v.raws.length:Nat):=by
  simp only[ZE];omega
 have eb:(((v.bits:Nat):Int)==0)=(v.bits==0):=Kf _;have es:(((v.list.length+v.pairs.length+v.slots.length+v.raws.length:Nat):Int)==0)=(v.list.length+v.pairs.length+v.slots.length+v.raws.length==0):=Kf _;refine QcK.fn (by simp) ?_;unfold V.zro V.av;rw[V.eta];simp only[eE,seval];cases h1:(v.kd==0)
 ·simp only[QAs,Qa,seval]
 cases h2:(v.bits==0)
 ·simp only[h2,eb,QAs,QAC,eE,seval]
 cases h3:(v.text==[])
 ·simp only[h2,h3,eb,Qx,QAs,QAC,eE,seval]
 simp only[h2,h3,eb,Qx,w,es,QAo,QAC,eE,seval]

theorem Qvu (o:SI)(fr:Nat→Ob)(hf:fr 3=.cells x.cells):Qq Tryz.prog 226 [Zv o,.ptr 2 3 0] [Qh,Qh,fr] fun y m1=>y=.bool (IntKind.u64.wrap o.num==(x.dflt.bits:Int))∧m1=[Qh,Qh,fr]:=by
 rw[QD]at hf;refine QtU.go (by simp) ?_;simp only[hf,Zv,SI.cells,eE,seval]

section
variable (k:Int)(b:Nat)(hb:b<18446744073709551616)(t:List UInt8)(l p s r:List AV)
include hb
theorem Qvv:Qu Tryz.prog 225 [vo k b t l p s r] (vo k (Zb k b) t l p s r):=by
 refine QtR.fn (by simp) ?_;simp only[vo,eE,seval];by_cases hk:k=6
 ·have b0:(k==6)=true:=by simp[hk]
  simp only[b0,eE,seval];refine aC (Qvd b hb) ?_;simp only[Qkn,Qa,seval];by_cases hc:Y5 b=0
  ·simp only[hc,Zb,hk,decide_true,Qz7,eE,seval]
   try rfl
  ·simp only[hc,Zb,decide_false,and_false,eE,seval]
 ·have b0:(k==6)=false:=by simp[hk]
  simp only[b0,Zb,hk,false_and,eE,seval]
end

include hS hM hx in
theorem Qvw:Qu Tryz.prog 194 [S.av,Xm x] (.bool (Kq S x)):=by
 obtain⟨l1,l2,_⟩:=Zd S hS hM;have he:=QkG S l2 x.tname;have hv:=hx.dflt;have n1:=hv.nl;have n2:=hv.np;have n3:=hv.ns;have n4:=hv.nr;have hz:=Qvt x.dflt hv;have hb:x.dflt.bits<18446744073709551616:=by have:=Ec hv.bits;omega
 have hf:=Qkk x.kind x.dflt.kd x.dflt.bits x.dflt.text (x.dflt.list.map V.av) (x.dflt.pairs.map V.pav) (x.dflt.slots.map V.sav) (x.dflt.raws.map R.av) (by simp;omega) (by simp;omega) (by simp;omega) (by simp;omega);have hn:=Qvv x.dflt.kd x.dflt.bits hb x.dflt.text (x.dflt.list.map V.av) (x.dflt.pairs.map V.pav) (x.dflt.slots.map V.sav) (x.dflt.raws.map R.av);have ef:x.dflt.fitk x.kind=ZY x.kind x.dflt.kd x.dflt.bits x.dflt.text (x.dflt.list.map V.av) (x.dflt.pairs.map V.pav) (x.dflt.slots.map V.sav) (x.dflt.raws.map R.av):=rfl;have en:(((Zb x.dflt.kd x.dflt.bits:Nat):Int) != (x.dflt.bits:Nat))=!decide (Zb x.dflt.kd x.dflt.bits=x.dflt.bits):=Az _ _;simp only[V.av]at hz;rw[V.eta]at hz;simp only[vo]at hf hn;simp only[XC,SE.cells,SC.av]at he;refine Qb2.fn (by simp) ?_;unfold Kq;rw[ef];simp only[SC.av,Xm,QD,eE,seval];cases hd:x.hasd
 ·rw[Qzk rfl];simp only[eE,seval];refine aC hz ?_;simp only[Qa,seval]
 rw[Qzj (by simp)];by_cases hc:x.card=2
 case neg=>
  have d1:(x.card != 2)=true:=by simp[hc]
  rw[Qzj fun h=>hc h.1];simp only[d1,eE,seval]
 have d1:(x.card != 2)=false:=by simp[hc]
 by_cases hu:x.union=[]
 case neg=>
  have d2:(!(x.union==[]))=true:=by simp[hu]
  rw[Qzj fun h=>hu h.2.1];simp only[d1,d2,Qx,eE,seval]
 have d2:(!(x.union==[]))=false:=by simp[hu]
 simp only[d1,d2,Qx,eE,seval];refine aC hf ?_;cases hfv:ZY x.kind x.dflt.kd x.dflt.bits x.dflt.text (x.dflt.list.map V.av) (x.dflt.pairs.map V.pav) (x.dflt.slots.map V.sav) (x.dflt.raws.map R.av)
 ·rw[Qzj fun h=>Bool.false_ne_true h.2.2.1];simp only[Qa,seval]
 simp only[eE,seval];refine aC hn ?_;by_cases hnb:Zb x.dflt.kd x.dflt.bits=x.dflt.bits
 case neg=>
  rw[Qzj fun h=>hnb h.2.2];simp only[en,hnb,decide_false,QAb,eE,seval]
 rw[Qzk ⟨hc,hu,hnb⟩];have en':(((Zb x.dflt.kd x.dflt.bits:Nat):Int) != (x.dflt.bits:Nat))=false:=by rw[en,QAM hnb];rfl
 by_cases h9:x.kind=9
 case neg=>
  have d9:(x.kind != 9)=true:=by simp[h9]
  rw[Qzj h9];simp only[en',d9,eE,seval]
 have d9:(x.kind != 9)=false:=by simp[h9]
 rw[Qzk h9];simp only[en',d9,eE,seval];refine aC he ?_;have eh:G7 S x.tname=(S.enums.find? fun e=>e.name==x.tname).isSome:=K3 _ _;cases hq:S.enums.find? fun e=>e.name==x.tname with
 |none=>
  rw[hq]at eh;simp only[eh,QzW,QAu,eE,seval]
 |some e=>
  rw[hq]at eh;have hem:=hS.enums e (QAK hq);have hlm:=hem.len1;simp only[eh,QAS,QAd,eE,seval];refine Qb (QkF e.items (by simp only[maxLen];omega) (fun it=>IntKind.u64.wrap it.num==(x.dflt.bits:Int)) 226 [.ptr 0 3 0] _ fun o _=>Qvu x o _ (by rw[QD,hd];exact(by rfl))) (by simp only[QzI,Qz4,Qa,seval]<;>rfl) ?_;simp only[Qa,seval]

theorem Bz (s:List UInt8):Qu Tryz.prog 156 [.str s] (.bool (Q5 s)):=by
 refine Qaf.fn (by simp) ?_;simp only[Q5,Qa,seval];refine aC (Qkb s) ?_;cases QU s
 ·simp only[QAs,Qa,seval]
 ·simp only[QAC,Qa,seval];refine aC (QuH s) ?_;simp only[Qa,seval]

theorem Mx (s:List UInt8)(hs:s.length≤17592186044000):Qu Tryz.prog 151 [.str s] (.bool (Xg s)):=by
 have hl:=Wu s;have hc:s.count 46≤s.length:=List.count_le_length;refine LU.fn (by simp) ?_;simp only[Xg,Qa,seval];refine aC (QuP s hs) ?_;cases hf:(decide (s.length≤120)&&(Qg s).all QU)
 ·simp only[QAs,Qa,seval]
 ·simp only[QAC,Qa,seval];refine aC (Qkg s hs) ?_;simp only[Qa,seval];refine Qb (Bs (Qg s) (by simp only[maxLen];omega) Za 135 [] _ fun o _=>QoZ o _) (by simp only[QzI,Qz4,Qa,seval]<;>rfl) ?_;simp only[Qa,seval]
end

section
variable {M:Nat}(hM:M≤1048576)(m:SM)(hm:m.ok M)(i:Nat)(x:SF)(hi:m.fields[i]? = some x)

theorem Qvx (o:SF)(fr:Nat→Ob)(hf:fr 5=.cells x.cells):Qq Tryz.prog 222 [Xm o,.ptr 2 5 0] [Qh,Qh,fr] fun y m1=>y=.bool (o.name==x.union)∧m1=[Qh,Qh,fr]:=by
 rw[QD]at hf;refine QtL.go (by simp) ?_;simp only[hf,Xm,QD,Qx,eE,seval]
theorem Qvy (o:SF)(fr:Nat→Ob)(hf:fr 5=.cells x.cells):Qq Tryz.prog 223 [Xm o,.ptr 2 5 0] [Qh,Qh,fr] fun y m1=>y=.bool (o.union==x.union)∧m1=[Qh,Qh,fr]:=by
 rw[QD]at hf;refine QtO.go (by simp) ?_;simp only[hf,Xm,QD,Qx,eE,seval]

include hM hm hi in
theorem Qvz:Qu Tryz.prog 193 [QT m,.int .i64 (i:Nat)] (.bool (Js m i)):=by
 have hlt:i<m.fields.length:=(Qze.1 hi).1;have hl1:=hm.len1;have hlm:m.fields.length≤maxLen:=by simp only[maxLen];omega
 have hg:(m.fields.map fun n=>AV.agg n.cells)[i]? = some (.agg x.cells):=by simp[hi]
 have hg':=hg;rw[QD]at hg';have ht:(m.fields.map fun n=>AV.agg n.cells).take i=(m.fields.take i).map Xm:=by rw[List.map_take];rfl
 have hsl:i≤(m.fields.map fun n=>AV.agg n.cells).length:=by rw[QAo];omega
 unfold Js;rw[hi];refine QbQ.fn (by simp) ?_;simp only[QT,SM.cells,Qk,QAq,Qc,hg',eE,seval];cases hu:(x.union==[])
 case true=>simp only[hu,Qx,QAE,Qa,seval]
 simp only[hu,Qx,QAF,eE,seval];by_cases hc:x.card=2
 case neg=>
  have d1:(x.card != 2)=true:=by simp[hc]
  have d2:(x.card==2)=false:=by simp[hc]
  simp only[d1,d2,QAs,Qa,seval]
 have d1:(x.card != 2)=false:=by simp[hc]
 have d2:(x.card==2)=true:=by simp[hc]
 simp only[d1,d2,QAC,eE,seval];refine aC (Bz x.union) ?_;cases Q5 x.union
 ·simp only[QAs,QAb,Qa,seval]
 simp only[QAC,QAD,eE,seval];refine Qb (Mw m.fields hlm (fun o=>o.name==x.union) 222 [.ptr 0 5 0] _ fun o _=>Qvx x o _ (by rw[QD];exact(by rfl))) (by simp only[QzI,Qz4,Qa,seval]<;>rfl) ?_;cases m.fields.any fun o=>o.name==x.union
 case true=>simp only[QAD,QAs,Qa,seval]
 have hle:(i≤m.fields.length)=True:=eq_true (by omega);simp only[QAb,QAC,JN,ZM,Xq,QAu,QAo,Qk,QAq,Qzl,Qzc,hle,true_or,Nat.sub_zero,←List.map_take,eE,seval];refine Qb (Mw (m.fields.take i) (by rw[QzZ];omega) (fun o=>o.union==x.union) 223 [.ptr 0 5 0] _ fun o _=>Qvy x o _ (by rw[QD];exact(by rfl))) (by simp only[QzI,Qz4,Qa,seval]<;>rfl) ?_;cases he:(m.fields.take i).any fun o=>o.union==x.union
 ·simp only[QAb,QAE,Qa,seval]
 ·cases i with
  |zero=>simp at he
  |succ j=>
   obtain⟨y,hj⟩:∃y,m.fields[j]? = some y:=⟨m.fields[j]'(by omega),Qzf (by omega)⟩;have hgj:(m.fields.map fun n=>AV.agg n.cells)[j]? = some (.agg y.cells):=by simp[hj]
   rw[QD]at hgj;have wj:=JC j _ hlt hlm;simp only[QAD,QAF,wj,Qk,QAq,Qc,hgj,hj,Qx,eE,seval]
end

section
variable (m:Qo)(L:List SF)(hl:L.length≤maxLen)(i:Nat)(x:SF)(hi:L[i]? = some x)
theorem QvA (o:SF):Qu Tryz.prog 190 [Xm o] (.str o.name):=by
 refine QsX.fn (by simp) ?_;simp only[Xm,QD,eE,seval]
end
section
variable (m:Qo)(L:List SI)(hl:L.length≤maxLen)(i:Nat)(x:SI)(hi:L[i]? = some x)
theorem QvB (o:SI):Qu Tryz.prog 158 [Zv o] (.str o.name):=by
 refine Qsa.fn (by simp) ?_;simp only[Zv,SI.cells,eE,seval]
end

section
variable (L:List SF)(hl:L.length≤maxLen)(i:Nat)(x:SF)(hi:L[i]? = some x)(c:Nat)(nm:SF→List UInt8)(hn:∀x,Qu Tryz.prog c [Xm x] (.str (nm x)))
include hi hn in
theorem QvC (y:SF)(fr:Nat→Ob)(m:Qo)(h3:fr 3=.cells [.list (L.map Xm)])(h4:fr 4=.cells [.int .i64 (i:Nat)])(h5:fr 5=.cells [.fn (.func c) [] []]) :
  Qq Tryz.prog 220 [Xm y,.ptr 2 5 0,.ptr 2 3 0,.ptr 2 4 0] (Qh :: Qh :: fr :: m) fun r m1=>r=.bool (nm y==nm x)∧m1=Qh :: Qh :: fr :: m:=by
 have hy:=hn y;have hx:=hn x;have hg:(L.map Xm)[i]? = some (Xm x):=by simp[hi]
 have g3:∀n,AV.shN n (.fn (.func c) [] [])=.fn (.func c) [] []:=fun n=>Hr n c
 simp only[Xm,QD]at hy hx hg;refine QtF.go (by simp) ?_;simp only[Xm,QD,h5,g3,eE,seval];refine JV (fa:=[]) (fb:=[]) (by rfl) hy rfl rfl rfl (.inl rfl) ?_;simp only[h3,h4,h5,g3,Qk,QAq,Qc,hg,eE,seval];refine JV (fa:=[]) (fb:=[]) (by rfl) hx rfl rfl rfl (.inl rfl) ?_;simp only[Qx,Qa,seval]

include hi hn hl in
theorem QvD (m:Qo):Qq Tryz.prog 189 [.list (L.map Xm),.int .i64 (i:Nat),.fn (.func c) [] []] m fun r m1=>r=.bool ((L.take i).any fun y=>nm y==nm x)∧m1=m:=by
 have hlt:i<L.length:=(Qze.1 hi).1;have hle:(i≤L.length)=True:=eq_true (by omega);have g3:∀n,AV.shN n (.fn (.func c) [] [])=.fn (.func c) [] []:=fun n=>Hr n c
 refine Qbl.go (by simp) ?_;simp only[JN,ZM,Xq,QAu,QAo,Qk,QAq,Qzl,Qzc,hle,true_or,Nat.sub_zero,←List.map_take,eE,seval];refine Qb (Mw (L.take i) (by rw[QzZ];omega) (fun y=>nm y==nm x) 220 [.ptr 0 5 0,.ptr 0 3 0,.ptr 0 4 0] _ fun o _=>QvC L i x hi c nm hn o _ _ (by rfl) (by rfl) (by rfl)) (by simp only[QzI,Qz4,Qa,seval]<;>rfl) ?_;simp only[Qa,seval]
end

section
variable (L:List SI)(hl:L.length≤maxLen)(i:Nat)(x:SI)(hi:L[i]? = some x)(c:Nat)(nm:SI→List UInt8)(hn:∀x,Qu Tryz.prog c [Zv x] (.str (nm x)))
include hi hn in
theorem QvE (y:SI)(fr:Nat→Ob)(m:Qo)(h3:fr 3=.cells [.list (L.map Zv)])(h4:fr 4=.cells [.int .i64 (i:Nat)])(h5:fr 5=.cells [.fn (.func c) [] []]) :
  Qq Tryz.prog 196 [Zv y,.ptr 2 5 0,.ptr 2 3 0,.ptr 2 4 0] (Qh :: Qh :: fr :: m) fun r m1=>r=.bool (nm y==nm x)∧m1=Qh :: Qh :: fr :: m:=by
 have hy:=hn y;have hx:=hn x;have hg:(L.map Zv)[i]? = some (Zv x):=by simp[hi]
 have g3:∀n,AV.shN n (.fn (.func c) [] [])=.fn (.func c) [] []:=fun n=>Hr n c
 simp only[Zv,SI.cells]at hy hx hg;refine Qs3.go (by simp) ?_;simp only[Zv,SI.cells,h5,g3,eE,seval];refine JV (fa:=[]) (fb:=[]) (by rfl) hy rfl rfl rfl (.inl rfl) ?_;simp only[h3,h4,h5,g3,Qk,QAq,Qc,hg,eE,seval];refine JV (fa:=[]) (fb:=[]) (by rfl) hx rfl rfl rfl (.inl rfl) ?_;simp only[Qx,Qa,seval]

include hi hn hl in
theorem QvF (m:Qo):Qq Tryz.prog 157 [.list (L.map Zv),.int .i64 (i:Nat),.fn (.func c) [] []] m fun r m1=>r=.bool ((L.take i).any fun y=>nm y==nm x)∧m1=m:=by
 have hlt:i<L.length:=(Qze.1 hi).1;have hle:(i≤L.length)=True:=eq_true (by omega);have g3:∀n,AV.shN n (.fn (.func c) [] [])=.fn (.func c) [] []:=fun n=>Hr n c
 refine Qr7.go (by simp) ?_;simp only[JN,ZM,Xq,QAu,QAo,Qk,QAq,Qzl,Qzc,hle,true_or,Nat.sub_zero,←List.map_take,eE,seval];refine Qb (QkF (L.take i) (by rw[QzZ];omega) (fun y=>nm y==nm x) 196 [.ptr 0 5 0,.ptr 0 3 0,.ptr 0 4 0] _ fun o _=>QvE L i x hi c nm hn o _ _ (by rfl) (by rfl) (by rfl)) (by simp only[QzI,Qz4,Qa,seval]<;>rfl) ?_;simp only[Qa,seval]
end

theorem JK {P:Program}{Qd:List Am.Item}{f:Fr}{m:Qo}{ds:List DF}{d l:Nat}{K:St→Prop}{sz bytes el:Nat}{s r:RA}{site g n:Nat}{xs ys:List AV}(hs:s.ev f=.vec l site g 0 n false)(hl:Am.Qf m l site=.vec g sz xs)(ht:X1 site el=true)(hn:n=xs.length)(hr:r.ev f=.list ys)(hz:ys.all (fun e=>e.cells.length==sz)=true)(hm:n+ys.length≤maxLen)(hb:(n+ys.length)*bytes≤140737488355328)
  (h:Ql P Qd ⟨Qw f d (.vec l site (g+1) 0 (n+ys.length) false),Am.put m l site (.vec (g+1) sz (xs++ys)),ds⟩ K):Ql P (⟨some d,.app sz bytes el s r,none⟩ :: Qd) ⟨f,m,ds⟩ K:=by
 refine⟨l,site,g,n,xs,ys,hs,hl,ht,by omega,?_,hz,hm,hb,?_⟩
 ·show XD m (r.ev f)=some ys;rw[hr];rfl
 ·subst hn;rw[QAv];exact h

def Qm (fr:Nat→Ob)(s R:Nat)(d:List UInt8)(n:Int)(l:List PB):Nat→Ob :=
 Qw (Qw fr R (.vec (1+l.length) 3 (l.map PB.av))) s (.cells [.str d,.int .i64 n,.vec 0 R (1+l.length) 0 l.length false])
section
variable (fr:Nat→Ob)(s R:Nat)(d:List UInt8)(n:Int)(l:List PB)(h:R≠s)
theorem Z6:Qm fr s R d n l s=.cells [.str d,.int .i64 n,.vec 0 R (1+l.length) 0 l.length false]:=QM ..
include h in
theorem JW:Qm fr s R d n l R=.vec (1+l.length) 3 (l.map PB.av):=by rw[Qm,QP _ _ h,QM]
theorem QL {k:Nat}(h1:k≠R)(h2:k≠s):Qm fr s R d n l k=fr k:=by rw[Qm,QP _ _ h2,QP _ _ h1]
theorem KG (n':Int):Qw (Qm fr s R d n l) s (.cells [.str d,.int .i64 n',.vec 0 R (1+l.length) 0 l.length false])=Qm fr s R d n' l:=by rw[Qm,Jb,Qm]
include h in
theorem UC (x:PB):Qw (Qw (Qm fr s R d n l) R (.vec (1+l.length+1) 3 (l.map PB.av++[x.av]))) s (.cells [.str d,.int .i64 n,.vec 0 R (1+l.length+1) 0 (l.length+1) false])=Qm fr s R d n (l++[x]):=by
 have e:(l++[x]).length=l.length+1:=by simp
 rw[Qm,Qm,e,QAw,ZN (Qw fr R _) s R _ _ (Ne.symm h),Jb,Jb];rfl
end

section
variable (fr:Nat→Ob)(s R:Nat)(d:List UInt8)(n:Int)(l:List PB)(h:R≠s)(hR:X1 R 160=true)(hl:l.length≤1073741824)(ok:Bool)(e:Int)(m:Qo)
include h hR hl

theorem Xt  : Qq Tryz.prog 98 [.ptr 0 s 0,.bool ok,.int .i64 e] ( Qm fr s R d n l :: m) fun x m1=>x=.tup []∧m1 =  Qm fr s R d n (l++pb d n ok e) :: m:=by
 have hs:=Z6 fr s R d n l;have hr:=JW fr s R d n l h;cases ok
 ·refine H5.go (by simp) ?_;simp only[hs,eE,seval];refine Xa rfl rfl (by decide) rfl rfl ?_;refine JK (xs:=l.map PB.av) (by rfl) (by simp only[hr,DJ,seval]) hR (by simp) (by rfl) rfl (by simp only[Qzr,QAe,maxLen];omega) (by simp only[Qzr,QAe];omega) ?_;have hb:(s==R)=false:=QAO.2 (Ne.symm h);have ha:=UC fr s R d n l h ⟨d,n,e⟩;have ep:pb d n false e=[⟨d,n,e⟩]:=rfl;simp only[PB.av]at ha;simp only[hs,hb,nn0,QzI,Qz4,cond_false,eE,seval];simp only[ha,ep,seval]
 ·refine H5.go (by simp) ?_;have ep:pb d n true e=[]:=rfl;simp only[ep,Qz6,Qa,seval]

theorem Zo (a:Nat→Ob):Qq Tryz.prog 98 [.ptr 1 s 0,.bool ok,.int .i64 e] (a :: Qm fr s R d n l :: m) fun x m1=>x=.tup []∧m1=a :: Qm fr s R d n (l++pb d n ok e) :: m:=by
 have hs:=Z6 fr s R d n l;have hr:=JW fr s R d n l h;cases ok
 ·refine H5.go (by simp) ?_;simp only[hs,eE,seval];refine Xa rfl rfl (by decide) rfl rfl ?_;refine JK (xs:=l.map PB.av) (by rfl) (by simp only[hr,DJ,seval]) hR (by simp) (by rfl) rfl (by simp only[Qzr,QAe,maxLen];omega) (by simp only[Qzr,QAe];omega) ?_;have hb:(s==R)=false:=QAO.2 (Ne.symm h);have ha:=UC fr s R d n l h ⟨d,n,e⟩;have ep:pb d n false e=[⟨d,n,e⟩]:=rfl;simp only[PB.av]at ha;simp only[hs,hb,nn0,QzI,Qz4,cond_false,eE,seval];simp only[ha,ep,seval]
 ·refine H5.go (by simp) ?_;have ep:pb d n true e=[]:=rfl;simp only[ep,Qz6,Qa,seval]

theorem QvG (a b:Nat→Ob):Qq Tryz.prog 98 [.ptr 2 s 0,.bool ok,.int .i64 e] (a :: b :: Qm fr s R d n l :: m) fun x m1=>x=.tup []∧m1=a :: b :: Qm fr s R d n (l++pb d n ok e) :: m:=by
 have hs:=Z6 fr s R d n l;have hr:=JW fr s R d n l h;cases ok
 ·refine H5.go (by simp) ?_;simp only[hs,eE,seval];refine Xa rfl rfl (by decide) rfl rfl ?_;refine JK (xs:=l.map PB.av) (by rfl) (by simp only[hr,DJ,seval]) hR (by simp) (by rfl) rfl (by simp only[Qzr,QAe,maxLen];omega) (by simp only[Qzr,QAe];omega) ?_;have hb:(s==R)=false:=QAO.2 (Ne.symm h);have ha:=UC fr s R d n l h ⟨d,n,e⟩;have ep:pb d n false e=[⟨d,n,e⟩]:=rfl;simp only[PB.av]at ha;simp only[hs,hb,nn0,QzI,Qz4,cond_false,eE,seval];simp only[ha,ep,seval]
 ·refine H5.go (by simp) ?_;have ep:pb d n true e=[]:=rfl;simp only[ep,Qz6,Qa,seval]

theorem Y8  {M:Nat}(N:List SN)(hN:N.length≤maxLen)(hn:∀x∈N,x.ok M)(t:Int)(ht:t∈KD):Qq Tryz.prog 154 [.ptr 0 s 0,.list (N.map fun x=>.agg x.cells),.int .i64 t] ( Qm fr s R d n l :: m) fun x m1=>x=.tup []∧m1 =  Qm fr s R d n (l++Xl d n N t) :: m:=by
 refine Mf.go (by simp) ?_;simp only[Qa,seval];refine aC (y94 N hN hn t ht) ?_;simp only[Qa,seval];refine Qb (Zo fr s R d n l h hR hl (XT N t==0) (XT N t) m Qh) rfl ?_;simp only[Xl,Qa,seval]

theorem Qo5 (a:Nat→Ob){M:Nat}(N:List SN)(hN:N.length≤maxLen)(hn:∀x∈N,x.ok M)(t:Int)(ht:t∈KD):Qq Tryz.prog 154 [.ptr 1 s 0,.list (N.map fun x=>.agg x.cells),.int .i64 t] (a :: Qm fr s R d n l :: m) fun x m1=>x=.tup []∧m1=a :: Qm fr s R d n (l++Xl d n N t) :: m:=by
 refine Mf.go (by simp) ?_;simp only[Qa,seval];refine aC (y94 N hN hn t ht) ?_;simp only[Qa,seval];refine Qb (QvG fr s R d n l h hR hl (XT N t==0) (XT N t) m Qh a) rfl ?_;simp only[Xl,Qa,seval]

end

theorem QK {α β:Type}{l:List α}{g:Nat→α→List β}{c:Nat}(hc:∀i x,(g i x).length≤c):∀n,(upto l g n).length≤c*n
 |0=>Qzc _
 |n+1=>by
  have h1:=QK hc (l:=l) n;rw[upto,QzM,Nat.mul_succ];cases l[n]? with
  |none=>simp only[QAe];omega
  |some x=>have:=hc n x;simp only;omega
theorem XY {α β:Type}{l:List α}{g:Nat→α→List β}{n:Nat}{x:α}(h:l[n]? = some x):upto l g (n+1)=upto l g n++g n x:=by
 rw[upto,h]
theorem QR (d:List UInt8)(n:Int)(ok:Bool)(e:Int):(pb d n ok e).length≤1:=by
 cases ok<;>simp[pb]

def Cn (l:List PS)(i:Nat)(x:PS):Bool:=match i with
 |0=>true
 |j+1=>match l[j]? with
  |none=>true
  |some y=>decide (x.lo > y.hi)
theorem Co (d:List UInt8)(lo hi:Int)(l:List PS)(i:Nat)(x:PS):Ju d lo hi l i x=pb d (-1) (decide (x.lo≥lo)&&decide (x.hi≤hi)&&decide (x.lo≤x.hi)) 6++pb d (-1) (Cn l i x) 11:=by
 cases i<;>rfl
theorem Ji (d:List UInt8)(lo hi:Int)(F:List PS)(i:Nat)(x:PS):(Ju d lo hi F i x).length≤2:=by
 unfold Ju;rw[QzM];exact Nat.add_le_add (QR ..) (QR ..)

section
variable (fr:Nat→Ob)(s R:Nat)(d:List UInt8)(l:List PB)(h:R≠s)(hR:X1 R 160=true)(lo hi:Int)(F:List PS)(hF:F.length≤1048576)(m:Qo)

def SqI (k:Nat)(st:St):Prop :=
 ∃f own i,st=⟨f,own :: Qm fr s R d (-1) (l++upto F (Ju d lo hi F) i) :: m,[]⟩∧k=F.length-i∧i≤F.length∧f 0=.ptr 1 s 0∧f 1=.list (F.map Q0)∧f 2=.int .i64 lo∧f 3=.int .i64 hi∧f 10=.list (F.map Q0)∧f 11=.int .i64 (F.length:Nat)∧f 12=.int .i64 (i:Nat)∧∀s∈[9],(own s).isRow=false

def SpF (F:List PS)(s:Nat)(lo hi:Int)(i:Nat)(f:Fr):Prop:=f 0=.ptr 1 s 0∧f 1=.list (F.map Q0)∧f 2=.int .i64 lo∧f 3=.int .i64 hi∧f 8=.int .i64 (i:Nat)∧f 9=.ptr 0 9 0∧f 10=.list (F.map Q0)∧f 11=.int .i64 (F.length:Nat)∧f 12=.int .i64 (i:Nat)

section
variable (i:Nat)(x:PS)(hx:F[i]? = some x)(own:Nat→Ob)(o9:own 9=.cells x.cells)(hl:l.length≤1073741824)(f:Fr)(hf:SpF F s lo hi i f)(K:St→Prop)
include h hR hl o9 hf
theorem sp3 (hK:∀f,SpF F s lo hi i f→K ⟨f,own :: Qm fr s R d (-1) (l++pb d (-1) (decide (x.lo≥lo)&&decide (x.hi≤hi)&&decide (x.lo≤x.hi)) 6) :: m,[]⟩):Ql Tryz.prog Gg ⟨f,own :: Qm fr s R d (-1) l :: m,[]⟩ K:=by
 have hK':=hK;obtain⟨h0,h1,h2,h3,h8,h9,h10,h11,h12⟩:=hf;simp only[PS.cells]at o9;simp only[Gg,h0,h2,h9,o9,eE,seval];cases a1:decide (x.lo≥lo)
 ·rw[a1]at hK';simp only[Qa,seval];refine Qb (Zo fr s R d (-1) l h hR hl false 6 m own) (by rfl) ?_;simp only[Qa,seval];exact hK' _ ⟨(by exact h0),(by exact h1),(by exact h2),(by exact h3),(by exact h8),(by exact h9),(by exact h10),(by exact h11),(by exact h12)⟩
 cases a2:decide (x.hi≤hi)
 ·rw[a1,a2]at hK';simp only[a2,h3,h9,o9,eE,seval];refine Qb (Zo fr s R d (-1) l h hR hl false 6 m own) (by rfl) ?_;simp only[Qa,seval];exact hK' _ ⟨(by exact h0),(by exact h1),(by exact h2),(by exact h3),(by exact h8),(by exact h9),(by exact h10),(by exact h11),(by exact h12)⟩
 rw[a1,a2]at hK';simp only[a2,h3,h9,o9,eE,seval];refine Qb (Zo fr s R d (-1) l h hR hl (decide (x.lo≤x.hi)) 6 m own) (by rfl) ?_;simp only[Qa,seval];exact hK' _ ⟨(by exact h0),(by exact h1),(by exact h2),(by exact h3),(by exact h8),(by exact h9),(by exact h10),(by exact h11),(by exact h12)⟩

include hx hF in
theorem sp4 (hK:∀f,SpF F s lo hi i f→K ⟨f,own :: Qm fr s R d (-1) (l++pb d (-1) (Cn F i x) 11) :: m,[]⟩):Ql Tryz.prog YR ⟨f,own :: Qm fr s R d (-1) l :: m,[]⟩ K:=by
 obtain⟨h0,h1,h2,h3,h8,h9,h10,h11,h12⟩:=hf;have hlt:i<F.length:=(Qze.1 hx).1;simp only[PS.cells]at o9;cases i with
 |zero=>
  simp only[YR,h0,h8,Qa,seval];refine Qb (Zo fr s R d (-1) l h hR hl true 11 m own) (by rfl) ?_;simp only[Qa,seval];exact hK _ ⟨(by exact h0),(by exact h1),(by exact h2),(by exact h3),(by exact h8),(by exact h9),(by exact h10),(by exact h11),(by exact h12)⟩
 |succ j=>
  obtain⟨y,hj⟩:∃y,F[j]? = some y:=⟨F[j]'(by omega),Qzf (by omega)⟩;have hg:(F.map Q0)[j]? = some (.agg [.int .i64 y.lo,.int .i64 y.hi]):=by rw[QAm,hj];rfl
  have wj:=JC j _ hlt (by simp only[maxLen];omega);have d0:(((j+1:Nat):Int)==0)=false:=by rw[QAO];omega
  simp only[Cn,hj]at hK;simp only[YR,d0,wj,Qk,QAq,Qc,hg,h0,h1,h8,h9,o9,eE,seval];refine Qb (Zo fr s R d (-1) l h hR hl (decide (x.lo > y.hi)) 11 m own) (by rfl) ?_;simp only[Qa,seval];exact hK _ ⟨(by exact h0),(by exact h1),(by exact h2),(by exact h3),(by exact h8),(by exact h9),(by exact h10),(by exact h11),(by exact h12)⟩
end

include h hR hF in
theorem RM (hl:l.length≤1048576000):Qq Tryz.prog 153 [.ptr 0 s 0,.list (F.map Q0),.int .i64 lo,.int .i64 hi] (Qm fr s R d (-1) l :: m) fun x m1=>x=.tup []∧m1=Qm fr s R d (-1) (l++upto F (Ju d lo hi F) F.length) :: m:=by
 have hul:∀n,n≤F.length→(l++upto F (Ju d lo hi F) n).length≤1051000000:=by
  intro n hn;have:=QK (l:=F) (Ji d lo hi F) n;rw[QzM];omega
 refine LX.go (by simp) ?_;simp only[N0,Md,Me,QAo,Qa,seval];refine Qe (SqI fr s R d l lo hi F m) _ ⟨_,_,0,by rw[upto,Qz6],rfl,Qzl _,(by rfl),(by rfl),(by rfl),(by rfl),(by rfl),(by rfl),(by rfl),by simp<;>rfl⟩ ?_;rintro _ st ⟨f0,own0,i,rfl,rfl,hi',h00,h10,h20,h30,h100,h110,h120,r9⟩;refine QJ (a:=_) [9] r9 ?_;intro f own hf hm hn9;have h0:f 0=.ptr 1 s 0:=by rw[hf,h00]<;>rfl
 have h1:f 1=.list (F.map Q0):=by rw[hf,h10]<;>rfl
 have h2:f 2=.int .i64 lo:=by rw[hf,h20]<;>rfl
 have h3:f 3=.int .i64 hi:=by rw[hf,h30]<;>rfl
 have h10':f 10=.list (F.map Q0):=by rw[hf,h100]<;>rfl
 have h11:f 11=.int .i64 (F.length:Nat):=by rw[hf,h110]<;>rfl
 have h12:f 12=.int .i64 (i:Nat):=by rw[hf,h120]<;>rfl
 have n9:=hn9 9 (by decide);clear hf hm hn9 h00 h10 h20 h30 h100 h110 h120 r9;simp only[N1,h11,h12,Qa,seval];by_cases hlt:i<F.length
 case neg=>
  have e:i=F.length:=by omega
  subst e;simp only[QC hlt,Qa,seval]
 obtain⟨x,hx⟩:∃x,F[i]? = some x:=⟨F[i],Qzf hlt⟩;have hg:(F.map Q0)[i]? = some (.agg [.int .i64 x.lo,.int .i64 x.hi]):=by rw[QAm,hx];rfl
 have e1:=Qn i _ hlt (by simp only[maxLen];omega);simp only[QA hlt,n9,N2,Qk,QAq,Qc,hg,h10',h12,eE,seval];refine sp3 fr s R d _ h hR lo hi F m i x _ (by rfl) (Qzd (hul i hi') (by decide)) _ ⟨(by exact h0),(by exact h1),(by exact h2),(by exact h3),(by rfl),(by rfl),(by exact h10'),(by exact h11),(by exact h12)⟩ _ (fun f hf=>?_);simp only[Qa,seval];refine sp4 fr s R d _ h hR lo hi F hF m i x hx _ (by rfl) ?_ _ hf _ (fun f hf=>?_)
 ·have a:=hul i hi';have b:=QR d (-1) (decide (x.lo≥lo)&&decide (x.hi≤hi)&&decide (x.lo≤x.hi)) 6;rw[QzM];omega
 obtain⟨h0,h1,h2,h3,h8,h9,h10,h11,h12⟩:=hf;simp only[N3,h12,e1,Qa,seval];exact⟨F.length-(i+1),by omega,_,_,i+1,by rw[XY hx,Co];simp only[Qzw]<;>rfl,rfl,by omega,(by exact h0),(by exact h1),(by exact h2),(by exact h3),(by exact h10),(by exact h11),(by rfl),by simp<;>rfl⟩
end

end Go.Proofs.YtaiflhahcglpgaaGreatDoor.Va

set_option linter.unusedSectionVars false
namespace Go.Proofs.YtaiflhahcglpgaaGreatDoor.Va
open Go Am Rc Bt Br Up So

theorem s37 (B:List (List UInt8))(hl:B.length≤maxLen)(v:List UInt8):Qu Tryz.prog 37 [.list (B.map Qi),.str v] (.int .i64 (QZ (fun b=>b==v) B 0)):=by
 let I:Nat→St→Prop:=fun k st=>∃f i,st=⟨f,[Qh],[]⟩∧k=B.length-i∧QZ (fun b=>b==v) B 0=QZ (fun b=>b==v) (B.drop i) i∧f 0=.list (B.map Qi)∧f 1=.str v∧f 7=.int .i64 (B.length:Nat)∧f 8=.int .i64 (i:Nat)
 refine k37.fn (by simp) ?_;simp only[QAo,Qa,seval];refine Qe I _ ⟨_,0,rfl,rfl,rfl,(by rfl),(by rfl),(by rfl),(by rfl)⟩ ?_;rintro _ st ⟨f,i,rfl,rfl,hx,h0,h1,h7,h8⟩;simp only[h7,h8,Qa,seval];by_cases hlt:i<B.length
 ·obtain⟨x,hi⟩:∃x,B[i]? = some x:=⟨B[i],Qzf hlt⟩;have hg:(B.map Qi)[i]? = some (.str x):=by simp[hi,Qi]
  have e1:=Qn i _ hlt hl;have ec:(v==x)=(x==v):=BEq.comm;rw[XG _ hi]at hx;cases hv:(x==v)
  ·rw[hv,Qzj (by decide)]at hx;simp only[QA hlt,Qk,QAq,Qc,hg,Qx,ec,hv,h0,h1,h8,e1,eE,seval];exact⟨B.length-(i+1),by omega,_,i+1,rfl,rfl,hx,(by exact h0),(by exact h1),(by exact h7),(by rfl)⟩
  ·rw[hv,Qzk rfl]at hx;simp only[QA hlt,Qk,QAq,Qc,hg,Qx,ec,hv,h0,h1,h8,hx,eE,seval]
 ·have hx':QZ (fun b=>b==v) B 0 = -1:=by rw[hx,QzL (by omega)];rfl
  simp only[QC hlt,hx',Qa,seval]

theorem Fz (B:List (List UInt8))(v:List UInt8):(B.any fun b=>b==v)=B.contains v:=by
 induction B with
 |nil=>rfl
 |cons b B ih=>
  rw[List.any_cons,List.contains_cons,ih,BEq.comm (a:=b)]
theorem s36 (B:List (List UInt8))(hl:B.length≤maxLen)(v:List UInt8):Qu Tryz.prog 36 [.list (B.map Qi),.str v] (.bool (B.contains v)):=by
 refine k36.fn (by simp) ?_;simp only[Qa,seval];refine aC (s37 B hl v) ?_;simp only[J8,Fz,Qa,seval]

theorem Qr {l:List PB}{a:Nat}(h:l.length≤a)(d:List UInt8)(n:Int)(ok:Bool)(e:Int):(l++pb d n ok e).length≤a+1:=by
 have:=QR d n ok e;rw[QzM];omega

theorem Xo (x:SM):x.cells=[.str x.name,.list (x.fields.map fun n=>.agg n.cells),.list (x.free.map fun n=>.agg n.cells),.list (x.gone.map AV.str),.list (x.notes.map fun n=>.agg n.cells)]:=rfl
def FF (s i:Nat)(f:Fr):Prop:=f 0=.ptr 1 s 0∧f 3=.int .i64 (i:Nat)∧f 5=.ptr 0 5 0∧f 6=.ptr 0 6 0∧f 8=.ptr 0 8 0

section
variable (fr:Nat→Ob)(s R:Nat)(h:R≠s)(hR:X1 R 160=true)(mm:Qo){M:Nat}(hM:M≤1048576)(S:SC)(hS:S.ok M)(m:SM)(hm:m.ok M)(i:Nat)(x:SF)(hi:m.fields[i]? = some x)
variable (own:Nat→Ob)(o5:own 5=.cells [.list (S.msgs.map fun n=>.agg n.cells),.list (S.enums.map fun n=>.agg n.cells),.list (S.servs.map fun n=>.agg n.cells)])(o6:own 6=.cells m.cells)(o8:own 8=.cells x.cells)
variable (l:List PB)(hl:l.length≤1073741824)(f:Fr)(hf:FF s i f)(K:St→Prop)
include h hR hl hf

include o8 in
theorem fk3 (hK:∀f,FF s i f→K ⟨f,own :: Qm fr s R m.name x.num (l++pb m.name x.num (decide (x.num≥1)&&decide (x.num≤65535)) 6) :: mm,[]⟩):Ql Tryz.prog Ga ⟨f,own :: Qm fr s R m.name x.num l :: mm,[]⟩ K:=by
 obtain⟨h0,h3,h5,h6,h8⟩:=hf;rw[QD]at o8;simp only[Ga,h0,h8,o8,eE,seval];cases a1:decide (x.num≥1)
 ·rw[a1]at hK;simp only[Qa,seval];refine Qb (Zo fr s R m.name x.num l h hR hl false 6 mm own) (by rfl) ?_;simp only[Qa,seval];exact hK _ ⟨(by exact h0),(by exact h3),(by exact h5),(by exact h6),(by exact h8)⟩
 ·rw[a1]at hK;simp only[h8,o8,eE,seval];refine Qb (Zo fr s R m.name x.num l h hR hl (decide (x.num≤65535)) 6 mm own) (by rfl) ?_;simp only[Qa,seval];exact hK _ ⟨(by exact h0),(by exact h3),(by exact h5),(by exact h6),(by exact h8)⟩

include o6 o8 hi hM hm in
theorem fk4 (hK:∀f,FF s i f→K ⟨f,own :: Qm fr s R m.name x.num (l++pb m.name x.num (Jw m.fields SF.num i x) 11) :: mm,[]⟩):Ql Tryz.prog YQ ⟨f,own :: Qm fr s R m.name x.num l :: mm,[]⟩ K:=by
 obtain⟨h0,h3,h5,h6,h8⟩:=hf;have hlt:i<m.fields.length:=(Qze.1 hi).1;have hl1:=hm.len1;rw[QD]at o8;simp only[SM.cells]at o6;cases i with
 |zero=>
  simp only[YQ,h0,h3,Qa,seval];refine Qb (Zo fr s R m.name x.num l h hR hl true 11 mm own) (by rfl) ?_;simp only[Qa,seval];exact hK _ ⟨(by exact h0),(by exact h3),(by exact h5),(by exact h6),(by exact h8)⟩
 |succ j=>
  obtain⟨y,hj⟩:∃y,m.fields[j]? = some y:=⟨m.fields[j]'(by omega),Qzf (by omega)⟩;have hg:(m.fields.map fun n=>AV.agg n.cells)[j]? = some (.agg y.cells):=by rw[QAm,hj];rfl
  have wj:=JC j _ hlt (by simp only[maxLen];omega);have d0:(((j+1:Nat):Int)==0)=false:=by rw[QAO];omega
  rw[QD]at hg;simp only[Jw,hj]at hK;simp only[YQ,d0,wj,Qk,QAq,Qc,hg,h0,h3,h6,h8,o6,o8,eE,seval];refine Qb (Zo fr s R m.name x.num l h hR hl (decide (x.num > y.num)) 11 mm own) (by rfl) ?_;simp only[Qa,seval];exact hK _ ⟨(by exact h0),(by exact h3),(by exact h5),(by exact h6),(by exact h8)⟩

include o8 in
theorem fk5 (hK:∀f,FF s i f→K ⟨f,own :: Qm fr s R m.name x.num (l++pb m.name x.num (Q5 x.name) 8) :: mm,[]⟩):Ql Tryz.prog Gb ⟨f,own :: Qm fr s R m.name x.num l :: mm,[]⟩ K:=by
 obtain⟨h0,h3,h5,h6,h8⟩:=hf;rw[QD]at o8;simp only[Gb,h0,h8,o8,eE,seval];refine aC (Bz x.name) ?_
 try simp only[eE,seval]
 refine Qb (Zo fr s R m.name x.num l h hR hl (Q5 x.name) 8 mm own) (by rfl) ?_;simp only[Qa,seval];exact hK _ ⟨(by exact h0),(by exact h3),(by exact h5),(by exact h6),(by exact h8)⟩

include o6 hi hM hm in
theorem fk6 (hK:∀f,FF s i f→K ⟨f,own :: Qm fr s R m.name x.num (l++pb m.name x.num (!((m.fields.take i).any fun y=>y.name==x.name)) 9) :: mm,[]⟩):Ql Tryz.prog Gc ⟨f,own :: Qm fr s R m.name x.num l :: mm,[]⟩ K:=by
 obtain⟨h0,h3,h5,h6,h8⟩:=hf;have hl1:=hm.len1;have hsn:=QvD m.fields (by simp only[maxLen];omega) i x hi 190 SF.name QvA (own :: Qm fr s R m.name x.num l :: mm);simp only[SM.cells]at o6;simp only[Gc,h0,h3,h6,o6,eE,seval];refine Qb hsn (by simp only[QzI,Qz4,Qa,seval]<;>rfl) ?_;simp only[Qa,seval];refine Qb (Zo fr s R m.name x.num l h hR hl _ 9 mm own) (by rfl) ?_;simp only[Qa,seval];exact hK _ ⟨(by exact h0),(by exact h3),(by exact h5),(by exact h6),(by exact h8)⟩

include o6 o8 hM hm in
theorem fk7 (hK:∀f,FF s i f→K ⟨f,own :: Qm fr s R m.name x.num (l++pb m.name x.num (!(kept m.free x.num) && !(m.gone.contains x.name)) 21) :: mm,[]⟩):Ql Tryz.prog Gd ⟨f,own :: Qm fr s R m.name x.num l :: mm,[]⟩ K:=by
 obtain⟨h0,h3,h5,h6,h8⟩:=hf;have hl1:=hm.len2;have hl2:=hm.len3;have hr:Qu Tryz.prog 142 [.list (m.free.map fun n=>AV.agg n.cells),.int .i64 x.num] (.bool (kept m.free x.num)):=Qkh m.free (by simp only[maxLen];omega) x.num;have hc:Qu Tryz.prog 36 [.list (m.gone.map AV.str),.str x.name] (.bool (m.gone.contains x.name)):=s36 m.gone (by simp only[maxLen];omega) x.name;rw[QD]at o8;simp only[SM.cells]at o6;simp only[Gd,h0,h6,h8,o6,o8,eE,seval];refine aC hr ?_;cases a1:kept m.free x.num
 ·rw[a1]at hK;simp only[QAb,h6,h8,o6,o8,eE,seval];refine aC hc ?_;simp only[Qa,seval];refine Qb (Zo fr s R m.name x.num l h hR hl (!(m.gone.contains x.name)) 21 mm own) (by rfl) ?_;simp only[Qa,seval];exact hK _ ⟨(by exact h0),(by exact h3),(by exact h5),(by exact h6),(by exact h8)⟩
 ·rw[a1]at hK;simp only[QAD,Qa,seval];refine Qb (Zo fr s R m.name x.num l h hR hl false 21 mm own) (by rfl) ?_;simp only[Qa,seval];exact hK _ ⟨(by exact h0),(by exact h3),(by exact h5),(by exact h6),(by exact h8)⟩

include o8 in
theorem fk8 (hK:∀f,FF s i f→K ⟨f,own :: Qm fr s R m.name x.num (l++pb m.name x.num (Ww x) 1) :: mm,[]⟩):Ql Tryz.prog Ge ⟨f,own :: Qm fr s R m.name x.num l :: mm,[]⟩ K:=by
 obtain⟨h0,h3,h5,h6,h8⟩:=hf;rw[QD]at o8;unfold Ww at hK;simp only[Ge,h0,h8,o8,eE,seval];cases a1:decide (x.card≥1)
 ·rw[a1]at hK;simp only[Qa,seval];refine Qb (Zo fr s R m.name x.num l h hR hl false 1 mm own) (by rfl) ?_;simp only[Qa,seval];exact hK _ ⟨(by exact h0),(by exact h3),(by exact h5),(by exact h6),(by exact h8)⟩
 cases a2:decide (x.card≤5)
 ·rw[a1,a2]at hK;simp only[a2,h8,o8,eE,seval];refine Qb (Zo fr s R m.name x.num l h hR hl false 1 mm own) (by rfl) ?_;simp only[Qa,seval];exact hK _ ⟨(by exact h0),(by exact h3),(by exact h5),(by exact h6),(by exact h8)⟩
 rw[a1,a2]at hK;simp only[a2,h8,o8,eE,seval];refine aC (Qvr x.card x.key) ?_
 try simp only[Qa,seval]
 refine Qb (Zo fr s R m.name x.num l h hR hl (G8 x.card x.key) 1 mm own) (by rfl) ?_;simp only[Qa,seval];exact hK _ ⟨(by exact h0),(by exact h3),(by exact h5),(by exact h6),(by exact h8)⟩

include o5 o8 hS hM hm hi in
theorem fk9 (hK:∀f,FF s i f→K ⟨f,own :: Qm fr s R m.name x.num (l++pb m.name x.num (JD S x) 12) :: mm,[]⟩):Ql Tryz.prog Gf ⟨f,own :: Qm fr s R m.name x.num l :: mm,[]⟩ K:=by
 obtain⟨h0,h3,h5,h6,h8⟩:=hf;have hc:=Qvs S hS hM x;simp only[SC.av,Xm,QD]at hc;rw[QD]at o8;simp only[Gf,h0,h5,h8,o5,o8,eE,seval];refine aC hc ?_
 try simp only[eE,seval]
 refine Qb (Zo fr s R m.name x.num l h hR hl (JD S x) 12 mm own) (by rfl) ?_;simp only[Qa,seval];exact hK _ ⟨(by exact h0),(by exact h3),(by exact h5),(by exact h6),(by exact h8)⟩

include o5 o8 hS hM hm hi in
theorem QvH (hK:∀f,FF s i f→K ⟨f,own :: Qm fr s R m.name x.num (l++pb m.name x.num (Kq S x) 1) :: mm,[]⟩):Ql Tryz.prog Uf ⟨f,own :: Qm fr s R m.name x.num l :: mm,[]⟩ K:=by
 obtain⟨h0,h3,h5,h6,h8⟩:=hf;have hc:=Qvw S hS hM x (hm.fields x (Qzq hi));simp only[SC.av,Xm,QD]at hc;rw[QD]at o8;simp only[Uf,h0,h5,h8,o5,o8,eE,seval];refine aC hc ?_
 try simp only[eE,seval]
 refine Qb (Zo fr s R m.name x.num l h hR hl (Kq S x) 1 mm own) (by rfl) ?_;simp only[Qa,seval];exact hK _ ⟨(by exact h0),(by exact h3),(by exact h5),(by exact h6),(by exact h8)⟩

include o6 hM hm hi in
theorem QvI (hK:∀f,FF s i f→K ⟨f,own :: Qm fr s R m.name x.num (l++pb m.name x.num (Js m i) 15) :: mm,[]⟩):Ql Tryz.prog Ue ⟨f,own :: Qm fr s R m.name x.num l :: mm,[]⟩ K:=by
 obtain⟨h0,h3,h5,h6,h8⟩:=hf;have hc:=Qvz hM m hm i x hi;simp only[QT,SM.cells]at hc;simp only[SM.cells]at o6;simp only[Ue,h0,h3,h6,o6,eE,seval];refine aC hc ?_
 try simp only[eE,seval]
 refine Qb (Zo fr s R m.name x.num l h hR hl (Js m i) 15 mm own) (by rfl) ?_;simp only[Qa,seval];exact hK _ ⟨(by exact h0),(by exact h3),(by exact h5),(by exact h6),(by exact h8)⟩

include o8 hM hm hi in
theorem QvJ (hK:∀f,FF s i f→K ⟨f,own :: Qm fr s R m.name x.num (l++Xl m.name x.num x.notes 2) :: mm,[]⟩):Ql Tryz.prog Ug ⟨f,own :: Qm fr s R m.name x.num l :: mm,[]⟩ K:=by
 obtain⟨h0,h3,h5,h6,h8⟩:=hf;have hx:=hm.fields x (Qzq hi);have hln:=hx.len;rw[QD]at o8;simp only[Ug,h0,h8,o8,eE,seval];refine Qb (Qo5 fr s R m.name x.num l h hR hl mm own x.notes (by simp only[maxLen];omega) hx.notes 2 (by decide)) (by rfl) ?_;simp only[Qa,seval];exact hK _ ⟨(by exact h0),(by exact h3),(by exact h5),(by exact h6),(by exact h8)⟩
end

theorem QvK (fr:Nat→Ob)(s R:Nat)(h:R≠s)(hR:X1 R 160=true)(mm:Qo){M:Nat}(hM:M≤1048576)(S:SC)(hS:S.ok M)(m:SM)(hm:m.ok M)(i:Nat)(x:SF)(hi:m.fields[i]? = some x)(l:List PB)(hl:l.length≤1073741800)(n:Int) :
  Qq Tryz.prog 152 [.ptr 0 s 0,S.av,QT m,.int .i64 (i:Nat)] (Qm fr s R m.name n l :: mm) fun y m1=>y=.tup []∧m1=Qm fr s R m.name (-1) (l++Jg S m i x) :: mm:=by
 have hg:(m.fields.map fun n=>AV.agg n.cells)[i]? = some (.agg x.cells):=by rw[QAm,hi];rfl
 rw[QD]at hg;have hs:∀n l,Qm fr s R m.name n l s=.cells [.str m.name,.int .i64 n,.vec 0 R (1+l.length) 0 l.length false]:=fun n l=>Z6 fr s R m.name n l
 have hn:∀n l n',Qw (Qm fr s R m.name n l) s (.cells [.str m.name,.int .i64 n',.vec 0 R (1+l.length) 0 l.length false])=Qm fr s R m.name n' l:=fun n l n'=>KG fr s R m.name n l n'
 refine LV.go (by simp) ?_;simp only[Mb,Mc,NX,NY,NZ,SC.av,QT,Xo m,Qk,QAq,Qc,hg,hs,hn,eE,seval];generalize hown:(Qw (Qw (Qw Qh 5 _) 6 _) 8 _:Nat→Ob)=own;have o5:own 5=.cells [.list (S.msgs.map fun n=>.agg n.cells),.list (S.enums.map fun n=>.agg n.cells),.list (S.servs.map fun n=>.agg n.cells)]:=by rw[←hown];exact(by rfl)
 have o6:own 6=.cells m.cells:=by rw[←hown,Xo];exact(by rfl)
 have o8:own 8=.cells x.cells:=by rw[←hown,QD];exact(by rfl)
 have q0:l.length≤1073741800:=hl;refine fk3 fr s R h hR mm m i x own o8 l (by omega) _ ⟨(by rfl),(by rfl),(by rfl),(by rfl),(by rfl)⟩ _ (fun f hf=>?_);have q1:=Qr q0 m.name x.num (decide (x.num≥1)&&decide (x.num≤65535)) 6;simp only[Qa,seval];refine fk4 fr s R h hR mm hM m hm i x hi own o6 o8 _ (by omega) f hf _ (fun f hf=>?_);have q2:=Qr q1 m.name x.num (Jw m.fields SF.num i x) 11;simp only[Qa,seval];refine fk5 fr s R h hR mm m i x own o8 _ (by omega) f hf _ (fun f hf=>?_);have q3:=Qr q2 m.name x.num (Q5 x.name) 8;simp only[Qa,seval];refine fk6 fr s R h hR mm hM m hm i x hi own o6 _ (by omega) f hf _ (fun f hf=>?_);have q4:=Qr q3 m.name x.num (!((m.fields.take i).any fun y=>y.name==x.name)) 9;simp only[Qa,seval];refine fk7 fr s R h hR mm hM m hm i x own o6 o8 _ (by omega) f hf _ (fun f hf=>?_);have q5:=Qr q4 m.name x.num (!(kept m.free x.num) && !(m.gone.contains x.name)) 21;simp only[Qa,seval];refine fk8 fr s R h hR mm m i x own o8 _ (by omega) f hf _ (fun f hf=>?_);have q6:=Qr q5 m.name x.num (Ww x) 1;simp only[Qa,seval];refine fk9 fr s R h hR mm hM S hS m hm i x hi own o5 o8 _ (by omega) f hf _ (fun f hf=>?_);have q7:=Qr q6 m.name x.num (JD S x) 12;simp only[Qa,seval];refine QvI fr s R h hR mm hM m hm i x hi own o6 _ (by omega) f hf _ (fun f hf=>?_);have q8:=Qr q7 m.name x.num (Js m i) 15;simp only[Qa,seval];refine QvH fr s R h hR mm hM S hS m hm i x hi own o5 o8 _ (by omega) f hf _ (fun f hf=>?_);have q9:=Qr q8 m.name x.num (Kq S x) 1;simp only[Qa,seval];refine QvJ fr s R h hR mm hM m hm i x hi own o8 _ (by omega) f hf _ (fun f hf=>?_);obtain⟨h0,h3,h5,h6,h8⟩:=hf;simp only[DY,h0,hs,hn,eE,seval];unfold Jg;simp only[Qzw]

theorem Ze {P:Program}{Qd:List Am.Item}{f:Fr}{m:Qo}{ds:List DF}{d:Nat}{K:St→Prop}{z:AV}{r:RA}{w:List UInt8}(hr:r.ev f=.str w)(h:Ql P Qd ⟨Qw f d (.list [.str w]),m,ds⟩ K):Ql P (⟨some d,.bsl 1 1 [z] [(0,1,r)],none⟩ :: Qd) ⟨f,m,ds⟩ K:=by
 rw[show Ql P (⟨some d,.bsl 1 1 [z] [(0,1,r)],none⟩ :: Qd) ⟨f,m,ds⟩ K=Ql P Qd ⟨Qw f d (.list [.str w]),m,ds⟩ K from MQ (y:=[.str w]) (by simp[fill,hr,AV.cells,AV.leaf,ZI,List.range_succ,splice]) rfl rfl];exact h

def XA (m:SM)(i:Nat):List (List UInt8):=((m.fields.take i).filter fun f=>f.card==1&&f.kind==10).map SF.tname
theorem U3 {m:SM}{i:Nat}{x:SF}(h:m.fields[i]? = some x):XA m (i+1)=if (x.card==1&&x.kind==10)=true then XA m i++[x.tname]else XA m i:=by
 unfold XA;rw[QAx,h,QAy,List.filter_append,QAw];cases hq:(x.card==1&&x.kind==10)
 ·rw[Qzj (by decide),List.filter_cons,hq];simp
 ·rw[Qzk rfl,List.filter_cons,hq];simp
theorem Yh (m:SM)(i:Nat):(XA m i).length≤m.fields.length:=by
 unfold XA;rw[QAo];exact Qzd (List.length_filter_le ..) (List.length_take_le' ..)

def NdI (m:SM)(k:Nat)(st:St):Prop :=
 ∃f fr i g,st=⟨f,[fr],[]⟩∧k=m.fields.length-i∧i≤m.fields.length∧f 3=.vec 0 3 g 0 (XA m i).length false∧f 7=.list (m.fields.map Xm)∧f 8=.int .i64 (m.fields.length:Nat)∧f 9=.int .i64 (i:Nat)∧fr 3=.vec g 1 ((XA m i).map Qi)∧∀s∈[5],(fr s).isRow=false

theorem QkJ {M:Nat}(hM:M≤1048576)(m:SM)(hm:m.ok M):Qu Tryz.prog 149 [QT m] (.list ((XU m).map Qi)):=by
 have hl1:=hm.len1;have hnd:XU m=XA m m.fields.length:=by unfold XU XA;rw[QAv]
 refine LO.fn (by simp) ?_;simp only[QT,Xo m,eE,seval];refine JX rfl rfl ?_;simp only[QAo,eE,seval];refine Qe (NdI m) _ ⟨_,_,0,_,rfl,rfl,Qzl _,(by rfl),(by rfl),(by rfl),(by rfl),(by rfl),by simp<;>rfl⟩ ?_;rintro _ st ⟨f0,fr0,i,g,rfl,rfl,hi,h30,h70,h80,h90,m30,r5⟩;refine QJ (a:=_) [5] r5 ?_;intro f fr hf hmm hn5;have h3:f 3=.vec 0 3 g 0 (XA m i).length false:=by rw[hf,h30]<;>rfl
 have h7:f 7=.list (m.fields.map Xm):=by rw[hf,h70]<;>rfl
 have h8:f 8=.int .i64 (m.fields.length:Nat):=by rw[hf,h80]<;>rfl
 have h9:f 9=.int .i64 (i:Nat):=by rw[hf,h90]<;>rfl
 have m3:fr 3=.vec g 1 ((XA m i).map Qi):=by rw[hmm 3 (by decide),m30]<;>rfl
 have n5:=hn5 5 (by decide);clear hf hmm hn5 h30 h70 h80 h90 m30 r5;simp only[h8,h9,Qa,seval];by_cases hlt:i<m.fields.length
 case neg=>
  have e:i=m.fields.length:=by omega
  subst e;rw[←hnd]at h3 m3;have ht:List.take (XU m).length (List.map Qi (XU m))=List.map Qi (XU m):=QzJ (by rw[QAo];exact Qzc _);simp only[QC hlt,h3,m3,QAo,QzQ,ht,QzB,Qzc,QAc,AV.un,eE,seval]
 obtain⟨x,hx⟩:∃x,m.fields[i]? = some x:=⟨m.fields[i],Qzf hlt⟩;have hg:(m.fields.map Xm)[i]? = some (.agg x.cells):=by rw[QAm,hx];rfl
 rw[QD]at hg;have e1:=Qn i _ hlt (by simp only[maxLen];omega);have hln:=Yh m i;have hsu:=U3 hx;have fin:∀(f:Fr) (fr:Nat→Ob) (g:Nat),f 3=.vec 0 3 g 0 (XA m (i+1)).length false→f 7=.list (m.fields.map Xm)→f 8=.int .i64 (m.fields.length:Nat)→f 9=.int .i64 ((i+1:Nat):Int)→fr 3=.vec g 1 ((XA m (i+1)).map Qi)→(∀s∈[5],(fr s).isRow=false)→∃k,k<m.fields.length-i∧NdI m k ⟨f,[fr],[]⟩ :=
  fun f fr g a b c d e r=>⟨m.fields.length-(i+1),by omega,f,fr,i+1,g,rfl,rfl,by omega,a,b,c,d,e,r⟩
 simp only[QA hlt,n5,Qk,QAq,Qc,hg,h7,h9,eE,seval];cases a1:(x.card==1)
 ·rw[a1,QAs,Qzj (by decide)]at hsu;simp only[h9,e1,Qa,seval];exact fin _ _ g (by rw[hsu];exact(by exact h3)) (by exact h7) (by exact h8) (by rfl) (by rw[hsu];exact(by exact m3)) (by simp<;>rfl)
 cases a2:(x.kind==10)
 ·rw[a1,a2,QAC,Qzj (by decide)]at hsu;simp only[a2,h9,e1,eE,seval];exact fin _ _ g (by rw[hsu];exact(by exact h3)) (by exact h7) (by exact h8) (by rfl) (by rw[hsu];exact(by exact m3)) (by simp<;>rfl)
 rw[a1,a2,QAC,Qzk rfl]at hsu;simp only[a2,h3,eE,seval];refine Ze (w:=x.tname) rfl ?_;refine QO (xs:=(XA m i).map Qi) (by rfl) (by exact m3) rfl (by simp) (by rfl) rfl (by simp only[Qzr,QAe,maxLen];omega) (by simp only[Qzr,QAe];omega) ?_;simp only[h9,e1,Qa,seval];have en:(XA m (i+1)).length=(XA m i).length+1:=by rw[hsu];simp
 exact fin _ _ (g+1) (by rw[en];exact(by rfl)) (by exact h7) (by exact h8) (by rfl) (by rw[hsu,QAw];exact(by rfl)) (by simp<;>rfl)

def Q8 (X:List (List UInt8)):List AV:=X.map fun _=>.bool true
theorem QkK (X:List (List UInt8)):AV.grL (Q8 X)=true:=by
 induction X with
 |nil=>rfl
 |cons x X ih=>rw[Q8,QzI,AV.grL,show AV.grL (X.map fun _=>.bool true)=true from ih];rfl
theorem AA (X:List (List UInt8)):X.length=(Q8 X).length:=by rw[Q8,QAo]
theorem Kr (n:List UInt8)(X:List (List UInt8)):ZG n X (Q8 X)=if X.contains n=true then some (.bool true)else none:=by
 induction X with
 |nil=>rfl
 |cons x X ih=>
  rw[Q8,QzI,ZG,List.contains_cons];cases h:(n==x)
  ·rw[QAF,←ih];rfl
  ·rw[QAE,Qzk rfl];rfl
theorem Cq (n:List UInt8)(X:List (List UInt8)):Xv n (.bool true) X (Q8 X)=if X.contains n=true then(X,Q8 X)else(X++[n],Q8 (X++[n])):=by
 induction X with
 |nil=>rfl
 |cons x X ih=>
  rw[Q8,QzI,Xv,List.contains_cons];cases h:(n==x)
  ·rw[show Xv n (.bool true) X (X.map fun _=>.bool true)=_ from ih,QAF];cases X.contains n<;>rfl
  ·rw[QAE,Qzk rfl];rfl

section
variable {M:Nat}(hM:M≤1048576)(S:SC)(hS:S.ok M)(n:List UInt8)(X:List (List UInt8))(fr:Nat→Ob)(o1:fr 1=.cells [.list (S.msgs.map fun n=>.agg n.cells),.list (S.enums.map fun n=>.agg n.cells),.list (S.servs.map fun n=>.agg n.cells)])
include hM hS in
theorem QvL (o1:fr 1=.cells [.list (S.msgs.map fun n=>.agg n.cells),.list (S.enums.map fun n=>.agg n.cells),.list (S.servs.map fun n=>.agg n.cells)])(o3:fr 3=.cells [.mptr 0 9])(o9:fr 9=.iter (.mp X (Q8 X)) 0) :
  Qq Tryz.prog 150 [Qi n,.ptr 2 1 0,.ptr 2 3 0] [Qh,Qh,fr] fun y m1=>y=.bool (QS S n && !X.contains n)∧m1=[Qh,Qh,fr]:=by
 obtain⟨l1,_,_⟩:=Zd S hS hM;have hc:=UB S l1 n;simp only[QT,SM.cells,SC.av]at hc;have hg:AV.gr (.bool true)=true:=rfl;refine Qr4.go (by simp) ?_;simp only[Qi,o1,eE,seval];refine aC hc ?_;cases QS S n
 ·simp only[QAs,eE,seval]
 cases hX:X.contains n
 ·simp only[QAb,X8,Kr,hX,Qzv,o3,o9,eE,seval]
 ·simp only[QAC,QAD,X8,Kr,hX,hg,o3,o9,eE,seval]

include hM hS in
theorem QvM (o3:fr 3=.cells [.list (S.msgs.map fun n=>.agg n.cells),.list (S.enums.map fun n=>.agg n.cells),.list (S.servs.map fun n=>.agg n.cells)])(o5:fr 5=.cells [.mp X (Q8 X)]) :
  Qq Tryz.prog 195 [Qi n,.ptr 2 3 0,.ptr 2 5 0] [Qh,Qh,fr] fun y m1=>y=.bool (QS S n && !X.contains n)∧m1=[Qh,Qh,fr]:=by
 obtain⟨l1,_,_⟩:=Zd S hS hM;have hc:=UB S l1 n;simp only[QT,SM.cells,SC.av]at hc;have hg:AV.gr (.bool true)=true:=rfl;refine Qs0.go (by simp) ?_;simp only[Qi,o3,eE,seval];refine aC hc ?_;cases QS S n
 ·simp only[QAs,eE,seval]
 cases hX:X.contains n
 ·simp only[QAb,X8,Kr,hX,Qzv,o5,eE,seval]
 ·simp only[QAC,QAD,X8,Kr,hX,hg,o5,eE,seval]

include hM hS in
theorem QvN (m:SM)(hm:m.ok M):Qu Tryz.prog 155 [S.av,QT m,.mp X (Q8 X)] (.bool ((XU m).any fun n=>QS S n && !X.contains n)):=by
 have hln:(XU m).length≤maxLen:=by
  have h1:=Yh m m.fields.length;have h2:=hm.len1;have h3:XU m=XA m m.fields.length:=by unfold XU XA;rw[QAv]
  rw[h3];simp only[maxLen];omega
 have hc:=QkJ hM m hm;simp only[QT,SM.cells]at hc;refine Qaa.fn (by simp) ?_;simp only[SC.av,QT,SM.cells,eE,seval];refine aC hc ?_;simp only[Qa,seval];refine Qb (Bs (XU m) hln (fun n=>QS S n && !X.contains n) 195 [.ptr 0 3 0,.ptr 0 5 0] _ fun o _=>QvM hM S hS o X _ (by rfl) (by rfl)) (by simp only[QzI,Qz4,Qa,seval]<;>rfl) ?_;simp only[Qa,seval]
end

section
variable {M:Nat}(hM:M≤1048576)(S:SC)(hS:S.ok M)
def FoI (S:SC)(k:Nat)(st:St):Prop :=
 ∃f fr i,st=⟨f,[fr],[]⟩∧k=S.msgs.length+1-i∧i≤S.msgs.length+1∧f 1=.ptr 0 1 0∧f 3=.ptr 0 3 0∧f 13=.int .i64 ((S.msgs.length+1:Nat):Int)∧f 14=.int .i64 (i:Nat)∧
  fr 1=.cells [.list (S.msgs.map fun n=>.agg n.cells),.list (S.enums.map fun n=>.agg n.cells),.list (S.servs.map fun n=>.agg n.cells)]∧fr 3=.cells [.mptr 0 9]∧fr 9=.iter (.mp (KY S i) (Q8 (KY S i))) 0∧∀s∈[5,6],(fr s).isRow=false

include hM hS in
theorem QkL (X:List (List UInt8))(f:Fr)(fr:Nat→Ob)(h1:f 1=.ptr 0 1 0)(h3:f 3=.ptr 0 3 0)(h17:f 17=.list (S.msgs.map QT))(h18:f 18=.int .i64 (S.msgs.length:Nat))(h19:f 19=.int .i64 0)
  (m1:fr 1=.cells [.list (S.msgs.map fun n=>.agg n.cells),.list (S.enums.map fun n=>.agg n.cells),.list (S.servs.map fun n=>.agg n.cells)]) (m3:fr 3=.cells [.mptr 0 9]) (m9:fr 9=.iter (.mp X (Q8 X)) 0) (Ws:∀s∈[5,6],(fr s).isRow=false) (h13:f 13=.int .i64 ((S.msgs.length+1:Nat):Int)) (r:Int) (h14:f 14=.int .i64 r) (Q:Exit→St→Prop)
  (hq:∀(f:Fr) (fr:Nat→Ob),f 1=.ptr 0 1 0→f 3=.ptr 0 3 0→f 13=.int .i64 ((S.msgs.length+1:Nat):Int)→f 14=.int .i64 r→fr 1=.cells [.list (S.msgs.map fun n=>.agg n.cells),.list (S.enums.map fun n=>.agg n.cells),.list (S.servs.map fun n=>.agg n.cells)]→fr 3=.cells [.mptr 0 9]→fr 9=.iter (.mp (Yf S X) (Q8 (Yf S X))) 0→(∀s∈[5,6],(fr s).isRow=false)→Q (.exit 2) ⟨f,[fr],[]⟩) :
  QE Tryz.prog (.loop NN) ⟨f,[fr],[]⟩ Q:=by
 obtain⟨l1,_,_⟩:=Zd S hS hM
 let I:Nat→St→Prop:=fun k st=>∃f fr i,st=⟨f,[fr],[]⟩∧k=S.msgs.length-i∧i≤S.msgs.length∧f 1=.ptr 0 1 0∧f 3=.ptr 0 3 0∧f 17=.list (S.msgs.map QT)∧f 18=.int .i64 (S.msgs.length:Nat)∧f 19=.int .i64 (i:Nat)∧f 13=.int .i64 ((S.msgs.length+1:Nat):Int)∧f 14=.int .i64 r∧
  fr 1=.cells [.list (S.msgs.map fun n=>.agg n.cells),.list (S.enums.map fun n=>.agg n.cells),.list (S.servs.map fun n=>.agg n.cells)]∧fr 3=.cells [.mptr 0 9]∧fr 9=.iter (.mp ((S.msgs.take i).foldl (Zc S) X) (Q8 ((S.msgs.take i).foldl (Zc S) X))) 0∧∀s∈[5,6],(fr s).isRow=false
 refine Qe I _ ⟨f,fr,0,rfl,rfl,Qzl _,h1,h3,h17,h18,h19,h13,h14,m1,m3,m9,Ws⟩ ?_;clear h1 h3 h17 h18 h19 h13 h14 m1 m3 m9 Ws;rintro _ st ⟨f0,fr0,i,rfl,rfl,hi,h10,h30,h170,h180,h190,h130,h140,m10,m30,m90,Ws⟩;refine QJ (a:=_) [6,5] (by intro s hs;exact Ws s (by simp only[QAj,QAT,or_false]at hs ⊢;omega)) ?_;intro f fr hf hmm hn;have h1:f 1=.ptr 0 1 0:=by rw[hf,h10]<;>rfl
 have h3:f 3=.ptr 0 3 0:=by rw[hf,h30]<;>rfl
 have h17:f 17=.list (S.msgs.map QT):=by rw[hf,h170]<;>rfl
 have h18:f 18=.int .i64 (S.msgs.length:Nat):=by rw[hf,h180]<;>rfl
 have h19:f 19=.int .i64 (i:Nat):=by rw[hf,h190]<;>rfl
 have h13:f 13=.int .i64 ((S.msgs.length+1:Nat):Int):=by rw[hf,h130]<;>rfl
 have h14:f 14=.int .i64 r:=by rw[hf,h140]<;>rfl
 have m1:fr 1=.cells [.list (S.msgs.map fun n=>.agg n.cells),.list (S.enums.map fun n=>.agg n.cells),.list (S.servs.map fun n=>.agg n.cells)]:=by rw[hmm 1 (by decide),m10]<;>rfl
 have m3:fr 3=.cells [.mptr 0 9]:=by rw[hmm 3 (by decide),m30]<;>rfl
 have m9:fr 9=.iter (.mp ((S.msgs.take i).foldl (Zc S) X) (Q8 ((S.msgs.take i).foldl (Zc S) X))) 0:=by rw[hmm 9 (by decide),m90]<;>rfl
 have n5:=hn 5 (by decide);have n6:=hn 6 (by decide);clear hf hmm hn h10 h30 h170 h180 h190 h130 h140 m10 m30 m90 Ws;simp only[h18,h19,Qa,seval];by_cases hlt:i<S.msgs.length
 case neg=>
  have e:(S.msgs.take i).foldl (Zc S) X=Yf S X:=by rw[QzJ (by omega)];rfl
  rw[e]at m9;simp only[QC hlt,Qa,seval];exact hq _ _ (by exact h1) (by exact h3) (by exact h13) (by exact h14) (by exact m1) (by exact m3) (by exact m9) (by simp only[QAj,QAT,or_false];rintro s (rfl|rfl)<;>simp only[n5,n6]<;>rfl)
 obtain⟨x,hx⟩:∃x,S.msgs[i]? = some x:=⟨S.msgs[i],Qzf hlt⟩;have hmem:x∈S.msgs:=Qzq hx;have hg:(S.msgs.map QT)[i]? = some (.agg x.cells):=by rw[QAm,hx];rfl
 simp only[SM.cells]at hg;have e1:=Qn i _ hlt l1;have hc:=UB S l1 x.name;simp only[QT,SM.cells,SC.av]at hc;obtain⟨y,hy⟩:∃y,S.msgs.find? (fun m=>m.name==x.name)=some y:=by
  cases hq:S.msgs.find? (fun m=>m.name==x.name)with
  |none=>have:=QAI.1 hq x hmem;simp at this
  |some y=>exact⟨y,rfl⟩
 have hym:=hS.msgs y (QAK hy);have hnl:(XU y).length≤maxLen:=by
  have h1:=Yh y y.fields.length;have h2:=hym.len1;have h3:XU y=XA y y.fields.length:=by unfold XU XA;rw[QAv]
  rw[h3];simp only[maxLen];omega
 have hnd:=QkJ hM y hym;simp only[QT,SM.cells]at hnd;rw[hy,QAd]at hc;have hst:(S.msgs.take (i+1)).foldl (Zc S) X=Zc S ((S.msgs.take i).foldl (Zc S) X) x:=by
  rw[QAx,hx,QAy,List.foldl_append];rfl
 have hfs:∀Y,Zc S Y x=if (XU y).any (fun n=>QS S n && !Y.contains n)=true then Y else if Y.contains x.name=true then Y else Y++[x.name]:=by
  intro Y;unfold Zc;rw[hy]
 have fin:∀(f:Fr) (fr:Nat→Ob),f 1=.ptr 0 1 0→f 3=.ptr 0 3 0→f 17=.list (S.msgs.map QT)→f 18=.int .i64 (S.msgs.length:Nat)→f 19=.int .i64 ((i+1:Nat):Int)→f 13=.int .i64 ((S.msgs.length+1:Nat):Int)→f 14=.int .i64 r→fr 1=.cells [.list (S.msgs.map fun n=>.agg n.cells),.list (S.enums.map fun n=>.agg n.cells),.list (S.servs.map fun n=>.agg n.cells)]→fr 3=.cells [.mptr 0 9]→fr 9=.iter (.mp ((S.msgs.take (i+1)).foldl (Zc S) X) (Q8 ((S.msgs.take (i+1)).foldl (Zc S) X))) 0→(∀s∈[5,6],(fr s).isRow=false)→∃k,k<S.msgs.length-i∧I k ⟨f,[fr],[]⟩ :=
  fun f fr a b c d e g h j k l n=>⟨S.msgs.length-(i+1),by omega,f,fr,i+1,rfl,rfl,by omega,a,b,c,d,e,g,h,j,k,l,n⟩
 generalize hY:(S.msgs.take i).foldl (Zc S) X=Y at m9 hst;rw[hst,hfs]at fin;simp only[QA hlt,n5,Qk,QAq,Qc,hg,m1,h1,h17,h19,eE,seval];refine aC hc ?_;simp only[n6,eE,seval];refine aC hnd ?_;simp only[Qa,seval];refine Qb (Bs (XU y) hnl (fun n=>QS S n && !Y.contains n) 150 [.ptr 0 1 0,.ptr 0 3 0] _ fun o _=>QvL hM S hS o Y _ (by exact m1) (by exact m3) (by exact m9)) (by simp only[QzI,Qz4,h1,h3,Qa,seval]<;>rfl) ?_;cases hb:(XU y).any fun n=>QS S n && !Y.contains n
 ·rw[hb,Qzj (by decide)]at fin;simp only[QAb,h3,m3,eE,seval];refine⟨0,9,Y,Q8 Y,0,x.name,(by rfl),by simp only[m9,eE,seval],(by rfl),rfl,QkK Y,AA Y,?_⟩;rw[show RA.ev _ (.c (.bool true))=AV.bool true from rfl,Cq];cases hYc:Y.contains x.name
  ·rw[hYc,Qzj (by decide)]at fin;simp only[Qj,Qzv,h19,e1,eE,seval];exact fin _ _ (by exact h1) (by exact h3) (by exact h17) (by exact h18) (by rfl) (by exact h13) (by exact h14) (by exact m1) (by exact m3) (by rfl) (by simp only[QAj,QAT,or_false];rintro s (rfl|rfl)<;>rfl)
  ·rw[hYc,Qzk rfl]at fin;simp only[Qj,h19,e1,eE,seval];exact fin _ _ (by exact h1) (by exact h3) (by exact h17) (by exact h18) (by rfl) (by exact h13) (by exact h14) (by exact m1) (by exact m3) (by rfl) (by simp only[QAj,QAT,or_false];rintro s (rfl|rfl)<;>rfl)
 ·rw[hb,Qzk rfl]at fin;simp only[QAD,h19,e1,Qa,seval];exact fin _ _ (by exact h1) (by exact h3) (by exact h17) (by exact h18) (by rfl) (by exact h13) (by exact h14) (by exact m1) (by exact m3) (by exact m9) (by simp only[QAj,QAT,or_false];rintro s (rfl|rfl)<;>rfl)

include hM hS in
theorem QvO:Qu Tryz.prog 101 [S.av] (.mp (KZ S) (Q8 (KZ S))):=by
 obtain⟨l1,_,_⟩:=Zd S hS hM;have hlm:=hS.len1;have w1:IntKind.i64.wrap ((S.msgs.length:Int)+1)=((S.msgs.length+1:Nat):Int):=by rw[ZE];omega
 refine IS.fn (by simp) ?_;simp only[SC.av,eE,seval];refine⟨rfl,?_⟩;simp only[Qj,QAo,w1,eE,seval];refine Qe (FoI S) _ ⟨_,_,0,rfl,rfl,Qzl _,(by rfl),(by rfl),(by rfl),(by rfl),(by rfl),(by rfl),(by rfl),by intro s hs;simp only[QAj,QAT,or_false]at hs;rcases hs with rfl|rfl<;>rfl⟩ ?_;rintro _ st ⟨f0,fr0,i,rfl,rfl,hi,h10,h30,h130,h140,m10,m30,m90,Ws⟩;refine QJ (a:=_) [6,5] (by intro s hs;exact Ws s (by simp only[QAj,QAT,or_false]at hs ⊢;omega)) ?_;intro f fr hf hmm hn;have h1:f 1=.ptr 0 1 0:=by rw[hf,h10]<;>rfl
 have h3:f 3=.ptr 0 3 0:=by rw[hf,h30]<;>rfl
 have h13:f 13=.int .i64 ((S.msgs.length+1:Nat):Int):=by rw[hf,h130]<;>rfl
 have h14:f 14=.int .i64 (i:Nat):=by rw[hf,h140]<;>rfl
 have m1:fr 1=.cells [.list (S.msgs.map fun n=>.agg n.cells),.list (S.enums.map fun n=>.agg n.cells),.list (S.servs.map fun n=>.agg n.cells)]:=by rw[hmm 1 (by decide),m10]<;>rfl
 have m3:fr 3=.cells [.mptr 0 9]:=by rw[hmm 3 (by decide),m30]<;>rfl
 have m9:fr 9=.iter (.mp (KY S i) (Q8 (KY S i))) 0:=by rw[hmm 9 (by decide),m90]<;>rfl
 have n5:=hn 5 (by decide);have n6:=hn 6 (by decide);clear hf hmm hn h10 h30 h130 h140 m10 m30 m90 Ws;simp only[h13,h14,Qa,seval];by_cases hlt:i<S.msgs.length+1
 case neg=>
  have e:i=S.msgs.length+1:=by omega
  subst e;simp only[QC hlt,h3,m3,m9,eE,seval];rfl
 have e1:=Qn i _ hlt (by simp only[maxLen];omega);simp only[QA hlt,m1,h1,QAo,eE,seval];refine QkL hM S hS (KY S i) _ _ (by exact h1) (by exact h3) (by rfl) (by rfl) (by rfl) (by exact m1) (by exact m3) (by exact m9) (by simp only[QAj,QAT,or_false];rintro s (rfl|rfl)<;>simp only[n5,n6]<;>rfl) (by exact h13) _ (by exact h14) _ (fun f fr h1 h3 h13 h14 m1 m3 m9 Ws=>?_);simp only[h14,e1,Qa,seval];exact⟨S.msgs.length+1-(i+1),by omega,_,_,i+1,rfl,rfl,by omega,(by exact h1),(by exact h3),(by exact h13),(by rfl),(by exact m1),(by exact m3),(by exact m9),Ws⟩
end

theorem KH (S:SC)(m:SM)(i:Nat)(x:SF):(Jg S m i x).length≤10:=by
 unfold Jg Xl;exact Qr (Qr (Qr (Qr (Qr (Qr (Qr (Qr (Qr (QR _ _ _ _) _ _ _ _) _ _ _ _) _ _ _ _) _ _ _ _) _ _ _ _) _ _ _ _) _ _ _ _) _ _ _ _) _ _ _ _
theorem WJ {fr:Nat→Ob}{s R:Nat}{d:List UInt8}{n:Int}{l:List PB}(h1:fr s=.cells [.str d,.int .i64 n,.vec 0 R (1+l.length) 0 l.length false])(h2:fr R=.vec (1+l.length) 3 (l.map PB.av)):Qm fr s R d n l=fr:=by
 rw[Qm,WH _ _ _ h2,WH _ _ _ h1]
theorem Hs (fr:Nat→Ob)(s R:Nat)(d:List UInt8)(n:Int)(h:R≠s)(A:Ob):Qw (Qw (Qw fr s A) R (.vec 1 3 [])) s (.cells ([.str d,.int .i64 n,.nils].set 2 (.vec 0 R 1 0 0 false)))=Qm fr s R d n []:=by
 rw[ZN _ _ _ _ _ (Ne.symm h),Jb];rfl
theorem UD {fr:Nat→Ob}{s R:Nat}{d:List UInt8}{n:Int}{l:List PB}{k:Nat}(h1:k≠R)(h2:k≠s)(o:Ob):Qw (Qm fr s R d n l) k o=Qm (Qw fr k o) s R d n l:=by
 rw[Qm,Qm,ZN _ _ _ _ _ (Ne.symm h2),ZN _ _ _ _ _ (Ne.symm h1)]

section
variable {M:Nat}(hM:M≤1048576)(S:SC)(hS:S.ok M)(m:SM)(hm:m.ok M)(X:List (List UInt8))(base:Nat→Ob)
variable (b3:base 3=.cells [.list (S.msgs.map fun n=>.agg n.cells),.list (S.enums.map fun n=>.agg n.cells),.list (S.servs.map fun n=>.agg n.cells)])(b4:base 4=.cells [.str m.name,.list (m.fields.map fun n=>.agg n.cells),.list (m.free.map fun n=>.agg n.cells),.list (m.gone.map AV.str),.list (m.notes.map fun n=>.agg n.cells)])

def MF (X:List (List UInt8))(f:Fr):Prop:=f 2=.mp X (Q8 X)∧f 3=.ptr 0 3 0∧f 4=.ptr 0 4 0∧f 7=.ptr 0 14 0

include hM hS hm b3 b4 in
theorem Cr (l:List PB)(hl:l.length≤1000000)(f:Fr)(hf:MF X f)(h38:f 38=.int .i64 (m.fields.length:Nat))(h39:f 39=.int .i64 0)(Q:Exit→St→Prop)
  (hq:∀f,MF X f→Q (.exit 0) ⟨f,[Qm base 14 1100 m.name (-1) (l++upto m.fields (Jg S m) m.fields.length)],[]⟩):QE Tryz.prog (.loop H8) ⟨f,[Qm base 14 1100 m.name (-1) l],[]⟩ Q:=by
 let I:Nat→St→Prop:=fun k st=>∃f i,st=⟨f,[Qm base 14 1100 m.name (-1) (l++upto m.fields (Jg S m) i)],[]⟩∧k=m.fields.length-i∧i≤m.fields.length∧MF X f∧f 38=.int .i64 (m.fields.length:Nat)∧f 39=.int .i64 (i:Nat)
 have hl1:=hm.len1;have c3:∀n l,Qm base 14 1100 m.name n l 3=base 3:=fun n l=>QL _ _ _ _ _ _ (by decide) (by decide)
 have c4:∀n l,Qm base 14 1100 m.name n l 4=base 4:=fun n l=>QL _ _ _ _ _ _ (by decide) (by decide)
 refine Qe I _ ⟨f,0,by rw[upto,Qz6],rfl,Qzl _,hf,h38,h39⟩ ?_;clear hf h38 h39;rintro _ st ⟨f,i,rfl,rfl,hi,⟨h2,h3,h4,h7⟩,h38,h39⟩;simp only[H8,NS,h38,h39,Qa,seval];by_cases hlt:i<m.fields.length
 case neg=>
  have e:i=m.fields.length:=by omega
  subst e;simp only[QC hlt,Qa,seval];exact hq _ ⟨(by exact h2),(by exact h3),(by exact h4),(by exact h7)⟩
 obtain⟨x,hx⟩:∃x,m.fields[i]? = some x:=⟨m.fields[i],Qzf hlt⟩;have e1:=Qn i _ hlt (by simp only[maxLen];omega);have hul:=QK (l:=m.fields) (KH S m) i;have hfl:=QvK base 14 1100 (by decide) rfl [] hM S hS m hm i x hx (l++upto m.fields (Jg S m) i) (by rw[QzM];omega) (-1);simp only[SC.av,QT,Xo m]at hfl;simp only[QA hlt,NT,NU,NV,c3,c4,b3,b4,h3,h4,h7,h39,eE,seval];refine Qb hfl (by simp only[QzI,Qz4,Qa,seval]<;>rfl) ?_;simp only[h39,e1,Qa,seval];exact⟨m.fields.length-(i+1),by omega,_,i+1,by rw[XY hx,Qzw],rfl,by omega,⟨(by exact h2),(by exact h3),(by exact h4),(by exact h7)⟩,(by exact h38),(by rfl)⟩

include hM hm in
theorem AB (l:List PB)(hl:l.length≤100000000)(f:Fr)(hf:MF X f)(h53:f 53=.list (m.gone.map AV.str))(h54:f 54=.int .i64 (m.gone.length:Nat))(h55:f 55=.int .i64 0)(Q:Exit→St→Prop)
  (hq:∀f,MF X f→Q (.exit 2) ⟨f,[Qm base 14 1100 m.name (-1) (l++upto m.gone (fun _ g=>pb m.name (-1) (Z2 g) 7) m.gone.length)],[]⟩):QE Tryz.prog (.loop H9) ⟨f,[Qm base 14 1100 m.name (-1) l],[]⟩ Q:=by
 let I:Nat→St→Prop:=fun k st=>∃f i,st=⟨f,[Qm base 14 1100 m.name (-1) (l++upto m.gone (fun _ g=>pb m.name (-1) (Z2 g) 7) i)],[]⟩∧k=m.gone.length-i∧i≤m.gone.length∧MF X f∧f 53=.list (m.gone.map AV.str)∧f 54=.int .i64 (m.gone.length:Nat)∧f 55=.int .i64 (i:Nat)
 have hl1:=hm.len3;refine Qe I _ ⟨f,0,by rw[upto,Qz6],rfl,Qzl _,hf,h53,h54,h55⟩ ?_;clear hf h53 h54 h55;rintro _ st ⟨f,i,rfl,rfl,hi,⟨h2,h3,h4,h7⟩,h53,h54,h55⟩;simp only[H9,DR,h54,h55,Qa,seval];by_cases hlt:i<m.gone.length
 case neg=>
  have e:i=m.gone.length:=by omega
  subst e;simp only[QC hlt,Qa,seval];exact hq _ ⟨(by exact h2),(by exact h3),(by exact h4),(by exact h7)⟩
 obtain⟨x,hx⟩:∃x,m.gone[i]? = some x:=⟨m.gone[i],Qzf hlt⟩;have hg:(m.gone.map AV.str)[i]? = some (.str x):=by rw[QAm,hx];rfl
 have hxl:=hm.gone x (Qzq hx);have e1:=Qn i _ hlt (by simp only[maxLen];omega);have hul:=QK (l:=m.gone) (g:=fun _ g=>pb m.name (-1) (Z2 g) 7) (c:=1) (fun _ g=>QR ..) i;have hfl:=Xt base 14 1100 m.name (-1) (l++upto m.gone (fun _ g=>pb m.name (-1) (Z2 g) 7) i) (by decide) rfl (by rw[QzM];omega) (Z2 x) 7 [];simp only[QA hlt,DS,DT,DU,Qk,QAq,Qc,hg,h7,h53,h55,eE,seval];refine aC (x89 x) ?_
 try simp only[eE,seval]
 refine Qb hfl (by simp only[QzI,Qz4,Qa,seval]<;>rfl) ?_;simp only[h55,e1,Qa,seval];exact⟨m.gone.length-(i+1),by omega,_,i+1,by rw[XY hx,Qzw],rfl,by omega,⟨(by exact h2),(by exact h3),(by exact h4),(by exact h7)⟩,(by exact h53),(by exact h54),(by rfl)⟩

theorem Qo6 (a b:Nat):decide ((if (a:Int)<(b:Int)then(b:Int)else(a:Int))≤16)=(decide (a≤16)&&decide (b≤16)):=by
 rw[QzY,Qzz,QAl,QAl,QAl];split<;>omega
theorem BA (a:Nat):decide ((a:Int)≤64)=decide (a≤64):=(by rw[QzY];simp only[QAl];omega)

include hM hm b4 in
theorem im3 (l:List PB)(hl:l.length≤1000000)(f:Fr)(hf:MF X f)(K:St→Prop)
  (hK:∀f,MF X f→K ⟨f,[Qm base 14 1100 m.name (-1) (l++pb m.name (-1) (decide (m.fields.length≤64)&&decide (m.free.length≤16)&&decide (m.gone.length≤16)) 3)],[]⟩):Ql Tryz.prog H7 ⟨f,[Qm base 14 1100 m.name (-1) l],[]⟩ K:=by
 obtain⟨h2,h3,h4,h7⟩:=hf;have c4:∀n l,Qm base 14 1100 m.name n l 4=base 4:=fun n l=>QL _ _ _ _ _ _ (by decide) (by decide)
 rw[Bool.and_assoc]at hK;simp only[H7,c4,b4,QAo,BA,h4,h7,eE,seval];cases a1:decide (m.fields.length≤64)
 ·rw[a1]at hK;simp only[Qa,seval];refine Qb (Xt base 14 1100 m.name (-1) l (by decide) rfl (by omega) false 3 []) (by simp only[QzI,Qz4,Qa,seval]<;>rfl) ?_;simp only[Qa,seval];exact hK _ ⟨(by exact h2),(by exact h3),(by exact h4),(by exact h7)⟩
 ·rw[a1]at hK;simp only[c4,b4,QAo,Qo6,h4,eE,seval];refine Qb (Xt base 14 1100 m.name (-1) l (by decide) rfl (by omega) (decide (m.free.length≤16)&&decide (m.gone.length≤16)) 3 []) (by simp only[QzI,Qz4,Qa,seval]<;>rfl) ?_;simp only[Qa,seval];exact hK _ ⟨(by exact h2),(by exact h3),(by exact h4),(by exact h7)⟩
end

theorem QvP {M:Nat}(hM:M≤1048576)(S:SC)(hS:S.ok M)(m:SM)(hm:m.ok M)(X:List (List UInt8)):Qu Tryz.prog 102 [S.av,QT m,.mp X (Q8 X)] (.list ((ZO S (fun m=>(XU m).any fun n=>QS S n && !X.contains n) m).map PB.av)):=by
 have hl1:=hm.len1;have hl2:=hm.len2;have hl3:=hm.len3;have hl4:=hm.len4;have hnl:=hm.name;have hcy:=QvN hM S hS X m hm;simp only[SC.av,QT,Xo m]at hcy;refine IU.fn (by simp) ?_;simp only[C9,Ma,NO,NP,SC.av,QT,Xo m,eE,seval];refine Xb rfl rfl rfl rfl ?_;generalize hb:(Qw (Qw Qh 3 _) 4 _:Nat→Ob)=base;have b3:base 3=.cells [.list (S.msgs.map fun n=>.agg n.cells),.list (S.enums.map fun n=>.agg n.cells),.list (S.servs.map fun n=>.agg n.cells)]:=by rw[←hb];exact(by rfl)
 have b4:base 4=.cells [.str m.name,.list (m.fields.map fun n=>.agg n.cells),.list (m.free.map fun n=>.agg n.cells),.list (m.gone.map AV.str),.list (m.notes.map fun n=>.agg n.cells)]:=by rw[←hb];exact(by rfl)
 have c3:∀n l,Qm base 14 1100 m.name n l 3=base 3:=fun n l=>QL _ _ _ _ _ _ (by decide) (by decide)
 have c4:∀n l,Qm base 14 1100 m.name n l 4=base 4:=fun n l=>QL _ _ _ _ _ _ (by decide) (by decide)
 have cs:∀n l,Qm base 14 1100 m.name n l 14=.cells [.str m.name,.int .i64 n,.vec 0 1100 (1+l.length) 0 l.length false]:=fun n l=>Z6 base 14 1100 m.name n l
 have cR:∀n l,Qm base 14 1100 m.name n l 1100=.vec (1+l.length) 3 (l.map PB.av):=fun n l=>JW base 14 1100 m.name n l (by decide)
 rw[Hs base 14 1100 m.name (-1) (by decide)];simp only[NQ,c4,b4,eE,seval];refine aC (Mx m.name (by omega)) ?_
 try simp only[eE,seval]
 refine Qb (Xt base 14 1100 m.name (-1) [] (by decide) rfl (by simp) (Xg m.name) 8 []) (by simp only[QzI,Qz4,Qa,seval]<;>rfl) ?_;simp only[Qzy,Qa,seval];have q1:=QR m.name (-1) (Xg m.name) 8;refine im3 hM m hm X base b4 _ (by omega) _ ⟨(by rfl),(by rfl),(by rfl),(by rfl)⟩ _ (fun f hf=>?_);have q2:=Qr q1 m.name (-1) (decide (m.fields.length≤64)&&decide (m.free.length≤16)&&decide (m.gone.length≤16)) 3;obtain⟨h2,h3,h4,h7⟩:=hf;simp only[NR,c4,b4,QAo,h4,eE,seval];refine Cr hM S hS m hm X base b3 b4 _ (by omega) _ ⟨(by exact h2),(by exact h3),(by exact h4),(by exact h7)⟩ (by rfl) (by rfl) _ (fun f hf=>?_);clear h2 h3 h4 h7;have q3:=QK (l:=m.fields) (KH S m) m.fields.length;obtain⟨h2,h3,h4,h7⟩:=hf;simp only[NW,c4,b4,h4,h7,eE,seval];have hsp:=RM base 14 1100 m.name (pb m.name (-1) (Xg m.name) 8++pb m.name (-1) (decide (m.fields.length≤64)&&decide (m.free.length≤16)&&decide (m.gone.length≤16)) 3++upto m.fields (Jg S m) m.fields.length) (by decide) rfl 1 65535 m.free (by omega) [] (by rw[QzM];omega);refine Qb hsp (by simp only[QzI,Qz4,Qa,seval]<;>rfl) ?_;simp only[DQ,c4,b4,QAo,h4,eE,seval];have q4:=QK (l:=m.free) (Ji m.name 1 65535 m.free) m.free.length;have q5:(pb m.name (-1) (Xg m.name) 8++pb m.name (-1) (decide (m.fields.length≤64)&&decide (m.free.length≤16)&&decide (m.gone.length≤16)) 3++upto m.fields (Jg S m) m.fields.length++upto m.free (Ju m.name 1 65535 m.free) m.free.length).length≤99000000:=by
  rw[QzM,QzM];omega
 refine AB hM m hm X base _ (by omega) _ ⟨(by exact h2),(by exact h3),(by exact h4),(by exact h7)⟩ (by rfl) (by rfl) (by rfl) _ (fun f hf=>?_);clear h2 h3 h4 h7;have q6:=QK (l:=m.gone) (g:=fun _ g=>pb m.name (-1) (Z2 g) 7) (c:=1) (fun _ g=>QR ..) m.gone.length;generalize hL:pb m.name (-1) (Xg m.name) 8++pb m.name (-1) (decide (m.fields.length≤64)&&decide (m.free.length≤16)&&decide (m.gone.length≤16)) 3++upto m.fields (Jg S m) m.fields.length++upto m.free (Ju m.name 1 65535 m.free) m.free.length++upto m.gone (fun _ g=>pb m.name (-1) (Z2 g) 7) m.gone.length=L;have q7:L.length≤101000000:=by
  rw[←hL,QzM];omega
 obtain⟨h2,h3,h4,h7⟩:=hf;simp only[DV,c4,b4,h4,h7,eE,seval];refine Qb (Y8 base 14 1100 m.name (-1) L (by decide) rfl (by omega) [] m.notes (by simp only[maxLen];omega) hm.notes 1 (by decide)) (by simp only[QzI,Qz4,Qa,seval]<;>rfl) ?_;have q8:(L++Xl m.name (-1) m.notes 1).length≤101000001:=Qr q7 _ _ _ _;simp only[DW,c3,c4,b3,b4,h2,h3,h4,h7,eE,seval];refine aC hcy ?_;simp only[Qa,seval];refine Qb (Xt base 14 1100 m.name (-1) (L++Xl m.name (-1) m.notes 1) (by decide) rfl (by omega) _ 19 []) (by simp only[QzI,Qz4,Qa,seval]<;>rfl) ?_;have hfin:ZO S (fun m=>(XU m).any fun n=>QS S n && !X.contains n) m=L++Xl m.name (-1) m.notes 1++pb m.name (-1) (!(XU m).any fun n=>QS S n && !X.contains n) 19:=by rw[←hL];rfl
 rw[←hfin];have ht:∀l:List PB,List.take l.length (List.map PB.av l)=List.map PB.av l:=fun l=>QzJ (by rw[QAo];exact Qzc _)
 simp only[DX,cs,cR,h7,QAo,QzQ,ht,QzB,Qzc,Qz7,QAc,AV.un,eE,seval]

end Go.Proofs.YtaiflhahcglpgaaGreatDoor.Va

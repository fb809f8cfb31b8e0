/- Parts of the proof, in order. -/
import Derived.Lib.IndexLaws
import Derived.Test.YtaiflhahcglpgaaGreatDoorMPlanComplete1

namespace Go.Proofs.YtaiflhahcglpgaaGreatDoor.Rc
open Go Am
abbrev QhF:IL:=[je 2]
abbrev QhG:IL:=[ja 5 0,jk 6 0 5,yr 7 6 120]
abbrev QhH:IL:=[je 2]
abbrev QhI:IL:=[zn 3]
abbrev QhJ:IL:=[jd 4 0]
abbrev QhK:IL:=[ja 8 4,ja 9 0,jk 10 0 9,jr 11 8 10]
abbrev QhL:IL:=[ja 14 0,ja 15 4,FB 16 14 15,⟨some 17,.val (.bin .num .neq (.t 16) (.c (.int .u8 46))),none⟩]
abbrev QhM:IL:=[ja 18 3,ja 19 0,ja 20 4,ja 21 4,jn 22 21 1,⟨some 23,.val (.slc none (.t 19) (some (.t 20)) (some (.t 22)) none),none⟩,⟨some 24,.val (.bin .str .add (.t 18) (.t 23)),none⟩,ja 3 24]
abbrev QhN:IL:=[ja 25 3,js 26 170 25,jy 27 26]
abbrev T6:IL:=[je 2]
abbrev T7:IL:=[zn 3]
abbrev QhO:IL:=[ja 12 4,jn 13 12 1,ja 4 13]
abbrev QhP:RC:=.seq (jQ QhK (jX 11 0)) (.seq (.block 1 (.seq (jQ QhL (.cond (.t 17) (jQ QhM (.exit 1)) (.skip))) (.seq (jQ QhN (.cond (.t 27) (jQ T6 (.ret)) (.skip))) (.reg T7)))) (.reg QhO))
abbrev T8:IL:=[ja 28 3,js 29 170 28,ja 2 29]
abbrev Qv2:RC:=jQ QhF (.seq (jQ QhG (.cond (.t 7) (jQ QhH (.ret)) (.skip))) (jQ QhI (.seq (jQ QhJ (.block 0 (.loop QhP))) (jQ T8 (.ret)))))
abbrev Qv3:List RR:=[.tmp 2]
theorem Qv4:CT 167 30 Qv2 Qv3:=ck Tryz.func167 Tryz.ntmps167 (by decide +kernel)
abbrev QhQ:IL:=[zn 2,zn 3]
abbrev QhR:IL:=[ja 5 0,jk 6 0 5,Uf 7 6 1,ja 4 7]
abbrev QhS:IL:=[ja 8 4,yd 9 8 0]
abbrev QhT:IL:=[ja 12 0,ja 13 4,FB 14 12 13,N3 15 14 46]
abbrev QhU:IL:=[ja 16 0,ja 17 4,⟨some 18,.val (.slc none (.t 16) none (some (.t 17)) none),none⟩,ja 19 0,ja 20 4,jn 21 20 1,N2 22 19 21,ja 2 18,ja 3 22]
abbrev QhV:IL:=[ja 10 4,Uf 11 10 1,ja 4 11]
abbrev QhW:RC:=.seq (jQ QhS (jX 9 0)) (.seq (.block 1 (jQ QhT (.cond (.t 15) (jD QhU (.ret)) (.skip)))) (.reg QhV))
abbrev QhX:IL:=[ja 23 0,zn 2,ja 3 23]
abbrev Qv5:RC:=jQ QhQ (.seq (jQ QhR (.block 0 (.loop QhW))) (jQ QhX (.ret)))
abbrev Qv6:List RR:=[.tmp 2,.tmp 3]
theorem Qv7:CT 168 24 Qv5 Qv6:=ck Tryz.func168 Tryz.ntmps168 (by decide +kernel)
abbrev QhY:IL:=[je 2]
abbrev QhZ:IL:=[ja 3 0]
abbrev Qh0:IL:=[⟨some 5,.val (.bin .str .eql (.t 3) (.c (.str [109,101,115,115,97,103,101]))),none⟩,ja 4 5]
abbrev Qh1:IL:=[⟨some 6,.val (.bin .str .eql (.t 3) (.c (.str [101,110,117,109]))),none⟩,ja 4 6]
abbrev Qh2:IL:=[⟨some 7,.val (.bin .str .eql (.t 3) (.c (.str [115,101,114,118,105,99,101]))),none⟩,ja 4 7]
abbrev Qh3:IL:=[⟨some 8,.val (.bin .str .eql (.t 3) (.c (.str [117,110,105,111,110]))),none⟩,ja 4 8]
abbrev Qh4:IL:=[⟨some 9,.val (.bin .str .eql (.t 3) (.c (.str [109,97,112]))),none⟩,ja 4 9]
abbrev Qh5:IL:=[⟨some 10,.val (.bin .str .eql (.t 3) (.c (.str [108,105,115,116]))),none⟩,ja 4 10]
abbrev Qh6:IL:=[⟨some 11,.val (.bin .str .eql (.t 3) (.c (.str [114,101,113,117,105,114,101,100]))),none⟩,ja 4 11]
abbrev Qh7:IL:=[⟨some 12,.val (.bin .str .eql (.t 3) (.c (.str [111,112,116,105,111,110,97,108]))),none⟩,ja 4 12]
abbrev T9:IL:=[⟨some 13,.val (.bin .str .eql (.t 3) (.c (.str [112,108,97,105,110]))),none⟩,ja 4 13]
abbrev Aa:IL:=[⟨some 14,.val (.bin .str .eql (.t 3) (.c (.str [100,101,102,97,117,108,116]))),none⟩,ja 4 14]
abbrev Ab:IL:=[⟨some 15,.val (.bin .str .eql (.t 3) (.c (.str [114,101,115,101,114,118,101,100]))),none⟩,ja 4 15]
abbrev Ac:IL:=[⟨some 16,.val (.bin .str .eql (.t 3) (.c (.str [105,109,112,111,114,116]))),none⟩,ja 4 16]
abbrev Ad:IL:=[⟨some 17,.val (.bin .str .eql (.t 3) (.c (.str [115,112,97,99,101]))),none⟩,ja 4 17]
abbrev Ae:IL:=[⟨some 18,.val (.bin .str .eql (.t 3) (.c (.str [114,112,99]))),none⟩,ja 4 18]
abbrev Af:IL:=[⟨some 19,.val (.bin .str .eql (.t 3) (.c (.str [115,116,114,101,97,109]))),none⟩,ja 4 19]
abbrev Ag:IL:=[⟨some 20,.val (.bin .str .eql (.t 3) (.c (.str [114,101,116,117,114,110,115]))),none⟩,ja 4 20]
abbrev Ah:IL:=[⟨some 21,.val (.bin .str .eql (.t 3) (.c (.str [111,112,101,110]))),none⟩,ja 4 21]
abbrev Ai:IL:=[⟨some 22,.val (.bin .str .eql (.t 3) (.c (.str [116,114,117,101]))),none⟩,ja 4 22]
abbrev Aj:IL:=[⟨some 23,.val (.bin .str .eql (.t 3) (.c (.str [102,97,108,115,101]))),none⟩,ja 4 23]
abbrev Ak:IL:=[⟨some 24,.val (.bin .str .eql (.t 3) (.c (.str [110,97,110]))),none⟩,ja 4 24]
abbrev Al:IL:=[⟨some 25,.val (.bin .str .eql (.t 3) (.c (.str [105,110,102]))),none⟩,ja 4 25]
abbrev An:IL:=[yb 2]
abbrev Ao:IL:=[je 2]
abbrev Qv8:RC:=jQ QhY (.seq (jQ QhZ (.block 0 (.seq (jQ Qh0 (.cond (.t 4) (.skip) (jQ Qh1 (.cond (.t 4) (.skip) (jQ Qh2 (.cond (.t 4) (.skip) (jQ Qh3 (.cond (.t 4) (.skip) (jQ Qh4 (.cond (.t 4) (.skip) (jQ Qh5 (.cond (.t 4) (.skip) (jQ Qh6 (.cond (.t 4) (.skip) (jQ Qh7 (.cond (.t 4) (.skip) (jQ T9 (.cond (.t 4) (.skip) (jQ Aa (.cond (.t 4) (.skip) (jQ Ab (.cond (.t 4) (.skip) (jQ Ac (.cond (.t 4) (.skip) (jQ Ad (.cond (.t 4) (.skip) (jQ Ae (.cond (.t 4) (.skip) (jQ Af (.cond (.t 4) (.skip) (jQ Ag (.cond (.t 4) (.skip) (jQ Ah (.cond (.t 4) (.skip) (jQ Ai (.cond (.t 4) (.skip) (jQ Aj (.cond (.t 4) (.skip) (jQ Ak (.cond (.t 4) (.skip) (.reg Al))))))))))))))))))))))))))))))))))))))))) (.cond (.t 4) (jQ An (.ret)) (.skip))))) (jQ Ao (.ret)))
abbrev Qv9:List RR:=[.tmp 2]
theorem Qwa:CT 169 26 Qv8 Qv9:=ck Tryz.func169 Tryz.ntmps169 (by decide +kernel)
abbrev Qh8:IL:=[je 2]
abbrev Qh9:IL:=[ja 4 0,jk 5 0 4,ju 6 5 0,ja 7 6,jw 8 0 7,yw 9 0 8 7,yy 10 9 40 7,jq 11 7 10,ja 12 11,jw 13 0 12,⟨some 14,.val (.idx (.t 13) (.c (.int .i64 0))),(some (12,false))⟩,zg 15 202 14 12,zf 16 15 12,jw 17 16 12,jh 18 0 17,⟨some 19,.val (.idx (.t 18) (.c (.int .i64 0))),(some (17,true))⟩,HB 20 203 19 17,yx 21 20 17,zo 22 17 21 12,jq 23 12 22]
abbrev Qia:IL:=[je 2]
abbrev Qib:IL:=[jd 3 1]
abbrev Qic:IL:=[ja 24 3,ja 25 0,jk 26 0 25,jr 27 24 26]
abbrev Qid:IL:=[ja 30 0,ja 31 3,FB 32 30 31,js 33 202 32,jy 34 33,ja 35 34,jh 36 0 35,jh 37 3 35,N4 38 36 37 35,HB 39 203 38 35,yx 40 39 35,ji 41 35 40,ja 42 41,jh 43 0 42,jh 44 3 42,N4 45 43 44 42,⟨some 46,.val (.bin .num .neq (.t 45) (.c (.int .u8 95))),(some (42,true))⟩,ji 47 42 46,ja 48 47,jh 49 0 48,jh 50 3 48,N4 51 49 50 48,⟨some 52,.val (.bin .num .lss (.t 51) (.c (.int .u8 48))),(some (48,true))⟩,jh 53 52 48,jw 54 0 53,jw 55 3 53,⟨some 56,.val (.idx (.t 54) (.t 55)),(some (53,false))⟩,⟨some 57,.val (.bin .num .gtr (.t 56) (.c (.int .u8 57))),(some (53,false))⟩,Fu 58 53 57 48,ji 59 48 58]
abbrev Qie:IL:=[je 2]
abbrev Qif:IL:=[ja 28 3,jn 29 28 1,ja 3 29]
abbrev Cx:RC:=.seq (jQ Qic (jX 27 0)) (.seq (.block 1 (jQ Qid (.cond (.t 59) (jQ Qie (.ret)) (.skip)))) (.reg Qif))
abbrev Qig:IL:=[yb 2]
abbrev Qwb:RC:=jQ Qh8 (.seq (jQ Qh9 (.cond (.t 23) (jQ Qia (.ret)) (.skip))) (.seq (jQ Qib (.block 0 (.loop Cx))) (jQ Qig (.ret))))
abbrev Qwc:List RR:=[.tmp 2]
theorem Qwd:CT 170 60 Qwb Qwc:=ck Tryz.func170 Tryz.ntmps170 (by decide +kernel)
abbrev Qih:IL:=[jg 2 2 0,jd 4 0]
abbrev Qii:IL:=[jd 5 0]
abbrev Qij:IL:=[ja 6 5,jb 7 1 2,jc 8 7,jk 9 1 8,jr 10 6 9]
abbrev Qik:IL:=[jb 13 1 2,jc 14 13,ja 15 5,jl 16 5 14 15,jb 17 0 16,jc 18 17,ja 19 1,yf 20 18 19]
abbrev Qil:IL:=[ja 21 5,ja 4 21]
abbrev Qim:IL:=[ja 11 5,jn 12 11 1,ja 5 12]
abbrev Qin:RC:=.seq (jQ Qij (jX 10 0)) (.seq (.block 1 (jQ Qik (.cond (.t 20) (jQ Qil (.ret)) (.skip)))) (.reg Qim))
abbrev Qio:IL:=[jd 4 (-1)]
abbrev Qwe:RC:=jQ Qih (.seq (jQ Qii (.block 0 (.loop Qin))) (jQ Qio (.ret)))
abbrev Qwf:List RR:=[.tmp 4]
theorem Qwg:CT 171 22 Qwe Qwf:=ck Tryz.func171 Tryz.ntmps171 (by decide +kernel)
abbrev Qip:IL:=[jg 2 2 0,jg 3 3 1,je 4]
abbrev Qiq:IL:=[jb 5 0 2,jc 6 5,jb 7 0 3,jc 8 7,zq 9 6 8,ja 10 9,jf 11 1 2 10,jp 12 11 10,jf 13 1 3 10,jp 14 13 10,P5 15 12 14 10,ji 16 10 15,ja 17 16,jf 18 2 2 17,jp 19 18 17,jf 20 2 3 17,jp 21 20 17,HC 22 19 21 17,ji 23 17 22,ja 24 23,jf 25 3 2 24,jp 26 25 24,ya 27 1 26 24,jf 28 4 2 24,jp 29 28 24,ya 30 1 29 24,zi 31 27 30 24,jf 32 5 2 24,jp 33 32 24,ya 34 1 33 24,zi 35 31 34 24,jf 36 6 2 24,jp 37 36 24,ya 38 1 37 24,zi 39 35 38 24,jf 40 3 3 24,jp 41 40 24,ya 42 1 41 24,zi 43 39 42 24,jf 44 4 3 24,jp 45 44 24,ya 46 1 45 24,zi 47 43 46 24,jf 48 5 3 24,jp 49 48 24,ya 50 1 49 24,zi 51 47 50 24,jf 52 6 3 24,jp 53 52 24,ya 54 1 53 24,zi 55 51 54 24,za 56 55 0 24,ji 57 24 56,ja 4 57]
abbrev Qwh:RC:=jQ Qip (jQ Qiq (.ret))
abbrev Qwi:List RR:=[.tmp 4]
theorem Qwj:CT 172 58 Qwh Qwi:=ck Tryz.func172 Tryz.ntmps172 (by decide +kernel)
abbrev Qir:IL:=[jg 3 3 1,je 4]
abbrev Qis:IL:=[ja 6 0,js 7 204 6,jy 8 7,ja 9 8,jm 10 0 3 9,jv 11 10 9,jw 12 0 9,zj 13 11 12 9,jq 14 9 13,ja 15 14,zz 16 7 3 15,zg 17 205 16 15,zf 18 17 15,jq 19 15 18]
abbrev Qit:IL:=[je 4]
abbrev Qiu:IL:=[ja 20 0,js 21 206 20]
abbrev Qiv:IL:=[jb 22 1 3,jc 23 22,HE 24 23 0,ja 25 24,jf 26 2 3 25,jp 27 26 25,ya 28 0 27 25,yn 29 28 4096 25,ji 30 25 29,ja 31 30,jh 32 0 31,za 33 32 8 31,jh 34 33 31,jm 35 2 3 34,jv 36 35 34,zg 37 128 36 34,Fu 38 34 37 31,ji 39 31 38,ja 4 39]
abbrev Qiw:IL:=[jb 40 2 3,jc 41 40,⟨some 42,.val (.bin .str .neq (.t 41) (.c (.str []))),none⟩]
abbrev Qix:IL:=[je 4]
abbrev Qiy:IL:=[ja 43 0]
abbrev Qiz:IL:=[ju 45 43 1,ja 44 45]
abbrev QiA:IL:=[jb 46 1 3,jc 47 46,⟨some 48,.val (.bin .num .leq (.t 47) (.c (.int .u64 1))),none⟩,ja 4 48]
abbrev Ap:IL:=[ju 50 43 2,ja 49 50]
abbrev Aq:IL:=[jb 51 1 3,jc 52 51,⟨some 53,.val (.cvi .i64 (.t 52)),none⟩,ja 5 53]
abbrev Ar:IL:=[ja 54 5,yd 55 54 (-2147483648),ja 56 55,jh 57 5 56,yn 58 57 2147483647 56,ji 59 56 58,ja 4 59]
abbrev As:IL:=[ju 61 43 4,ja 60 61]
abbrev Au:IL:=[jb 62 1 3,jc 63 62,⟨some 64,.val (.bin .num .lss (.t 63) (.c (.int .u64 4294967296))),none⟩,ja 4 64]
abbrev Av:IL:=[ju 66 43 9,ja 65 66]
abbrev Aw:IL:=[jb 67 1 3,jc 68 67,⟨some 69,.val (.bin .num .lss (.t 68) (.c (.int .u64 2147483648))),none⟩,ja 4 69]
abbrev Ax:IL:=[yb 4]
abbrev Qwk:RC:=jQ Qir (.seq (jQ Qis (.cond (.t 19) (jQ Qit (.ret)) (.skip))) (.seq (jQ Qiu (.cond (.t 21) (jQ Qiv (.ret)) (.skip))) (.seq (jQ Qiw (.cond (.t 42) (jQ Qix (.ret)) (.skip))) (.seq (jQ Qiy (.block 0 (jQ Qiz (.cond (.t 44) (jQ QiA (.ret)) (jQ Ap (.cond (.t 49) (jQ Aq (jQ Ar (.ret))) (jQ As (.cond (.t 60) (jQ Au (.ret)) (jQ Av (.cond (.t 65) (jQ Aw (.ret)) (.skip))))))))))) (jQ Ax (.ret))))))
abbrev Qwl:List RR:=[.tmp 4]
theorem Qwm:CT 173 70 Qwk Qwl:=ck Tryz.func173 Tryz.ntmps173 (by decide +kernel)
abbrev QiB:IL:=[jg 1 1 0,Ft 2 2]
abbrev QiC:IL:=[jb 3 0 1,jc 4 3,ju 5 4 6,ja 6 5,jf 7 1 1 6,jp 8 7 6,HB 9 207 8 6,za 10 9 0 6,ji 11 6 10]
abbrev QiD:IL:=[jb 12 1 1,⟨none,.store 1 (.t 12) (.c (.int .u64 9221120237041090560)),none⟩]
abbrev QiE:IL:=[jj 13 7 1,jo 7 2 13]
abbrev Qwn:RC:=jQ QiB (.seq (jQ QiC (.cond (.t 11) (.reg QiD) (.skip))) (jQ QiE (.ret)))
abbrev Qwo:List RR:=[.cell 2 (some 7)]
theorem Qwp:CT 174 14 Qwn Qwo:=ck Tryz.func174 Tryz.ntmps174 (by decide +kernel)
abbrev QiF:IL:=[jd 4 0]
abbrev QiG:IL:=[ja 6 0,jk 7 1 6,yr 8 7 8]
abbrev QiH:IL:=[jd 4 3]
abbrev QiI:IL:=[jd 5 0]
abbrev QiJ:IL:=[ja 9 5,ja 10 0,jk 11 1 10,jr 12 9 11]
abbrev QiK:IL:=[ja 15 0,ja 16 5,jl 17 8 15 16,jb 18 0 17,jc 19 18,js 20 208 19,ju 21 20 0]
abbrev QiL:IL:=[jd 4 8]
abbrev QiM:IL:=[ja 22 0,ja 23 5,jl 24 8 22 23,jb 25 0 24,jc 26 25,ja 27 1,jx 28 209 26 27,jy 29 28]
abbrev QiN:IL:=[jd 4 1]
abbrev Ay:IL:=[ja 30 0,ja 31 5,jl 32 8 30 31,jj 33 8 32,js 34 210 33,jy 35 34]
abbrev Az:IL:=[jd 4 12]
abbrev AA:IL:=[ja 36 5,yr 37 36 0,ja 38 37,jh 39 0 38,jh 40 5 38,yi 41 8 39 40 38,jf 42 0 41 38,yu 43 42 38,jh 44 0 38,jh 45 5 38,GH 46 45 1 38,yi 47 8 44 46 38,jf 48 0 47 38,yu 49 48 38,⟨some 50,.val (.bin .str .lss (.t 43) (.t 49)),(some (38,true))⟩,ji 51 38 50]
abbrev AB:IL:=[jd 4 11]
abbrev AC:IL:=[ja 52 5,yr 53 52 0,ja 54 53,jh 55 0 54,jh 56 5 54,yi 57 8 55 56 54,jf 58 0 57 54,yu 59 58 54,jh 60 0 54,jh 61 5 54,GH 62 61 1 54,yi 63 8 60 62 54,jf 64 0 63 54,yu 65 64 54,HC 66 59 65 54,ji 67 54 66]
abbrev AD:IL:=[jd 4 9]
abbrev QiO:IL:=[ja 13 5,jn 14 13 1,ja 5 14]
abbrev QiP:RC:=.seq (jQ QiJ (jX 12 0)) (.seq (.block 1 (.seq (jQ QiK (.cond (.t 21) (jQ QiL (.ret)) (.skip))) (.seq (jQ QiM (.cond (.t 29) (jQ QiN (.ret)) (.skip))) (.seq (jQ Ay (.cond (.t 35) (jQ Az (.ret)) (.skip))) (.seq (jD AA (.cond (.t 51) (jQ AB (.ret)) (.skip))) (jD AC (.cond (.t 67) (jQ AD (.ret)) (.skip)))))))) (.reg QiO))
abbrev AE:IL:=[jd 4 0]
abbrev Qwq:RC:=jQ QiF (.seq (jQ QiG (.cond (.t 8) (jQ QiH (.ret)) (.skip))) (.seq (jQ QiI (.block 0 (.loop QiP))) (jQ AE (.ret))))
abbrev Qwr:List RR:=[.tmp 4]
theorem Qws:CT 175 68 Qwq Qwr:=ck Tryz.func175 Tryz.ntmps175 (by decide +kernel)
abbrev QiQ:IL:=[jd 2 0]
abbrev QiR:IL:=[jd 3 0]
abbrev QiS:IL:=[ja 5 3,ja 6 0,jk 7 0 6,jr 8 5 7]
abbrev QiT:IL:=[ja 9 0,ja 10 3,jx 11 211 9 10,ja 4 11]
abbrev QiU:IL:=[ja 12 4,ju 13 12 0]
abbrev QiV:IL:=[ja 14 3,ja 2 14]
abbrev QiW:IL:=[ja 15 3,ja 16 4,zp 17 15 16,ja 3 17]
abbrev QiX:RC:=.seq (jQ QiS (jX 8 0)) (.block 1 (jQ QiT (.seq (jQ QiU (.cond (.t 13) (jQ QiV (.ret)) (.skip))) (.reg QiW))))
abbrev QiY:IL:=[jd 2 (-1)]
abbrev Qwt:RC:=jQ QiQ (.seq (jQ QiR (.block 0 (.loop QiX))) (jQ QiY (.ret)))
abbrev Qwu:List RR:=[.tmp 2]
theorem Qwv:CT 176 18 Qwt Qwu:=ck Tryz.func176 Tryz.ntmps176 (by decide +kernel)
abbrev QiZ:IL:=[jd 4 0]
abbrev Qi0:IL:=[ja 6 0,jk 7 1 6,jd 8 0]
abbrev Qi1:IL:=[jr 9 8 7]
abbrev Qi2:IL:=[ja 10 8,ja 5 10]
abbrev Qi3:IL:=[ja 11 1,ja 12 0,ja 13 5,jl 14 3 12 13,jj 15 3 14,zv 16 11 15]
abbrev Qi4:IL:=[ja 17 5,ja 4 17]
abbrev Qi5:IL:=[jn 18 8 1,ja 8 18]
abbrev Qi6:RC:=jQ Qi1 (.seq (jX 9 0) (.seq (.block 1 (jQ Qi2 (jQ Qi3 (.cond (.t 16) (jQ Qi4 (.ret)) (.skip))))) (.reg Qi5)))
abbrev Qi7:IL:=[jd 4 (-1)]
abbrev Qww:RC:=jQ QiZ (.seq (jQ Qi0 (.block 0 (.loop Qi6))) (jQ Qi7 (.ret)))
abbrev Qwx:List RR:=[.tmp 4]
theorem Qwy:CT 177 19 Qww Qwx:=ck Tryz.func177 Tryz.ntmps177 (by decide +kernel)
abbrev Qi8:IL:=[jd 4 0]
abbrev Qi9:IL:=[ja 6 0,jk 7 1 6,jd 8 0]
abbrev Qja:IL:=[jr 9 8 7]
abbrev Qjb:IL:=[ja 10 8,ja 5 10]
abbrev Qjc:IL:=[ja 11 1,ja 12 0,ja 13 5,jl 14 8 12 13,jj 15 8 14,zv 16 11 15]
abbrev Qjd:IL:=[ja 17 5,ja 4 17]
abbrev Qje:IL:=[jn 18 8 1,ja 8 18]
abbrev Qjf:RC:=jQ Qja (.seq (jX 9 0) (.seq (.block 1 (jQ Qjb (jQ Qjc (.cond (.t 16) (jQ Qjd (.ret)) (.skip))))) (.reg Qje)))
abbrev Qjg:IL:=[jd 4 (-1)]
abbrev Qwz:RC:=jQ Qi8 (.seq (jQ Qi9 (.block 0 (.loop Qjf))) (jQ Qjg (.ret)))
abbrev QwA:List RR:=[.tmp 4]
theorem QwB:CT 180 19 Qwz QwA:=ck Tryz.func180 Tryz.ntmps180 (by decide +kernel)
abbrev Qjh:IL:=[jd 4 0]
abbrev Qji:IL:=[ja 6 0,jk 7 1 6,jd 8 0]
abbrev Qjj:IL:=[jr 9 8 7]
abbrev Qjk:IL:=[ja 10 8,ja 5 10]
abbrev Qjl:IL:=[ja 11 1,ja 12 0,ja 13 5,jl 14 3 12 13,jj 15 3 14,zv 16 11 15]
abbrev Qjm:IL:=[ja 17 5,ja 4 17]
abbrev Qjn:IL:=[jn 18 8 1,ja 8 18]
abbrev Qjo:RC:=jQ Qjj (.seq (jX 9 0) (.seq (.block 1 (jQ Qjk (jQ Qjl (.cond (.t 16) (jQ Qjm (.ret)) (.skip))))) (.reg Qjn)))
abbrev Qjp:IL:=[jd 4 (-1)]
abbrev QwC:RC:=jQ Qjh (.seq (jQ Qji (.block 0 (.loop Qjo))) (jQ Qjp (.ret)))
abbrev QwD:List RR:=[.tmp 4]
theorem Qjq:CT 182 19 QwC QwD:=ck Tryz.func182 Tryz.ntmps182 (by decide +kernel)
abbrev Qjr:IL:=[jg 2 2 0,je 3]
abbrev Qjs:IL:=[jb 4 0 2,jc 5 4,jc 6 1,⟨some 7,.val (.bin .num .leq (.t 5) (.t 6)),none⟩,ja 8 7,jp 9 1 8,jf 10 1 2 8,jp 11 10 8,Ug 12 9 11 8,ji 13 8 12,ja 3 13]
abbrev QwE:RC:=jQ Qjr (jQ Qjs (.ret))
abbrev QwF:List RR:=[.tmp 3]
theorem QwG:CT 184 14 QwE QwF:=ck Tryz.func184 Tryz.ntmps184 (by decide +kernel)
abbrev Qjt:IL:=[je 6]
abbrev Qju:IL:=[ja 7 2,⟨some 8,.val (.bin .num .eql (.t 7) (.c (.int .i32 65533))),none⟩,ja 9 8,jh 10 0 9,jh 11 1 9,⟨some 12,.val (.slc none (.t 10) (some (.t 11)) none none),(some (9,true))⟩,⟨some 13,.call (.f 216) [(.t 12),(.c (.str [239,191,189]))],(some (9,true))⟩,yx 14 13 9,ji 15 9 14,ja 6 15]
abbrev QwH:RC:=jQ Qjt (jQ Qju (.ret))
abbrev QwI:List RR:=[.tmp 6]
theorem QwJ:CT 185 16 QwH QwI:=ck Tryz.func185 Tryz.ntmps185 (by decide +kernel)
abbrev Qjv:IL:=[⟨some 0,.val (.mov (.c (.nilm))),none⟩]
abbrev Qjw:IL:=[⟨some 1,.mkm 1,none⟩,⟨some 2,.val (.build [.int .i64 0,.int .i64 0] [(0,1,(.c (.int .i64 1))),(1,1,(.c (.int .i64 126)))]),none⟩,⟨none,.mput (.t 1) (.c (.str [100,101,112,114,101,99,97,116,101,100])) (.t 2),none⟩,⟨some 3,.val (.build [.int .i64 0,.int .i64 0] [(0,1,(.c (.int .i64 7))),(1,1,(.c (.int .i64 126)))]),none⟩,⟨none,.mput (.t 1) (.c (.str [100,111,99])) (.t 3),none⟩,⟨some 4,.val (.build [.int .i64 0,.int .i64 0] [(0,1,(.c (.int .i64 7))),(1,1,(.c (.int .i64 84)))]),none⟩,⟨none,.mput (.t 1) (.c (.str [97,108,105,97,115])) (.t 4),none⟩,⟨some 5,.val (.build [.int .i64 0,.int .i64 0] [(0,1,(.c (.int .i64 4))),(1,1,(.c (.int .i64 84)))]),none⟩,⟨none,.mput (.t 1) (.c (.str [115,105,110,99,101])) (.t 5),none⟩,⟨some 6,.val (.build [.int .i64 0,.int .i64 0] [(0,1,(.c (.int .i64 4))),(1,1,(.c (.int .i64 84)))]),none⟩,⟨none,.mput (.t 1) (.c (.str [117,110,116,105,108])) (.t 6),none⟩,⟨some 7,.val (.build [.int .i64 0,.int .i64 0] [(0,1,(.c (.int .i64 3))),(1,1,(.c (.int .i64 4)))]),none⟩,⟨none,.mput (.t 1) (.c (.str [109,105,110])) (.t 7),none⟩,⟨some 8,.val (.build [.int .i64 0,.int .i64 0] [(0,1,(.c (.int .i64 3))),(1,1,(.c (.int .i64 4)))]),none⟩,⟨none,.mput (.t 1) (.c (.str [109,97,120])) (.t 8),none⟩,⟨some 9,.val (.build [.int .i64 0,.int .i64 0] [(0,1,(.c (.int .i64 4))),(1,1,(.c (.int .i64 4)))]),none⟩,⟨none,.mput (.t 1) (.c (.str [108,101,110,103,116,104])) (.t 9),none⟩,⟨some 10,.val (.build [.int .i64 0,.int .i64 0] [(0,1,(.c (.int .i64 1))),(1,1,(.c (.int .i64 4)))]),none⟩,⟨none,.mput (.t 1) (.c (.str [115,101,99,114,101,116])) (.t 10),none⟩,⟨some 11,.val (.build [.int .i64 0,.int .i64 0] [(0,1,(.c (.int .i64 1))),(1,1,(.c (.int .i64 64)))]),none⟩,⟨none,.mput (.t 1) (.c (.str [105,100,101,109,112,111,116,101,110,116])) (.t 11),none⟩,⟨some 12,.val (.build [.int .i64 0,.int .i64 0] [(0,1,(.c (.int .i64 4))),(1,1,(.c (.int .i64 64)))]),none⟩,⟨none,.mput (.t 1) (.c (.str [116,105,109,101,111,117,116])) (.t 12),none⟩,⟨some 13,.val (.build [.int .i64 0,.int .i64 0] [(0,1,(.c (.int .i64 7))),(1,1,(.c (.int .i64 64)))]),none⟩,⟨none,.mput (.t 1) (.c (.str [114,111,117,116,101])) (.t 13),none⟩,⟨some 14,.val (.build [.int .i64 0,.int .i64 0] [(0,1,(.c (.int .i64 7))),(1,1,(.c (.int .i64 34)))]),none⟩,⟨none,.mput (.t 1) (.c (.str [111,119,110,101,114])) (.t 14),none⟩,ja 15 1,ja 0 15]
abbrev M9:RC:=jQ Qjv (jQ Qjw (.ret))
abbrev Pa:List RR:=[.tmp 0]
theorem Qjx:CT 186 16 M9 Pa:=ck Tryz.func186 Tryz.ntmps186 (by decide +kernel)
abbrev Qjy:IL:=[jg 1 1 0,je 2]
abbrev Qjz:IL:=[jb 4 0 1,jc 5 4,js 6 217 5,ja 3 6]
abbrev QjA:IL:=[ja 7 3,yo 8 7 0,ja 9 8,jh 10 3 9,jf 11 1 1 9,Fv 12 7 11 9,Fs 13 218 10 12 9,ji 14 9 13,ja 2 14]
abbrev QwK:RC:=jQ Qjy (jQ Qjz (jQ QjA (.ret)))
abbrev QwL:List RR:=[.tmp 2]
theorem QjB:CT 187 15 QwK QwL:=ck Tryz.func187 Tryz.ntmps187 (by decide +kernel)
abbrev QjC:IL:=[jg 1 1 0,zn 2]
abbrev QjD:IL:=[jb 3 1 1,jc 4 3,ja 2 4]
abbrev QwM:RC:=jQ QjC (jQ QjD (.ret))
abbrev QwN:List RR:=[.tmp 2]
theorem QwO:CT 190 5 QwM QwN:=ck Tryz.func190 Tryz.ntmps190 (by decide +kernel)
abbrev QjE:IL:=[je 4]
abbrev QjF:IL:=[jj 8 3 1,ja 9 0,jx 10 148 8 9,ja 7 10,jz 11 7 0,jz 12 7 1,ze 5 5,jo 5 5 11,ja 6 12]
abbrev QjG:IL:=[ja 13 6,ja 14 13,jp 15 2 14,jh 16 0 14,⟨some 17,.val (.mget false (.bool false) (.t 15) (.t 16)),(some (14,true))⟩,yx 18 17 14,ji 19 14 18,ja 4 19]
abbrev QwP:RC:=jQ QjE (jQ QjF (jQ QjG (.ret)))
abbrev QwQ:List RR:=[.tmp 4]
theorem QwR:CT 195 20 QwP QwQ:=ck Tryz.func195 Tryz.ntmps195 (by decide +kernel)
abbrev QjH:IL:=[jg 4 4 0,je 5]
abbrev QjI:IL:=[jc 6 1,yj 7 0 4 3 4,HD 8 6 7,jc 9 1,jc 10 2,jc 11 3,jl 12 3 10 11,ym 13 3 12,HD 14 9 13,yf 15 8 14,ja 5 15]
abbrev QwS:RC:=jQ QjH (jD QjI (.ret))
abbrev QwT:List RR:=[.tmp 5]
theorem QwU:CT 196 16 QwS QwT:=ck Tryz.func196 Tryz.ntmps196 (by decide +kernel)
abbrev QjJ:IL:=[je 2]
abbrev QjK:IL:=[ja 3 0,N5 4 3 97,ja 5 4,jh 6 0 5,N6 7 6 122 5,ji 8 5 7,ja 2 8]
abbrev QwV:RC:=jQ QjJ (jQ QjK (.ret))
abbrev QwW:List RR:=[.tmp 2]
theorem QwX:CT 202 9 QwV QwW:=ck Tryz.func202 Tryz.ntmps202 (by decide +kernel)
abbrev QjL:IL:=[je 2]
abbrev QjM:IL:=[ja 3 0,N5 4 3 65,ja 5 4,jh 6 0 5,N6 7 6 90 5,ji 8 5 7,ja 2 8]
abbrev QwY:RC:=jQ QjL (jQ QjM (.ret))
abbrev QwZ:List RR:=[.tmp 2]
theorem Qw0:CT 203 9 QwY QwZ:=ck Tryz.func203 Tryz.ntmps203 (by decide +kernel)
abbrev QjN:IL:=[je 2]
abbrev QjO:IL:=[ja 3 0,yd 4 3 1,ja 5 4,jh 6 0 5,yn 7 6 9 5,ji 8 5 7,ja 2 8]
abbrev Qw1:RC:=jQ QjN (jQ QjO (.ret))
abbrev Qw2:List RR:=[.tmp 2]
theorem Qw3:CT 204 9 Qw1 Qw2:=ck Tryz.func204 Tryz.ntmps204 (by decide +kernel)
abbrev QjP:IL:=[jg 1 1 0,je 2]
abbrev QjQ:IL:=[jb 3 3 1,jc 4 3,jk 5 1 4,ju 6 5 0,ja 7 6,jf 8 4 1 7,jp 9 8 7,ya 10 1 9 7,za 11 10 0 7,ji 12 7 11,ja 13 12,jf 14 5 1 13,jp 15 14 13,ya 16 1 15 13,za 17 16 0 13,ji 18 13 17,ja 19 18,jf 20 6 1 19,jp 21 20 19,ya 22 1 21 19,za 23 22 0 19,ji 24 19 23,ja 2 24]
abbrev Qw4:RC:=jQ QjP (jQ QjQ (.ret))
abbrev Qw5:List RR:=[.tmp 2]
theorem Qw6:CT 205 25 Qw4 Qw5:=ck Tryz.func205 Tryz.ntmps205 (by decide +kernel)
abbrev QjR:IL:=[je 2]
abbrev QjS:IL:=[ja 3 0,ju 4 3 7,ja 5 4,jw 6 0 5,zl 7 6 8 5,jq 8 5 7,ja 2 8]
abbrev Qw7:RC:=jQ QjR (jQ QjS (.ret))
abbrev Qw8:List RR:=[.tmp 2]
theorem Qw9:CT 206 9 Qw7 Qw8:=ck Tryz.func206 Tryz.ntmps206 (by decide +kernel)
abbrev QjT:IL:=[jd 2 0]
abbrev QjU:IL:=[ja 4 0,⟨some 5,.val (.bin .num .rem (.t 4) (.c (.int .u64 9223372036854775808))),none⟩,ja 3 5]
abbrev QjV:IL:=[ja 7 3,⟨some 8,.val (.bin .num .gtr (.t 7) (.c (.int .u64 9218868437227405312))),none⟩,ja 6 8]
abbrev QjW:IL:=[jd 2 0]
abbrev QjX:IL:=[ja 10 3,HE 11 10 9218868437227405312,ja 9 11]
abbrev QjY:IL:=[jd 2 1]
abbrev QjZ:IL:=[ja 13 3,HE 14 13 0,ja 12 14]
abbrev Qj0:IL:=[jd 2 2]
abbrev Qj1:IL:=[ja 16 3,⟨some 17,.val (.bin .num .lss (.t 16) (.c (.int .u64 4503599627370496))),none⟩,ja 15 17]
abbrev Qj2:IL:=[jd 2 3]
abbrev AG:IL:=[jd 2 4]
abbrev Qxa:RC:=jQ QjT (jQ QjU (.seq (.block 0 (jQ QjV (.cond (.t 6) (jQ QjW (.ret)) (jQ QjX (.cond (.t 9) (jQ QjY (.ret)) (jQ QjZ (.cond (.t 12) (jQ Qj0 (.ret)) (jQ Qj1 (.cond (.t 15) (jQ Qj2 (.ret)) (.skip)))))))))) (jQ AG (.ret))))
abbrev Qxb:List RR:=[.tmp 2]
theorem Qxc:CT 207 18 Qxa Qxb:=ck Tryz.func207 Tryz.ntmps207 (by decide +kernel)
abbrev Qj3:IL:=[jd 2 0]
abbrev Qj4:IL:=[ja 3 0]
abbrev Qj5:IL:=[⟨some 5,.val (.bin .str .eql (.t 3) (.c (.str [100,101,112,114,101,99,97,116,101,100]))),none⟩,ja 4 5]
abbrev Qj6:IL:=[⟨some 6,.val (.bin .str .eql (.t 3) (.c (.str [115,101,99,114,101,116]))),none⟩,ja 4 6]
abbrev Qj7:IL:=[⟨some 7,.val (.bin .str .eql (.t 3) (.c (.str [105,100,101,109,112,111,116,101,110,116]))),none⟩,ja 4 7]
abbrev Qj8:IL:=[jd 2 1]
abbrev Qj9:IL:=[⟨some 9,.val (.bin .str .eql (.t 3) (.c (.str [100,111,99]))),none⟩,ja 8 9]
abbrev Qka:IL:=[⟨some 10,.val (.bin .str .eql (.t 3) (.c (.str [97,108,105,97,115]))),none⟩,ja 8 10]
abbrev Qkb:IL:=[⟨some 11,.val (.bin .str .eql (.t 3) (.c (.str [114,111,117,116,101]))),none⟩,ja 8 11]
abbrev Qkc:IL:=[⟨some 12,.val (.bin .str .eql (.t 3) (.c (.str [111,119,110,101,114]))),none⟩,ja 8 12]
abbrev AH:IL:=[jd 2 7]
abbrev AI:IL:=[⟨some 14,.val (.bin .str .eql (.t 3) (.c (.str [115,105,110,99,101]))),none⟩,ja 13 14]
abbrev AJ:IL:=[⟨some 15,.val (.bin .str .eql (.t 3) (.c (.str [117,110,116,105,108]))),none⟩,ja 13 15]
abbrev AK:IL:=[⟨some 16,.val (.bin .str .eql (.t 3) (.c (.str [108,101,110,103,116,104]))),none⟩,ja 13 16]
abbrev AL:IL:=[⟨some 17,.val (.bin .str .eql (.t 3) (.c (.str [116,105,109,101,111,117,116]))),none⟩,ja 13 17]
abbrev AM:IL:=[jd 2 4]
abbrev AN:IL:=[⟨some 19,.val (.bin .str .eql (.t 3) (.c (.str [109,105,110]))),none⟩,ja 18 19]
abbrev AO:IL:=[⟨some 20,.val (.bin .str .eql (.t 3) (.c (.str [109,97,120]))),none⟩,ja 18 20]
abbrev AP:IL:=[jd 2 3]
abbrev AQ:IL:=[jd 2 0]
abbrev Qkd:RC:=jQ Qj3 (.seq (jQ Qj4 (.block 0 (.seq (jQ Qj5 (.cond (.t 4) (.skip) (jQ Qj6 (.cond (.t 4) (.skip) (.reg Qj7))))) (.cond (.t 4) (jQ Qj8 (.ret)) (.seq (jQ Qj9 (.cond (.t 8) (.skip) (jQ Qka (.cond (.t 8) (.skip) (jQ Qkb (.cond (.t 8) (.skip) (.reg Qkc))))))) (.cond (.t 8) (jQ AH (.ret)) (.seq (jQ AI (.cond (.t 13) (.skip) (jQ AJ (.cond (.t 13) (.skip) (jQ AK (.cond (.t 13) (.skip) (.reg AL))))))) (.cond (.t 13) (jQ AM (.ret)) (.seq (jQ AN (.cond (.t 18) (.skip) (.reg AO))) (.cond (.t 18) (jQ AP (.ret)) (.skip))))))))))) (jQ AQ (.ret)))
abbrev Qke:List RR:=[.tmp 2]
theorem Qkf:CT 208 21 Qkd Qke:=ck Tryz.func208 Tryz.ntmps208 (by decide +kernel)
abbrev Qkg:IL:=[je 4]
abbrev Qkh:IL:=[ja 5 0]
abbrev Qki:IL:=[⟨some 7,.val (.bin .str .eql (.t 5) (.c (.str [100,101,112,114,101,99,97,116,101,100]))),none⟩,ja 6 7]
abbrev Qkj:IL:=[⟨some 8,.val (.bin .str .eql (.t 5) (.c (.str [100,111,99]))),none⟩,ja 6 8]
abbrev Qkk:IL:=[ja 9 1,yd 10 9 1,ja 11 10,jh 12 1 11,yn 13 12 6 11,ji 14 11 13,ja 4 14]
abbrev Qkl:IL:=[⟨some 16,.val (.bin .str .eql (.t 5) (.c (.str [97,108,105,97,115]))),none⟩,ja 15 16]
abbrev Qkm:IL:=[⟨some 17,.val (.bin .str .eql (.t 5) (.c (.str [115,105,110,99,101]))),none⟩,ja 15 17]
abbrev Qkn:IL:=[⟨some 18,.val (.bin .str .eql (.t 5) (.c (.str [117,110,116,105,108]))),none⟩,ja 15 18]
abbrev Qko:IL:=[ja 19 1,ju 20 19 2,ja 21 20,jw 22 1 21,zl 23 22 4 21,jq 24 21 23,ja 25 24,jw 26 1 25,zl 27 26 6 25,jq 28 25 27,ja 4 28]
abbrev Qkp:IL:=[⟨some 30,.val (.bin .str .eql (.t 5) (.c (.str [109,105,110]))),none⟩,ja 29 30]
abbrev AT:IL:=[⟨some 31,.val (.bin .str .eql (.t 5) (.c (.str [109,97,120]))),none⟩,ja 29 31]
abbrev AU:IL:=[⟨some 32,.val (.bin .str .eql (.t 5) (.c (.str [108,101,110,103,116,104]))),none⟩,ja 29 32]
abbrev AW:IL:=[⟨some 33,.val (.bin .str .eql (.t 5) (.c (.str [115,101,99,114,101,116]))),none⟩,ja 29 33]
abbrev AX:IL:=[ja 34 1,ju 35 34 2,ja 4 35]
abbrev AY:IL:=[⟨some 37,.val (.bin .str .eql (.t 5) (.c (.str [105,100,101,109,112,111,116,101,110,116]))),none⟩,ja 36 37]
abbrev AZ:IL:=[⟨some 38,.val (.bin .str .eql (.t 5) (.c (.str [116,105,109,101,111,117,116]))),none⟩,ja 36 38]
abbrev A1:IL:=[⟨some 39,.val (.bin .str .eql (.t 5) (.c (.str [114,111,117,116,101]))),none⟩,ja 36 39]
abbrev A2:IL:=[ja 40 1,ju 41 40 6,ja 4 41]
abbrev A3:IL:=[ja 42 1,ju 43 42 1,ja 44 43,jw 45 1 44,zl 46 45 5 44,jq 47 44 46,ja 4 47]
abbrev Qkq:RC:=jQ Qkg (.seq (jQ Qkh (.block 0 (.seq (jQ Qki (.cond (.t 6) (.skip) (.reg Qkj))) (.cond (.t 6) (jQ Qkk (.ret)) (.seq (jQ Qkl (.cond (.t 15) (.skip) (jQ Qkm (.cond (.t 15) (.skip) (.reg Qkn))))) (.cond (.t 15) (jQ Qko (.ret)) (.seq (jQ Qkp (.cond (.t 29) (.skip) (jQ AT (.cond (.t 29) (.skip) (jQ AU (.cond (.t 29) (.skip) (.reg AW))))))) (.cond (.t 29) (jQ AX (.ret)) (.seq (jQ AY (.cond (.t 36) (.skip) (jQ AZ (.cond (.t 36) (.skip) (.reg A1))))) (.cond (.t 36) (jQ A2 (.ret)) (.skip))))))))))) (jQ A3 (.ret)))
abbrev Qkr:List RR:=[.tmp 4]
theorem Qxd:CT 209 48 Qkq Qkr:=ck Tryz.func209 Tryz.ntmps209 (by decide +kernel)
abbrev Qks:IL:=[jg 1 1 0,je 2]
abbrev Qkt:IL:=[jb 4 0 1,jc 5 4,js 6 208 5,ja 3 6]
abbrev Qku:IL:=[ja 7 3,yo 8 7 0,ja 9 8,jf 10 1 1 9,jf 11 0 10 9,jp 12 11 9,jh 13 3 9,P5 14 12 13 9,ji 15 9 14,ja 16 15,jh 17 3 16,jf 18 1 1 16,Fv 19 7 18 16,Fs 20 173 17 19 16,ji 21 16 20,ja 2 21]
abbrev Qxe:RC:=jQ Qks (jQ Qkt (jQ Qku (.ret)))
abbrev Qxf:List RR:=[.tmp 2]
theorem Qxg:CT 210 22 Qxe Qxf:=ck Tryz.func210 Tryz.ntmps210 (by decide +kernel)
def Cy:IL:=[jd 4 0]
def Cz:IL:=[ja 6 0,ja 7 1,FB 8 6 7,ja 5 8]
def CA:IL:=[ja 10 5,⟨some 11,.val (.bin .num .lss (.t 10) (.c (.int .u8 128))),none⟩,ja 9 11]
def CB:IL:=[jd 4 1]
def Dz:IL:=[ja 13 5,N5 14 13 194,ja 15 14,jh 16 5 15,N6 17 16 223 15,ji 18 15 17,ja 19 18,jh 20 0 19,jh 21 1 19,zs 22 21 1 19,GI 23 231 20 22 1 19,ji 24 19 23,ja 12 24]
def CC:IL:=[jd 4 2]
def DA:IL:=[ja 26 5,N3 27 26 224,ja 28 27,jh 29 0 28,jh 30 1 28,zs 31 30 1 28,⟨some 32,.call (.f 232) [(.t 29),(.t 31),(.c (.int .u8 160)),(.c (.int .u8 191))],(some (28,true))⟩,ji 33 28 32,ja 34 33,jh 35 0 34,jh 36 1 34,zs 37 36 2 34,GI 38 231 35 37 1 34,ji 39 34 38,ja 25 39]
def CD:IL:=[jd 4 3]
def DB:IL:=[ja 41 5,N3 42 41 237,ja 43 42,jh 44 0 43,jh 45 1 43,zs 46 45 1 43,⟨some 47,.call (.f 232) [(.t 44),(.t 46),(.c (.int .u8 128)),(.c (.int .u8 159))],(some (43,true))⟩,ji 48 43 47,ja 49 48,jh 50 0 49,jh 51 1 49,zs 52 51 2 49,GI 53 231 50 52 1 49,ji 54 49 53,ja 40 54]
def CE:IL:=[jd 4 3]
def UZ:IL:=[ja 56 5,N5 57 56 225,ja 58 57,jh 59 5 58,N6 60 59 239 58,ji 61 58 60,ja 62 61,jh 63 5 62,⟨some 64,.val (.bin .num .neq (.t 63) (.c (.int .u8 237))),(some (62,true))⟩,ji 65 62 64,ja 66 65,jh 67 0 66,jh 68 1 66,zs 69 68 1 66,GI 70 231 67 69 2 66,ji 71 66 70,ja 55 71]
def FX:IL:=[jd 4 3]
def U0:IL:=[ja 73 5,N3 74 73 240,ja 75 74,jh 76 0 75,jh 77 1 75,zs 78 77 1 75,⟨some 79,.call (.f 232) [(.t 76),(.t 78),(.c (.int .u8 144)),(.c (.int .u8 191))],(some (75,true))⟩,ji 80 75 79,ja 81 80,jh 82 0 81,jh 83 1 81,zs 84 83 2 81,GI 85 231 82 84 2 81,ji 86 81 85,ja 72 86]
def FY:IL:=[jd 4 4]
def U1:IL:=[ja 88 5,N5 89 88 241,ja 90 89,jh 91 5 90,N6 92 91 243 90,ji 93 90 92,ja 94 93,jh 95 0 94,jh 96 1 94,zs 97 96 1 94,GI 98 231 95 97 3 94,ji 99 94 98,ja 87 99]
def FZ:IL:=[jd 4 4]
def U2:IL:=[ja 101 5,N3 102 101 244,ja 103 102,jh 104 0 103,jh 105 1 103,zs 106 105 1 103,⟨some 107,.call (.f 232) [(.t 104),(.t 106),(.c (.int .u8 128)),(.c (.int .u8 143))],(some (103,true))⟩,ji 108 103 107,ja 109 108,jh 110 0 109,jh 111 1 109,zs 112 111 2 109,GI 113 231 110 112 2 109,ji 114 109 113,ja 100 114]
def F0:IL:=[jd 4 4]
def F1:IL:=[jd 4 0]
def Qkv:RC:=jQ Cy (jQ Cz (.seq (.block 0 (jQ CA (.cond (.t 9) (jQ CB (.ret)) (jQ Dz (.cond (.t 12) (jQ CC (.ret)) (jQ DA (.cond (.t 25) (jQ CD (.ret)) (jQ DB (.cond (.t 40) (jQ CE (.ret)) (jQ UZ (.cond (.t 55) (jQ FX (.ret)) (jQ U0 (.cond (.t 72) (jQ FY (.ret)) (jQ U1 (.cond (.t 87) (jQ FZ (.ret)) (jQ U2 (.cond (.t 100) (jQ F0 (.ret)) (.skip)))))))))))))))))) (jQ F1 (.ret))))
def Qkw:List RR:=[.tmp 4]
theorem Qxh:CT 211 115 Qkv Qkw:=ck Tryz.func211 Tryz.ntmps211 (by decide +kernel)
abbrev Qkx:IL:=[jd 4 0]
abbrev Qky:IL:=[ja 5 0,ja 6 1,jx 7 236 5 6,ja 4 7]
abbrev Qxi:RC:=jQ Qkx (jQ Qky (.ret))
abbrev Qxj:List RR:=[.tmp 4]
theorem Qxk:CT 214 8 Qxi Qxj:=ck Tryz.func214 Tryz.ntmps214 (by decide +kernel)
abbrev Qkz:IL:=[je 4]
abbrev QkA:IL:=[ja 5 0,ja 6 1,jx 7 237 5 6,ja 4 7]
abbrev Qxl:RC:=jQ Qkz (jQ QkA (.ret))
abbrev Qxm:List RR:=[.tmp 4]
theorem Qxn:CT 216 8 Qxl Qxm:=ck Tryz.func216 Tryz.ntmps216 (by decide +kernel)
abbrev QkB:IL:=[jd 2 0]
abbrev QkC:IL:=[⟨some 3,.call (.f 186) [],none⟩,ja 4 0,⟨some 5,.val (.mget false (.agg [.int .i64 0,.int .i64 0]) (.t 3) (.t 4)),none⟩,⟨some 6,.val (.fld 0 none (.t 5)),none⟩,ja 2 6]
abbrev Qxo:RC:=jQ QkB (jQ QkC (.ret))
abbrev Qxp:List RR:=[.tmp 2]
theorem QkD:CT 217 7 Qxo Qxp:=ck Tryz.func217 Tryz.ntmps217 (by decide +kernel)
abbrev QkE:IL:=[jg 3 3 1,je 4]
abbrev QkF:IL:=[ja 5 0,js 6 144 5,jy 7 6,ja 8 7,jm 9 0 3 8,jv 10 9 8,jw 11 0 8,zj 12 10 11 8,jq 13 8 12,ja 14 13,zz 15 7 3 14,zg 16 238 15 14,zf 17 16 14,jq 18 14 17,ja 19 18,jw 20 0 19,jm 21 1 3 19,jv 22 21 19,zx 23 239 20 22 19,zf 24 23 19,jq 25 19 24,ja 26 25,jm 27 2 3 26,jv 28 27 26,yw 29 0 28 26,yy 30 29 4096 26,jq 31 26 30]
abbrev QkG:IL:=[je 4]
abbrev QkH:IL:=[ja 32 0,yo 33 32 7,ja 34 33,jm 35 2 3 34,jv 36 35 34,zg 37 89 36 34,jq 38 34 37,ja 4 38]
abbrev Qxq:RC:=jQ QkE (.seq (jQ QkF (.cond (.t 31) (jQ QkG (.ret)) (.skip))) (jQ QkH (.ret)))
abbrev Qxr:List RR:=[.tmp 4]
theorem Qxs:CT 218 39 Qxq Qxr:=ck Tryz.func218 Tryz.ntmps218 (by decide +kernel)
abbrev QkI:IL:=[jg 4 4 0,je 5]
abbrev QkJ:IL:=[jc 6 1,yj 7 0 4 16 4,HD 8 6 7,jc 9 1,jc 10 2,jc 11 3,jl 12 16 10 11,ym 13 16 12,HD 14 9 13,yf 15 8 14,ja 5 15]
abbrev Qxt:RC:=jQ QkI (jD QkJ (.ret))
abbrev Qxu:List RR:=[.tmp 5]
theorem Qxv:CT 220 16 Qxt Qxu:=ck Tryz.func220 Tryz.ntmps220 (by decide +kernel)
abbrev QkK:IL:=[jg 2 2 0,jg 3 3 1,zm 4 4,je 5]
abbrev QkL:IL:=[jb 7 1 2,jc 8 7,zu 9 241 3,ye 10 107 8 9,ja 6 10]
abbrev QkM:IL:=[ja 11 6,yl 12 11 0]
abbrev QkN:IL:=[⟨some 13,.val (.build [.str [],.bool false,.nils,.nils,.nils] []),none⟩,jo 5 4 13,je 5]
abbrev QkO:IL:=[jb 14 1 2,jc 15 14,ja 16 6,jl 17 5 15 16,jj 18 5 17,jo 5 4 18,yb 5]
abbrev Qxw:RC:=jQ QkK (jQ QkL (.seq (jQ QkM (.cond (.t 12) (jQ QkN (.ret)) (.skip))) (jQ QkO (.ret))))
abbrev Qxx:List RR:=[.cell 4 (some 5),.tmp 5]
theorem Qxy:CT 221 19 Qxw Qxx:=ck Tryz.func221 Tryz.ntmps221 (by decide +kernel)
abbrev QkP:IL:=[jg 2 2 0,je 3]
abbrev QkQ:IL:=[jb 4 1 2,jc 5 4,jb 6 6 1,jc 7 6,yf 8 5 7,ja 3 8]
abbrev Qxz:RC:=jQ QkP (jQ QkQ (.ret))
abbrev QxA:List RR:=[.tmp 3]
theorem QxB:CT 222 9 Qxz QxA:=ck Tryz.func222 Tryz.ntmps222 (by decide +kernel)
abbrev QkR:IL:=[jg 2 2 0,je 3]
abbrev QkS:IL:=[jb 4 6 2,jc 5 4,jb 6 6 1,jc 7 6,yf 8 5 7,ja 3 8]
abbrev QxC:RC:=jQ QkR (jQ QkS (.ret))
abbrev QxD:List RR:=[.tmp 3]
theorem QxE:CT 223 9 QxC QxD:=ck Tryz.func223 Tryz.ntmps223 (by decide +kernel)
abbrev QkT:IL:=[jg 1 1 0,Ft 2 2]
abbrev QkU:IL:=[jb 3 0 1,jc 4 3,ju 5 4 6,ja 6 5,jf 7 1 1 6,jp 8 7 6,HB 9 242 8 6,za 10 9 0 6,ji 11 6 10]
abbrev QkV:IL:=[jb 12 1 1,⟨none,.store 1 (.t 12) (.c (.int .u64 9221120237041090560)),none⟩]
abbrev QkW:IL:=[jj 13 7 1,jo 7 2 13]
abbrev QxF:RC:=jQ QkT (.seq (jQ QkU (.cond (.t 11) (.reg QkV) (.skip))) (jQ QkW (.ret)))
abbrev QxG:List RR:=[.cell 2 (some 7)]
theorem QxH:CT 225 14 QxF QxG:=ck Tryz.func225 Tryz.ntmps225 (by decide +kernel)
abbrev QkX:IL:=[jg 2 2 0,je 3]
abbrev QkY:IL:=[jb 4 1 2,jc 5 4,⟨some 6,.val (.cvi .u64 (.t 5)),none⟩,jb 7 8 1,jb 8 1 7,jc 9 8,zq 10 6 9,ja 3 10]
abbrev QxI:RC:=jQ QkX (jQ QkY (.ret))
abbrev QxJ:List RR:=[.tmp 3]
theorem QxK:CT 226 11 QxI QxJ:=ck Tryz.func226 Tryz.ntmps226 (by decide +kernel)
abbrev QkZ:IL:=[je 6]
abbrev Qk0:IL:=[jd 7 0]
abbrev Qk1:IL:=[ja 8 7,ja 9 2,jr 10 8 9]
abbrev Qk2:IL:=[ja 13 0,ja 14 1,ja 15 7,zp 16 14 15,⟨some 17,.call (.f 232) [(.t 13),(.t 16),(.c (.int .u8 128)),(.c (.int .u8 191))],none⟩,jy 18 17]
abbrev Qk3:IL:=[je 6]
abbrev Qk4:IL:=[ja 11 7,jn 12 11 1,ja 7 12]
abbrev Qk5:RC:=.seq (jQ Qk1 (jX 10 0)) (.seq (.block 1 (jQ Qk2 (.cond (.t 18) (jQ Qk3 (.ret)) (.skip)))) (.reg Qk4))
abbrev Qk6:IL:=[yb 6]
abbrev QxL:RC:=jQ QkZ (.seq (jQ Qk0 (.block 0 (.loop Qk5))) (jQ Qk6 (.ret)))
abbrev QxM:List RR:=[.tmp 6]
theorem QxN:CT 231 19 QxL QxM:=ck Tryz.func231 Tryz.ntmps231 (by decide +kernel)
abbrev Qk7:IL:=[je 8]
abbrev Qk8:IL:=[ja 9 1,ja 10 0,jk 11 0 10,jr 12 9 11,ja 13 12,jh 14 0 13,jh 15 1 13,N4 16 14 15 13,jh 17 2 13,⟨some 18,.val (.bin .num .geq (.t 16) (.t 17)),(some (13,true))⟩,ji 19 13 18,ja 20 19,jh 21 0 20,jh 22 1 20,N4 23 21 22 20,jh 24 3 20,Ug 25 23 24 20,ji 26 20 25,ja 8 26]
abbrev QxO:RC:=jQ Qk7 (jQ Qk8 (.ret))
abbrev QxP:List RR:=[.tmp 8]
theorem QxQ:CT 232 27 QxO QxP:=ck Tryz.func232 Tryz.ntmps232 (by decide +kernel)
def CF:IL:=[jd 4 0]
def CG:IL:=[ja 14 1,jk 15 0 14,ja 5 15]
def CH:IL:=[ja 17 5,ju 18 17 0,ja 19 18,jw 20 1 19,jw 21 0 19,⟨some 22,.val (.bin .str .eql (.t 20) (.t 21)),(some (19,false))⟩,jq 23 19 22,ja 16 23]
def CI:IL:=[jd 4 0]
def CJ:IL:=[ja 25 5,ju 26 25 1,ja 24 26]
def CL:IL:=[ja 27 0,ja 28 1,⟨some 29,.val (.idx (.t 28) (.c (.int .i64 0))),none⟩,jx 30 246 27 29,ja 4 30]
def CM:IL:=[ja 32 5,ja 33 0,jk 34 0 33,⟨some 35,.val (.bin .num .geq (.t 32) (.t 34)),none⟩,ja 31 35]
def CN:IL:=[jd 4 (-1)]
def CO:IL:=[ja 45 0,ja 46 1,jx 47 247 45 46,ja 4 47]
def A4:IL:=[ja 48 1,⟨some 49,.val (.idx (.t 48) (.c (.int .i64 0))),none⟩,ja 6 49]
def A5:IL:=[ja 50 1,⟨some 51,.val (.idx (.t 50) (.c (.int .i64 1))),none⟩,ja 7 51]
def A6:IL:=[jd 8 0]
def A7:IL:=[ja 52 0,jk 53 0 52,ja 54 5,⟨some 55,.val (.bin .num .sub (.t 53) (.t 54)),none⟩,jn 56 55 1,ja 9 56]
def A8:IL:=[jd 10 0]
def A9:IL:=[ja 57 8,ja 58 9,jr 59 57 58]
def Ea:IL:=[ja 60 0,ja 61 8,FB 62 60 61,ja 63 6,⟨some 64,.val (.bin .num .neq (.t 62) (.t 63)),none⟩]
def Eb:IL:=[ja 65 0,ja 66 8,jn 67 66 1,ja 68 9,⟨some 69,.val (.slc none (.t 65) (some (.t 67)) (some (.t 68)) none),none⟩,ja 70 6,jx 71 246 69 70,ja 11 71]
def Ec:IL:=[ja 72 11,yl 73 72 0]
def Ed:IL:=[jd 4 (-1)]
def Ee:IL:=[ja 74 8,ja 75 11,jn 76 75 1,zp 77 74 76,ja 8 77]
def Ef:IL:=[ja 78 0,ja 79 8,jn 80 79 1,FB 81 78 80,ja 82 7,zq 83 81 82,ja 84 83,jh 85 0 84,jh 86 8 84,jh 87 8 84,jh 88 5 84,zi 89 87 88 84,⟨some 90,.val (.slc none (.t 85) (some (.t 86)) (some (.t 89)) none),(some (84,true))⟩,jh 91 1 84,HC 92 90 91 84,ji 93 84 92]
def Eg:IL:=[ja 94 8,ja 4 94]
def Eh:IL:=[ja 95 8,jn 96 95 1,ja 8 96]
def Ei:IL:=[ja 97 10,jn 98 97 1,ja 10 98]
def Ej:IL:=[ja 108 0,ja 109 8,N2 110 108 109,ja 111 1,jx 112 247 110 111,ja 12 112]
def Ek:IL:=[ja 113 12,yd 114 113 0]
def Em:IL:=[ja 115 12,ja 116 8,zp 117 115 116,ja 4 117]
def Eo:IL:=[jd 4 (-1)]
def Ep:IL:=[ja 133 0,ja 134 8,N2 135 133 134,ja 136 1,jx 137 249 135 136,ja 13 137]
def Er:IL:=[ja 138 13,yl 139 138 0]
def Es:IL:=[jd 4 (-1)]
def Et:IL:=[ja 140 8,ja 141 13,zp 142 140 141,ja 4 142]
def Qk9:RC:=.seq (jQ A9 (jX 59 1)) (.block 2 (.seq (jQ Ea (.cond (.t 64) (jQ Eb (.seq (jQ Ec (.cond (.t 73) (jQ Ed (.ret)) (.skip))) (.reg Ee))) (.skip))) (.seq (jQ Ef (.cond (.t 93) (jQ Eg (.ret)) (.skip))) (jQ Eh (jQ Ei (.seq (.no) (.cond (.t 107) (jQ Ej (.seq (jQ Ek (.cond (.t 114) (jQ Em (.ret)) (.skip))) (jQ Eo (.ret)))) (.seq (.no) (.cond (.t 132) (jQ Ep (.seq (jQ Er (.cond (.t 139) (jQ Es (.ret)) (.skip))) (jQ Et (.ret)))) (.skip))))))))))
def Eu:IL:=[jd 4 (-1)]
def Pb:RC:=jQ CF (jQ CG (.seq (.block 0 (jQ CH (.cond (.t 16) (jQ CI (.ret)) (jQ CJ (.cond (.t 24) (jQ CL (.ret)) (jQ CM (.cond (.t 31) (jQ CN (.ret)) (.seq (.no) (.cond (.t 36) (jQ CO (.ret)) (.skip)))))))))) (jQ A4 (jQ A5 (jQ A6 (jQ A7 (jQ A8 (.seq (.block 1 (.loop Qk9)) (jQ Eu (.ret))))))))))
def Qla:List RR:=[.tmp 4]
theorem QxR:CT 236 143 Pb Qla:=ck Tryz.func236 Tryz.ntmps236 (by decide +kernel)
abbrev Qlb:IL:=[je 4]
abbrev Qlc:IL:=[ja 5 0,jk 6 0 5,ja 7 1,jk 8 0 7,⟨some 9,.val (.bin .num .geq (.t 6) (.t 8)),none⟩,ja 10 9,jh 11 0 10,jh 12 1 10,ya 13 0 12 10,⟨some 14,.val (.slc none (.t 11) none (some (.t 13)) none),(some (10,true))⟩,jh 15 1 10,HC 16 14 15 10,ji 17 10 16,ja 4 17]
abbrev QxS:RC:=jQ Qlb (jQ Qlc (.ret))
abbrev QxT:List RR:=[.tmp 4]
theorem QxU:CT 237 18 QxS QxT:=ck Tryz.func237 Tryz.ntmps237 (by decide +kernel)
abbrev Qld:IL:=[jg 1 1 0,je 2]
abbrev Qle:IL:=[jb 3 3 1,jc 4 3,jk 5 1 4,jb 6 4 1,jc 7 6,jk 8 1 7,zp 9 5 8,jb 10 5 1,jc 11 10,jk 12 1 11,zp 13 9 12,jb 14 6 1,jc 15 14,jk 16 1 15,zp 17 13 16,yr 18 17 0]
abbrev Qlf:IL:=[je 2]
abbrev Qlg:IL:=[jb 19 0 1,jc 20 19,js 21 250 20]
abbrev Qlh:IL:=[jb 22 1 1,jc 23 22,HE 24 23 0,ja 2 24]
abbrev Qli:IL:=[jb 25 2 1,jc 26 25,N0 27 26,ja 2 27]
abbrev QxV:RC:=jQ Qld (.seq (jQ Qle (.cond (.t 18) (jQ Qlf (.ret)) (.skip))) (.seq (jQ Qlg (.cond (.t 21) (jQ Qlh (.ret)) (.skip))) (jQ Qli (.ret))))
abbrev QxW:List RR:=[.tmp 2]
theorem QxX:CT 238 28 QxV QxW:=ck Tryz.func238 Tryz.ntmps238 (by decide +kernel)
abbrev Qlj:IL:=[je 4]
abbrev Qlk:IL:=[⟨some 5,.val (.mov (.c (.int .u64 4294967295))),none⟩]
abbrev Qll:IL:=[ja 6 0]
abbrev Qlm:IL:=[ju 8 6 1,ja 7 8]
abbrev Qln:IL:=[ju 10 6 2,ja 9 10]
abbrev Qlo:IL:=[ju 12 6 9,ja 11 12]
abbrev Qlp:IL:=[ju 14 6 4,ja 13 14]
abbrev Qlq:IL:=[ja 15 1,⟨some 16,.val (.bin .num .leq (.t 15) (.c (.int .u64 1))),none⟩,ja 4 16]
abbrev Qlr:IL:=[ja 17 1,⟨some 18,.val (.cvi .i64 (.t 17)),none⟩,yd 19 18 (-2147483648),ja 20 19,jh 21 1 20,⟨some 22,.val (.cvi .i64 (.t 21)),(some (20,true))⟩,yn 23 22 2147483647 20,ji 24 20 23,ja 4 24]
abbrev Qls:IL:=[⟨some 5,.val (.mov (.c (.int .u64 2147483647))),none⟩]
abbrev Ew:IL:=[ja 25 1,ja 26 5,⟨some 27,.val (.bin .num .leq (.t 25) (.t 26)),none⟩,ja 4 27]
abbrev Ex:IL:=[yb 4]
abbrev QxY:RC:=jQ Qlj (jQ Qlk (.seq (jQ Qll (.block 0 (.seq (.block 4 (.seq (.block 3 (.seq (.block 2 (.seq (.block 1 (.seq (.seq (jQ Qlm (.cond (.t 7) (.exit 1) (.skip))) (.seq (jQ Qln (.cond (.t 9) (.exit 2) (.skip))) (.seq (jQ Qlo (.cond (.t 11) (.exit 3) (.skip))) (jQ Qlp (.cond (.t 13) (.exit 4) (.skip)))))) (.exit 0))) (.seq (jQ Qlq (.ret)) (.exit 0)))) (.seq (jQ Qlr (.ret)) (.exit 0)))) (.reg Qls))) (.seq (jQ Ew (.ret)) (.exit 0))))) (jQ Ex (.ret))))
abbrev QxZ:List RR:=[.tmp 4]
theorem Qx0:CT 239 28 QxY QxZ:=ck Tryz.func239 Tryz.ntmps239 (by decide +kernel)
abbrev Qlt:IL:=[jg 2 2 0,je 3]
abbrev Qlu:IL:=[jb 4 0 2,jc 5 4,jc 6 1,yf 7 5 6,ja 3 7]
abbrev Qx1:RC:=jQ Qlt (jQ Qlu (.ret))
abbrev Qx2:List RR:=[.tmp 3]
theorem Qx3:CT 241 8 Qx1 Qx2:=ck Tryz.func241 Tryz.ntmps241 (by decide +kernel)
abbrev Qlv:IL:=[jd 2 0]
abbrev Qlw:IL:=[ja 5 0,⟨some 6,.val (.bin .num .and (.t 5) (.c (.int .u64 9218868437227405312))),none⟩,ja 7 0,⟨some 8,.val (.bin .num .and (.t 7) (.c (.int .u64 4503599627370495))),none⟩,ja 3 6,ja 4 8]
abbrev Qlx:IL:=[ja 10 3,HE 11 10 9218868437227405312,ja 12 11,jh 13 4 12,⟨some 14,.val (.bin .num .neq (.t 13) (.c (.int .u64 0))),(some (12,true))⟩,ji 15 12 14,ja 9 15]
abbrev Qly:IL:=[jd 2 0]
abbrev Qlz:IL:=[ja 17 3,HE 18 17 9218868437227405312,ja 16 18]
abbrev QlA:IL:=[jd 2 1]
abbrev QlB:IL:=[ja 20 3,HE 21 20 0,ja 22 21,jh 23 4 22,⟨some 24,.val (.bin .num .eql (.t 23) (.c (.int .u64 0))),(some (22,true))⟩,ji 25 22 24,ja 19 25]
abbrev QlC:IL:=[jd 2 2]
abbrev QlD:IL:=[ja 27 3,HE 28 27 0,ja 26 28]
abbrev QlE:IL:=[jd 2 3]
abbrev Ey:IL:=[jd 2 4]
abbrev Qx4:RC:=jQ Qlv (.seq (jQ Qlw (.block 0 (jQ Qlx (.cond (.t 9) (jQ Qly (.ret)) (jQ Qlz (.cond (.t 16) (jQ QlA (.ret)) (jQ QlB (.cond (.t 19) (jQ QlC (.ret)) (jQ QlD (.cond (.t 26) (jQ QlE (.ret)) (.skip))))))))))) (jQ Ey (.ret)))
abbrev Qx5:List RR:=[.tmp 2]
theorem Qx6:CT 242 29 Qx4 Qx5:=ck Tryz.func242 Tryz.ntmps242 (by decide +kernel)
abbrev QlF:IL:=[jd 4 0]
abbrev QlG:IL:=[ja 5 0,ja 6 1,⟨some 7,.xb false 262 (.t 5) (.t 6),none⟩,ja 4 7]
abbrev Qx7:RC:=jQ QlF (jQ QlG (.ret))
abbrev Qx8:List RR:=[.tmp 4]
theorem Qx9:CT 246 8 Qx7 Qx8:=ck Tryz.func246 Tryz.ntmps246 (by decide +kernel)
abbrev QlH:IL:=[je 2]
abbrev QlI:IL:=[ja 3 0,ju 4 3 7,ja 5 4,jw 6 0 5,zl 7 6 8 5,jq 8 5 7,ja 2 8]
abbrev Qya:RC:=jQ QlH (jQ QlI (.ret))
abbrev Qyb:List RR:=[.tmp 2]
theorem Qyc:CT 250 9 Qya Qyb:=ck Tryz.func250 Tryz.ntmps250 (by decide +kernel)
end Go.Proofs.YtaiflhahcglpgaaGreatDoor.Rc

set_option linter.unusedSimpArgs false
namespace Go.Proofs.YtaiflhahcglpgaaGreatDoor.Va
open Go Am Rc Bt

def RB (v:AV):Prop:=∃b,v=.bool b
theorem RB.rf {v:AV}{l:List AV}(h:RB v):v.rf=true∧(AV.rfL l=true∨v.nl=true):=by
 obtain⟨b,rfl⟩:=h;exact⟨rfl,.inr rfl⟩

def WL (k:Int):Bool:=decide (k≥1)&&decide (k≤9)
def Kt (k:Int):Bool:=k==7||k==8
theorem Qyd (k:Int):Qr Tryz.prog 204 [.int .i64 k] (.bool (WL k)):=by
 refine Qw3.fn (by simp) ?_;simp only[WL,Qa,seval];cases h:decide (k≥1)<;>simp only[QG0,QGP,Qa,seval]

theorem QlJ (k:Int):Qr Tryz.prog 144 [.int .i64 k] (.bool (WL k)):=by
 refine QvH.fn (by simp) ?_;simp only[WL,Qa,seval];cases h:decide (k≥1)<;>simp only[QG0,QGP,Qa,seval]

theorem Qye (k:Int):Qr Tryz.prog 206 [.int .i64 k] (.bool (Kt k)):=by
 refine Qw9.fn (by simp) ?_;simp only[Kt,Qa,seval];cases h:(k==7)<;>simp only[QG2,QG3,Qa,seval]

theorem Qyf (k:Int):Qr Tryz.prog 250 [.int .i64 k] (.bool (Kt k)):=by
 refine Qyc.fn (by simp) ?_;simp only[Kt,Qa,seval];cases h:(k==7)<;>simp only[QG2,QG3,Qa,seval]

def oc (n:Int)(s a:List UInt8)(c k kd t u:Int):AV:=.agg [.int .i64 n,.str s,.str a,.int .i64 c,.int .i64 k,.int .i64 kd,.int .i64 t,.int .i64 u]

section
variable (n:Int)(s a:List UInt8)(c k kd t u:Int)

end

theorem Qn (i:Nat)(n:Nat)(h:i<n)(hn:n≤maxLen):IntKind.i64.wrap ((i:Int)+1)=((i+1:Nat):Int):=by
 simp only[maxLen]at hn;rw[ZO];omega

theorem Qz {i n:Nat}(h:i<n):decide ((i:Int)<(n:Int))=true:=by simp;omega
theorem QB {i n:Nat}(h:¬i<n):decide ((i:Int)<(n:Int))=false:=by simp;omega
theorem Qj (i:Nat):(0≤(i:Int))=True:=by simp

open Br

def QM {α:Type}(p:α→Bool):List α→Nat→Int
 | [],_=>-1
 |x :: l,i=>if p x=true then(i:Int)else QM p l (i+1)

theorem Xr {α:Type}(p:α→Bool):∀(l:List α) (i:Nat),(QM p l i = -1∧l.find? p=none)∨∃k o,QM p l i=((i+k:Nat):Int)∧l[k]? = some o∧l.find? p=some o
 | [],_=>.inl ⟨rfl,rfl⟩
 |x :: l,i=>by
  unfold QM;rw[List.find?_cons];cases h:p x with
  |true=>exact .inr ⟨0,x,by simp,rfl,rfl⟩
  |false=>
   simp only[QFQ,if_false];rcases Xr p l (i+1)with h'|⟨k,o,h1,h2,h3⟩
   ·exact .inl h'
   ·exact .inr ⟨k+1,o,by rw[h1];congr 1;omega,by simpa using h2,h3⟩

theorem Xj {α:Type}(p:α→Bool){l:List α}{i:Nat}{x:α}(hx:l[i]? = some x):QM p (l.drop i) i=if p x=true then(i:Int)else QM p (l.drop (i+1)) (i+1):=by
 have hlt:i<l.length:=(QFz.1 hx).1;rw[QGc hlt,show l[i]=x from(QFz.1 hx).2];rfl

def Q3 (o:PO):AV:=.agg o.cells
def QR (g:PG):AV:=.agg g.cells
def Xi (x:PI):AV:=.agg x.cells
def Q2 (x:PE):AV:=.agg x.cells

section ops
variable (L:List PO)(hl:L.length≤maxLen)(p:PO→Bool)(c:Nat)(cap:AV)(m:Ql)

end ops

section
variable (o:PO)(fr frO:Nat→Ob)

end

def QH (p:Nat→Bool):Nat→Bool
 |0=>true
 |n+1=>QH p n&&p n

theorem Qq {p:Nat→Bool}{n:Nat}:QH p n=true↔∀i,i<n→p i=true:=by
 induction n with
 |zero=>simp[QH]
 |succ n ih=>
  simp only[QH,QFU,ih]
  constructor
  ·rintro⟨h1,h2⟩ i hi;rcases QG4.1 hi with h|rfl
   ·exact h1 i h
   ·exact h2
  ·intro h;exact⟨fun i hi=>h i (by omega),h n (by omega)⟩

theorem Na {p:Nat→Bool}{n i:Nat}(hi:i<n)(h:p i=false):QH p n=false:=by
 rw[QG5];intro h';rw[Qq.1 h' i hi]at h;cases h

theorem Pd {p q:Nat→Bool}{n:Nat}:QH (fun i=>p i&&q i) n=(QH p n&&QH q n):=by
 induction n with
 |zero=>rfl
 |succ n ih=>
  simp only[QH,ih];cases QH p n<;>cases QH q n<;>cases p n<;>cases q n<;>rfl

theorem Uu {p q:Nat→Bool}{n:Nat}(h:∀i,i<n→p i=q i):QH p n=QH q n:=by
 induction n with
 |zero=>rfl
 |succ n ih=>simp only[QH,ih fun i hi=>h i (by omega),h n (by omega)]

def Su {α:Type}(l:List α)(q:α→Bool)(i:Nat):Bool:=match l[i]? with
 |some x=>q x
 |none=>true

theorem DC {α:Type}{l:List α}{q:α→Bool}{i:Nat}{x:α}(h:l[i]? = some x):Su l q i=q x:=by
 unfold Su;rw[h]

theorem Pe {α:Type}(l:List α)(q:α→Bool):QH (Su l q) l.length=l.all q:=by
 rw[QGj,Qq,QFK]
 constructor
 ·intro h x hx;obtain⟨i,hi⟩:=QFJ.1 hx;have:=h i (QFz.1 hi).1
  rwa [DC hi]at this
 ·intro h i hi;rw[DC (QFA hi)];exact h _ (List.getElem_mem _)

def Zf {α:Type}(l:List α)(lt:α→α→Bool)(i:Nat):Bool:=match i with
 |0=>true
 |k+1=>match l[k]?,l[k+1]? with
  |some x,some y=>lt x y
  |_,_=>true

theorem Zj {α:Type}{l:List α}{lt:α→α→Bool}{k:Nat}{x y:α}(h:l[k]? = some x)(h':l[k+1]? = some y):Zf l lt (k+1)=lt x y:=by
 unfold Zf;simp only[h,h']
theorem Pf {α:Type}{l:List α}{lt:α→α→Bool}:Zf l lt 0=true:=rfl

def Q8 {α:Type}(l:List α)(lt:α→α→Bool):Bool:=QH (Zf l lt) l.length

def uniq {α:Type}(l:List α)(nm:α→List UInt8)(i:Nat):Bool:=match l[i]? with
 |some x=>(l.take i).all fun y=>!(nm y==nm x)
 |none=>true
theorem Kj {α:Type}{l:List α}{nm:α→List UInt8}{i:Nat}{x:α}(h:l[i]? = some x):uniq l nm i=(l.take i).all fun y=>!(nm y==nm x):=by
 unfold uniq;rw[h]
def Jg {α:Type}(l:List α)(nm:α→List UInt8):Bool:=QH (uniq l nm) l.length

theorem DD {α:Type}{l:List α}{q:α→Bool}{i:Nat}{x:α}(h:l[i]? = some x):(l.take (i+1)).all q=((l.take i).all q&&q x):=by
 rw[QGU,h];simp
theorem KV {α:Type}{l:List α}{q:α→Bool}:(l.all fun x=>!q x)=!l.any q:=by
 induction l with
 |nil=>rfl
 |cons x l ih=>simp[ih]

def Jl (c:UInt8):Bool:=(decide (97≤c.toNat)&&decide (c.toNat≤122))||(decide (65≤c.toNat)&&decide (c.toNat≤90))
def ZY (c:UInt8):Bool:=Jl c||c.toNat==95||(decide (48≤c.toNat)&&decide (c.toNat≤57))
def QY:List UInt8→Bool
 | []=>false
 |c :: t=>decide ((c :: t).length≤40)&&Jl c&&t.all ZY
def Wg:List (List UInt8):=[[109,101,115,115,97,103,101],[101,110,117,109],[115,101,114,118,105,99,101],[117,110,105,111,110],[109,97,112],[108,105,115,116],[114,101,113,117,105,114,101,100],[111,112,116,105,111,110,97,108],[112,108,97,105,110],[100,101,102,97,117,108,116],[114,101,115,101,114,118,101,100],
 [105,109,112,111,114,116],[115,112,97,99,101],[114,112,99],[115,116,114,101,97,109],[114,101,116,117,114,110,115],[111,112,101,110],[116,114,117,101],[102,97,108,115,101],[110,97,110],[105,110,102]]
def Zb (s:List UInt8):Bool:=Wg.any fun w=>s==w
def Q7 (s:List UInt8):Bool:=QY s && !Zb s
def Qi:List UInt8→List (List UInt8)
 | []=>[[]]
 |c :: t=>if c=46 then [] :: Qi t else match Qi t with
  | []=>[[c]]
  |p :: ps=>(c :: p) :: ps
def Xe (s:List UInt8):Bool:=decide (s.length≤120)&&(Qi s).all QY && !(Qi s).any Zb

theorem JZ:∀s:List UInt8,Qi s≠[]
 | []=>by simp[Qi]
 |c :: t=>by
  unfold Qi;split
  ·simp
  ·split<;>simp

theorem HF (a:List UInt8):∀s:List UInt8,(∀c∈a,c≠46)→Qi (a++s)=match Qi s with
  | []=>[a]
  |p :: ps=>(a++p) :: ps:=by
 induction a with
 |nil=>intro s _;cases h:Qi s with
  |nil=>exact absurd h (JZ s)
  |cons p ps=>simp[h]
 |cons c a ih=>
  intro s h;have hc:c≠46:=h c (by simp);rw[QFS,Qi,QFE hc,ih s fun x hx=>h x (by simp[hx])];cases hs:Qi s with
  |nil=>exact absurd hs (JZ s)
  |cons p ps=>rfl

theorem KC {s:List UInt8}(h:∀c∈s,c≠46):Qi s=[s]:=by
 have:=HF s [] h
 simpa [Qi]using this

theorem Uv {a t:List UInt8}(h:∀c∈a,c≠46):Qi (a++46 :: t)=a :: Qi t:=by
 rw[HF a _ h,Qi,QFF rfl];simp

theorem Uw {a t:List UInt8}(h:∀c∈t,c≠46):Qi (a++46 :: t)=Qi a++[t]:=by
 induction a with
 |nil=>
  show Qi (46 :: t)=[[]]++[t];rw[show Qi (46 :: t)=[] :: Qi t from by rw[Qi,QFF rfl],KC h];rfl
 |cons c a ih=>
  rw[QFS,Qi,Qi,ih];split
  ·rfl
  ·cases hs:Qi a with
   |nil=>exact absurd hs (JZ a)
   |cons p ps=>rfl

theorem KD (s:List UInt8):(Qi s).length=s.count 46+1:=by
 induction s with
 |nil=>rfl
 |cons c t ih=>
  unfold Qi;split
  ·rename_i h;subst h;simp[ih]
  ·rename_i h;rw[List.count_cons_of_ne (by simpa using h)];cases hs:Qi t with
   |nil=>exact absurd hs (JZ t)
   |cons p ps=>rw[hs]at ih;simpa using ih

def WM (g:PG):Bool:=decide (g.ops.length≤64)
def U3 (e:PE):Bool:=decide (1≤e.items.length)&&decide (e.items.length≤64)&&decide (e.free.length≤16)
def Ux (P:PL):Bool:=decide (P.progs.length≤64)&&decide (P.enums.length≤64)&&P.progs.all WM&&P.enums.all U3
def U4 (g:PG):Bool:=Xe g.name&&g.ops.all fun o=>Q7 o.name
def DE (e:PE):Bool:=Xe e.name&&e.items.all fun o=>Q7 o.name
def F3 (P:PL):Bool:=P.progs.all U4&&P.enums.all DE
def WN {α:Type}(f:α→Int)(x y:α):Bool:=decide (f x<f y)
def ZP {α:Type}(f:α→List UInt8)(x y:α):Bool:=Op.bytesLess (f x) (f y)
def U5 (g:PG):Bool:=Q8 g.ops (WN PO.num)
def DG (e:PE):Bool:=Q8 e.items (WN PI.num)
def F4 (P:PL):Bool:=Q8 P.progs (ZP PG.name)&&Q8 P.enums (ZP PE.name)&&P.progs.all U5&&P.enums.all DG
def YE (P:PL)(g:PG):Bool:=(P.enums.all fun e=>!(e.name==g.name))&&Jg g.ops PO.name
def DH (e:PE):Bool:=Jg e.items PI.name
def F5 (P:PL):Bool:=P.progs.all (YE P)&&P.enums.all DH
def WO (o:PO):Bool:=decide (o.num≥1)&&decide (o.num≤65535)
def spn (x:PS):Bool:=decide (x.lo≥0)&&decide (x.hi≤2147483647)&&decide (x.lo≤x.hi)
def DI (x y:PS):Bool:=decide (y.lo > x.hi)
def kept (l:List PS)(n:Int):Bool:=l.any fun x=>decide (x.lo≤n)&&decide (n≤x.hi)
def U6 (e:PE)(x:PI):Bool:=decide (x.num≤2147483647) && !kept e.free x.num
def Pg (e:PE):Bool:=match e.items with
 | []=>true
 |x :: _=>x.num==0
def WP (e:PE):Bool:=e.free.all spn&&Q8 e.free DI&&Pg e&&e.items.all (U6 e)
def F6 (P:PL):Bool:=P.progs.all (fun g=>g.ops.all WO)&&P.enums.all WP

def QV (x:PS):AV:=.agg x.cells
def Qm (x:List UInt8):AV:=.str x

theorem Zs {α:Type}(p:α→Bool)(l:List α):decide (QM p l 0≥0)=l.any p:=by
 rcases Xr p l 0 with⟨h1,h2⟩|⟨k,o,h1,_,h3⟩
 ·rw[h1];have:l.any p=false:=by
   rw[List.any_eq_false];intro x hx;exact fun h=>by have:=QG6.1 h2 x hx;exact this h
  rw[this];rfl
 ·rw[h1];have:l.any p=true:=QG7.2 ⟨o,QG8 h3,QG9 h3⟩;rw[this];exact QHa (by omega)

theorem ZV (k n:Nat)(h:k+1<n)(hn:n≤maxLen):IntKind.i64.wrap (((k+1:Nat):Int)-1)=(k:Int):=by
 rw[ZO];simp only[maxLen]at hn;omega

section
variable (L:List PG)(hl:L.length≤maxLen)(p:PG→Bool)(c:Nat)(cs:List AV)(m:Ql)

def JxG (k:Nat)(st:St):Prop :=
 ∃f i,st=⟨f,Qc :: m,[]⟩∧k=L.length-i∧QM p L 0=QM p (L.drop i) i∧f 0=.list (L.map QR)∧f 1=.fn (.func c) [] (AV.shL cs)∧f 7=.int .i64 (L.length:Nat)∧f 8=.int .i64 (i:Nat)

include hl in
theorem Qyg (hc:∀o∈L,Qf Tryz.prog c (QR o :: AV.shL cs) (Qc :: m) fun y m1=>y=.bool (p o)∧m1=Qc :: m) :
  Qf Tryz.prog 177 [.list (L.map QR),.fn (.func c) [] cs] m fun y m1=>y=.int .i64 (QM p L 0)∧m1=m:=by
 refine Qwy.go (by simp) ?_;simp only[QGK,Qa,seval];refine Qg (JxG L p c cs m) _ ⟨_,0,rfl,rfl,rfl,(by rfl),(by rfl),(by rfl),(by rfl)⟩ ?_;rintro _ st ⟨f,i,rfl,rfl,hx,h0,h1,h7,h8⟩;simp only[h7,h8,Qa,seval];by_cases hlt:i<L.length
 ·obtain⟨x,hi⟩:∃x,L[i]? = some x:=⟨L[i],QFA hlt⟩;have hcl:=hc x (QFL hi);have hg:(L.map QR)[i]? = some (QR x):=by simp[hi]
  have e1:=Qn i _ hlt hl;simp only[QR,PG.cells]at hcl;simp only[Qz hlt,Qj,QGM,Qe,hg,QR,PG.cells,h0,h1,h8,eE,seval];refine Xb (fa:=[]) (fb:=AV.shL cs) (by rfl) hcl (by simp only[QF3,QGo,QFT,QFS,Qa,seval]) ?_;rw[Xj p hi]at hx;cases hp:p x
  ·rw[hp]at hx;simp only[QFQ,if_false]at hx;simp only[h8,e1,Qa,seval];exact⟨L.length-(i+1),by omega,_,i+1,rfl,rfl,hx,(by exact h0),(by exact h1),(by exact h7),(by rfl)⟩
  ·rw[hp]at hx;simp only[if_true]at hx;simp only[hx,Qa,seval]
 ·have hx':QM p L 0 = -1:=by rw[hx,QF6 (by omega)];rfl
  simp only[QB hlt,hx',Qa,seval]

include hl in
theorem Qyh (hc:∀o∈L,Qf Tryz.prog c (QR o :: AV.shL (AV.shL cs)) (Qc :: Qc :: m) fun y m1=>y=.bool (p o)∧m1=Qc :: Qc :: m) :
  Qf Tryz.prog 130 [.list (L.map QR),.fn (.func c) [] cs] m fun y m1=>y=.bool (L.any p)∧m1=m:=by
 refine Qvk.go (by simp) ?_;simp only[Qa,seval];refine Qb (Qyg L hl p c (AV.shL cs) _ hc) (by simp only[QF3,QGo,Qa,seval]<;>rfl) ?_;simp only[Zs,Qa,seval]

include hl in
theorem F7 (hc:∀o∈L,Qf Tryz.prog c (QR o :: AV.shL (AV.shL (AV.shL cs))) (Qc :: Qc :: Qc :: m) fun y m1=>y=.bool (p o)∧m1=Qc :: Qc :: Qc :: m) :
  Qf Tryz.prog 54 [.list (L.map QR),.fn (.func c) [] cs] m fun y m1=>y=.bool (L.any p)∧m1=m:=by
 refine k54.go (by simp) ?_;simp only[Qa,seval];refine Qb (Qyh L hl p c (AV.shL cs) _ hc) (by simp only[QF3,QGo,Qa,seval]<;>rfl) ?_;simp only[Qa,seval]

end

section
variable (L:List PO)(hl:L.length≤maxLen)(p:PO→Bool)(c:Nat)(cs:List AV)(m:Ql)

def JxO (k:Nat)(st:St):Prop :=
 ∃f i,st=⟨f,Qc :: m,[]⟩∧k=L.length-i∧QM p L 0=QM p (L.drop i) i∧f 0=.list (L.map Q3)∧f 1=.fn (.func c) [] (AV.shL cs)∧f 7=.int .i64 (L.length:Nat)∧f 8=.int .i64 (i:Nat)

include hl in
theorem Qyi (hc:∀o∈L,Qf Tryz.prog c (Q3 o :: AV.shL cs) (Qc :: m) fun y m1=>y=.bool (p o)∧m1=Qc :: m) :
  Qf Tryz.prog 180 [.list (L.map Q3),.fn (.func c) [] cs] m fun y m1=>y=.int .i64 (QM p L 0)∧m1=m:=by
 refine QwB.go (by simp) ?_;simp only[QGK,Qa,seval];refine Qg (JxO L p c cs m) _ ⟨_,0,rfl,rfl,rfl,(by rfl),(by rfl),(by rfl),(by rfl)⟩ ?_;rintro _ st ⟨f,i,rfl,rfl,hx,h0,h1,h7,h8⟩;simp only[h7,h8,Qa,seval];by_cases hlt:i<L.length
 ·obtain⟨x,hi⟩:∃x,L[i]? = some x:=⟨L[i],QFA hlt⟩;have hcl:=hc x (QFL hi);have hg:(L.map Q3)[i]? = some (Q3 x):=by simp[hi]
  have e1:=Qn i _ hlt hl;simp only[Q3,PO.cells]at hcl;simp only[Qz hlt,Qj,QGM,Qe,hg,Q3,PO.cells,h0,h1,h8,eE,seval];refine Xb (fa:=[]) (fb:=AV.shL cs) (by rfl) hcl (by simp only[QF3,QGo,QFT,QFS,Qa,seval]) ?_;rw[Xj p hi]at hx;cases hp:p x
  ·rw[hp]at hx;simp only[QFQ,if_false]at hx;simp only[h8,e1,Qa,seval];exact⟨L.length-(i+1),by omega,_,i+1,rfl,rfl,hx,(by exact h0),(by exact h1),(by exact h7),(by rfl)⟩
  ·rw[hp]at hx;simp only[if_true]at hx;simp only[hx,Qa,seval]
 ·have hx':QM p L 0 = -1:=by rw[hx,QF6 (by omega)];rfl
  simp only[QB hlt,hx',Qa,seval]

include hl in
theorem Qyj (hc:∀o∈L,Qf Tryz.prog c (Q3 o :: AV.shL (AV.shL cs)) (Qc :: Qc :: m) fun y m1=>y=.bool (p o)∧m1=Qc :: Qc :: m) :
  Qf Tryz.prog 136 [.list (L.map Q3),.fn (.func c) [] cs] m fun y m1=>y=.bool (L.any p)∧m1=m:=by
 refine Qvq.go (by simp) ?_;simp only[Qa,seval];refine Qb (Qyi L hl p c (AV.shL cs) _ hc) (by simp only[QF3,QGo,Qa,seval]<;>rfl) ?_;simp only[Zs,Qa,seval]

include hl in
theorem CP (hc:∀o∈L,Qf Tryz.prog c (Q3 o :: AV.shL (AV.shL (AV.shL cs))) (Qc :: Qc :: Qc :: m) fun y m1=>y=.bool (p o)∧m1=Qc :: Qc :: Qc :: m) :
  Qf Tryz.prog 60 [.list (L.map Q3),.fn (.func c) [] cs] m fun y m1=>y=.bool (L.any p)∧m1=m:=by
 refine k60.go (by simp) ?_;simp only[Qa,seval];refine Qb (Qyj L hl p c (AV.shL cs) _ hc) (by simp only[QF3,QGo,Qa,seval]<;>rfl) ?_;simp only[Qa,seval]

end

section
variable (L:List PE)(hl:L.length≤maxLen)(p:PE→Bool)(c:Nat)(cs:List AV)(m:Ql)

def JxE (k:Nat)(st:St):Prop :=
 ∃f i,st=⟨f,Qc :: m,[]⟩∧k=L.length-i∧QM p L 0=QM p (L.drop i) i∧f 0=.list (L.map Q2)∧f 1=.fn (.func c) [] (AV.shL cs)∧f 7=.int .i64 (L.length:Nat)∧f 8=.int .i64 (i:Nat)

include hl in
theorem Qyk (hc:∀o∈L,Qf Tryz.prog c (Q2 o :: AV.shL cs) (Qc :: m) fun y m1=>y=.bool (p o)∧m1=Qc :: m) :
  Qf Tryz.prog 107 [.list (L.map Q2),.fn (.func c) [] cs] m fun y m1=>y=.int .i64 (QM p L 0)∧m1=m:=by
 refine Qfd.go (by simp) ?_;simp only[QGK,Qa,seval];refine Qg (JxE L p c cs m) _ ⟨_,0,rfl,rfl,rfl,(by rfl),(by rfl),(by rfl),(by rfl)⟩ ?_;rintro _ st ⟨f,i,rfl,rfl,hx,h0,h1,h7,h8⟩;simp only[h7,h8,Qa,seval];by_cases hlt:i<L.length
 ·obtain⟨x,hi⟩:∃x,L[i]? = some x:=⟨L[i],QFA hlt⟩;have hcl:=hc x (QFL hi);have hg:(L.map Q2)[i]? = some (Q2 x):=by simp[hi]
  have e1:=Qn i _ hlt hl;simp only[Q2,PE.cells]at hcl;simp only[Qz hlt,Qj,QGM,Qe,hg,Q2,PE.cells,h0,h1,h8,eE,seval];refine Xb (fa:=[]) (fb:=AV.shL cs) (by rfl) hcl (by simp only[QF3,QGo,QFT,QFS,Qa,seval]) ?_;rw[Xj p hi]at hx;cases hp:p x
  ·rw[hp]at hx;simp only[QFQ,if_false]at hx;simp only[h8,e1,Qa,seval];exact⟨L.length-(i+1),by omega,_,i+1,rfl,rfl,hx,(by exact h0),(by exact h1),(by exact h7),(by rfl)⟩
  ·rw[hp]at hx;simp only[if_true]at hx;simp only[hx,Qa,seval]
 ·have hx':QM p L 0 = -1:=by rw[hx,QF6 (by omega)];rfl
  simp only[QB hlt,hx',Qa,seval]

include hl in
theorem Qyl (hc:∀o∈L,Qf Tryz.prog c (Q2 o :: AV.shL (AV.shL cs)) (Qc :: Qc :: m) fun y m1=>y=.bool (p o)∧m1=Qc :: Qc :: m) :
  Qf Tryz.prog 131 [.list (L.map Q2),.fn (.func c) [] cs] m fun y m1=>y=.bool (L.any p)∧m1=m:=by
 refine Qvn.go (by simp) ?_;simp only[Qa,seval];refine Qb (Qyk L hl p c (AV.shL cs) _ hc) (by simp only[QF3,QGo,Qa,seval]<;>rfl) ?_;simp only[Zs,Qa,seval]

include hl in
theorem DJ (hc:∀o∈L,Qf Tryz.prog c (Q2 o :: AV.shL (AV.shL (AV.shL cs))) (Qc :: Qc :: Qc :: m) fun y m1=>y=.bool (p o)∧m1=Qc :: Qc :: Qc :: m) :
  Qf Tryz.prog 56 [.list (L.map Q2),.fn (.func c) [] cs] m fun y m1=>y=.bool (L.any p)∧m1=m:=by
 refine k56.go (by simp) ?_;simp only[Qa,seval];refine Qb (Qyl L hl p c (AV.shL cs) _ hc) (by simp only[QF3,QGo,Qa,seval]<;>rfl) ?_;simp only[Qa,seval]

end

section
variable (L:List PI)(hl:L.length≤maxLen)(p:PI→Bool)(c:Nat)(cs:List AV)(m:Ql)

def JxI (k:Nat)(st:St):Prop :=
 ∃f i,st=⟨f,Qc :: m,[]⟩∧k=L.length-i∧QM p L 0=QM p (L.drop i) i∧f 0=.list (L.map Xi)∧f 1=.fn (.func c) [] (AV.shL cs)∧f 7=.int .i64 (L.length:Nat)∧f 8=.int .i64 (i:Nat)

include hl in
theorem Qym (hc:∀o∈L,Qf Tryz.prog c (Xi o :: AV.shL cs) (Qc :: m) fun y m1=>y=.bool (p o)∧m1=Qc :: m) :
  Qf Tryz.prog 182 [.list (L.map Xi),.fn (.func c) [] cs] m fun y m1=>y=.int .i64 (QM p L 0)∧m1=m:=by
 refine Qjq.go (by simp) ?_;simp only[QGK,Qa,seval];refine Qg (JxI L p c cs m) _ ⟨_,0,rfl,rfl,rfl,(by rfl),(by rfl),(by rfl),(by rfl)⟩ ?_;rintro _ st ⟨f,i,rfl,rfl,hx,h0,h1,h7,h8⟩;simp only[h7,h8,Qa,seval];by_cases hlt:i<L.length
 ·obtain⟨x,hi⟩:∃x,L[i]? = some x:=⟨L[i],QFA hlt⟩;have hcl:=hc x (QFL hi);have hg:(L.map Xi)[i]? = some (Xi x):=by simp[hi]
  have e1:=Qn i _ hlt hl;simp only[Xi,PI.cells]at hcl;simp only[Qz hlt,Qj,QGM,Qe,hg,Xi,PI.cells,h0,h1,h8,eE,seval];refine Xb (fa:=[]) (fb:=AV.shL cs) (by rfl) hcl (by simp only[QF3,QGo,QFT,QFS,Qa,seval]) ?_;rw[Xj p hi]at hx;cases hp:p x
  ·rw[hp]at hx;simp only[QFQ,if_false]at hx;simp only[h8,e1,Qa,seval];exact⟨L.length-(i+1),by omega,_,i+1,rfl,rfl,hx,(by exact h0),(by exact h1),(by exact h7),(by rfl)⟩
  ·rw[hp]at hx;simp only[if_true]at hx;simp only[hx,Qa,seval]
 ·have hx':QM p L 0 = -1:=by rw[hx,QF6 (by omega)];rfl
  simp only[QB hlt,hx',Qa,seval]

include hl in
theorem Qyn (hc:∀o∈L,Qf Tryz.prog c (Xi o :: AV.shL (AV.shL cs)) (Qc :: Qc :: m) fun y m1=>y=.bool (p o)∧m1=Qc :: Qc :: m) :
  Qf Tryz.prog 138 [.list (L.map Xi),.fn (.func c) [] cs] m fun y m1=>y=.bool (L.any p)∧m1=m:=by
 refine QgT.go (by simp) ?_;simp only[Qa,seval];refine Qb (Qym L hl p c (AV.shL cs) _ hc) (by simp only[QF3,QGo,Qa,seval]<;>rfl) ?_;simp only[Zs,Qa,seval]

include hl in
theorem Sv (hc:∀o∈L,Qf Tryz.prog c (Xi o :: AV.shL (AV.shL (AV.shL cs))) (Qc :: Qc :: Qc :: m) fun y m1=>y=.bool (p o)∧m1=Qc :: Qc :: Qc :: m) :
  Qf Tryz.prog 64 [.list (L.map Xi),.fn (.func c) [] cs] m fun y m1=>y=.bool (L.any p)∧m1=m:=by
 refine k64.go (by simp) ?_;simp only[Qa,seval];refine Qb (Qyn L hl p c (AV.shL cs) _ hc) (by simp only[QF3,QGo,Qa,seval]<;>rfl) ?_;simp only[Qa,seval]

end

section
variable (L:List PS)(hl:L.length≤maxLen)(p:PS→Bool)(c:Nat)(cs:List AV)(m:Ql)

def JxS (k:Nat)(st:St):Prop :=
 ∃f i,st=⟨f,Qc :: m,[]⟩∧k=L.length-i∧QM p L 0=QM p (L.drop i) i∧f 0=.list (L.map QV)∧f 1=.fn (.func c) [] (AV.shL cs)∧f 7=.int .i64 (L.length:Nat)∧f 8=.int .i64 (i:Nat)

include hl in
theorem Qyo (hc:∀o∈L,Qf Tryz.prog c (QV o :: AV.shL cs) (Qc :: m) fun y m1=>y=.bool (p o)∧m1=Qc :: m) :
  Qf Tryz.prog 215 [.list (L.map QV),.fn (.func c) [] cs] m fun y m1=>y=.int .i64 (QM p L 0)∧m1=m:=by
 refine Qeg.go (by simp) ?_;simp only[QGK,Qa,seval];refine Qg (JxS L p c cs m) _ ⟨_,0,rfl,rfl,rfl,(by rfl),(by rfl),(by rfl),(by rfl)⟩ ?_;rintro _ st ⟨f,i,rfl,rfl,hx,h0,h1,h7,h8⟩;simp only[h7,h8,Qa,seval];by_cases hlt:i<L.length
 ·obtain⟨x,hi⟩:∃x,L[i]? = some x:=⟨L[i],QFA hlt⟩;have hcl:=hc x (QFL hi);have hg:(L.map QV)[i]? = some (QV x):=by simp[hi]
  have e1:=Qn i _ hlt hl;simp only[QV,PS.cells]at hcl;simp only[Qz hlt,Qj,QGM,Qe,hg,QV,PS.cells,h0,h1,h8,eE,seval];refine Xb (fa:=[]) (fb:=AV.shL cs) (by rfl) hcl (by simp only[QF3,QGo,QFT,QFS,Qa,seval]) ?_;rw[Xj p hi]at hx;cases hp:p x
  ·rw[hp]at hx;simp only[QFQ,if_false]at hx;simp only[h8,e1,Qa,seval];exact⟨L.length-(i+1),by omega,_,i+1,rfl,rfl,hx,(by exact h0),(by exact h1),(by exact h7),(by rfl)⟩
  ·rw[hp]at hx;simp only[if_true]at hx;simp only[hx,Qa,seval]
 ·have hx':QM p L 0 = -1:=by rw[hx,QF6 (by omega)];rfl
  simp only[QB hlt,hx',Qa,seval]

include hl in
theorem Qyp (hc:∀o∈L,Qf Tryz.prog c (QV o :: AV.shL (AV.shL cs)) (Qc :: Qc :: m) fun y m1=>y=.bool (p o)∧m1=Qc :: Qc :: m) :
  Qf Tryz.prog 183 [.list (L.map QV),.fn (.func c) [] cs] m fun y m1=>y=.bool (L.any p)∧m1=m:=by
 refine Qdt.go (by simp) ?_;simp only[Qa,seval];refine Qb (Qyo L hl p c (AV.shL cs) _ hc) (by simp only[QF3,QGo,Qa,seval]<;>rfl) ?_;simp only[Zs,Qa,seval]

end

section
variable (L:List (List UInt8))(hl:L.length≤maxLen)(p:(List UInt8)→Bool)(c:Nat)(cs:List AV)(m:Ql)

def JxR (k:Nat)(st:St):Prop :=
 ∃f i,st=⟨f,Qc :: m,[]⟩∧k=L.length-i∧QM p L 0=QM p (L.drop i) i∧f 0=.list (L.map Qm)∧f 1=.fn (.func c) [] (AV.shL cs)∧f 7=.int .i64 (L.length:Nat)∧f 8=.int .i64 (i:Nat)

include hl in
theorem Qyq (hc:∀o∈L,Qf Tryz.prog c (Qm o :: AV.shL cs) (Qc :: m) fun y m1=>y=.bool (p o)∧m1=Qc :: m) :
  Qf Tryz.prog 178 [.list (L.map Qm),.fn (.func c) [] cs] m fun y m1=>y=.int .i64 (QM p L 0)∧m1=m:=by
 refine QbO.go (by simp) ?_;simp only[QGK,Qa,seval];refine Qg (JxR L p c cs m) _ ⟨_,0,rfl,rfl,rfl,(by rfl),(by rfl),(by rfl),(by rfl)⟩ ?_;rintro _ st ⟨f,i,rfl,rfl,hx,h0,h1,h7,h8⟩;simp only[h7,h8,Qa,seval];by_cases hlt:i<L.length
 ·obtain⟨x,hi⟩:∃x,L[i]? = some x:=⟨L[i],QFA hlt⟩;have hcl:=hc x (QFL hi);have hg:(L.map Qm)[i]? = some (Qm x):=by simp[hi]
  have e1:=Qn i _ hlt hl;simp only[Qm]at hcl;simp only[Qz hlt,Qj,QGM,Qe,hg,Qm,h0,h1,h8,eE,seval];refine Xb (fa:=[]) (fb:=AV.shL cs) (by rfl) hcl (by simp only[QF3,QGo,QFT,QFS,Qa,seval]) ?_;rw[Xj p hi]at hx;cases hp:p x
  ·rw[hp]at hx;simp only[QFQ,if_false]at hx;simp only[h8,e1,Qa,seval];exact⟨L.length-(i+1),by omega,_,i+1,rfl,rfl,hx,(by exact h0),(by exact h1),(by exact h7),(by rfl)⟩
  ·rw[hp]at hx;simp only[if_true]at hx;simp only[hx,Qa,seval]
 ·have hx':QM p L 0 = -1:=by rw[hx,QF6 (by omega)];rfl
  simp only[QB hlt,hx',Qa,seval]

include hl in
theorem DK (hc:∀o∈L,Qf Tryz.prog c (Qm o :: AV.shL (AV.shL cs)) (Qc :: Qc :: m) fun y m1=>y=.bool (p o)∧m1=Qc :: Qc :: m) :
  Qf Tryz.prog 133 [.list (L.map Qm),.fn (.func c) [] cs] m fun y m1=>y=.bool (L.any p)∧m1=m:=by
 refine QaE.go (by simp) ?_;simp only[Qa,seval];refine Qb (Qyq L hl p c (AV.shL cs) _ hc) (by simp only[QF3,QGo,Qa,seval]<;>rfl) ?_;simp only[Zs,Qa,seval]

end

section
variable (L:List PG)(hl:L.length≤maxLen)(lt:PG→PG→Bool)(c:Nat)(cs:List AV)(m:Ql)

def AxG (k:Nat)(st:St):Prop :=
 ∃f i,st=⟨f,Qc :: m,[]⟩∧k=L.length-(i+1)∧QH (Zf L lt) (i+1)=true∧f 0=.list (L.map QR)∧f 1=.fn (.func c) [] (AV.shL cs)∧f 5=.int .i64 ((i+1:Nat):Int)

include hl in
theorem z66 (hc:∀x∈L,∀y∈L,Qf Tryz.prog c (QR x :: QR y :: AV.shL cs) (Qc :: m) fun r m1=>r=.bool (lt x y)∧m1=Qc :: m) :
  Qf Tryz.prog 66 [.list (L.map QR),.fn (.func c) [] cs] m fun y m1=>y=.bool (Q8 L lt)∧m1=m:=by
 refine k66.go (by simp) ?_;simp only[Qa,seval];refine Qg (AxG L lt c cs m) _ ⟨_,0,rfl,rfl,rfl,(by rfl),(by rfl),(by rfl)⟩ ?_;rintro _ st ⟨f,i,rfl,rfl,hx,h0,h1,h5⟩;simp only[QGK,h0,h5,Qa,seval];by_cases hlt:i+1<L.length
 ·obtain⟨x,hi⟩:∃x,L[i]? = some x:=⟨L[i]'(by omega),QFA (by omega)⟩;obtain⟨y,hj⟩:∃y,L[i+1]? = some y:=⟨L[i+1],QFA hlt⟩;have hcl:=hc x (QFL hi) y (QFL hj);have hg:(L.map QR)[i]? = some (QR x):=by simp[hi]
  have hh:(L.map QR)[i+1]? = some (QR y):=by simp[hj]
  have e1:=Qn (i+1) _ hlt hl;have e2:=ZV i _ hlt hl;simp only[QR,PG.cells]at hcl;simp only[Qz hlt,e2,Qj,QGM,Qe,hg,hh,QR,PG.cells,h0,h1,h5,eE,seval];refine Xb (fa:=[]) (fb:=AV.shL cs) (by rfl) hcl (by simp only[QF3,QGo,QFT,QFS,Qa,seval]) ?_;have hs:QH (Zf L lt) (i+2)=lt x y:=by
   show(QH (Zf L lt) (i+1)&&Zf L lt (i+1))=_;rw[hx,Zj hi hj,QG0]
  cases hp:lt x y
  ·rw[hp]at hs;have hf:Q8 L lt=false:=by
    rw[QG5];intro h';rw[Qq.2 fun k hk=>Qq.1 h' k (by omega)]at hs;cases hs
   simp only[hf,Qa,seval]
  ·rw[hp]at hs;simp only[h5,e1,Qa,seval];exact⟨L.length-(i+2),by omega,_,i+1,rfl,rfl,hs,(by exact h0),(by exact h1),(by rfl)⟩
 ·have hf:Q8 L lt=true:=Qq.2 fun k hk=>Qq.1 hx k (by omega)
  simp only[QB hlt,hf,Qa,seval]

end

section
variable (L:List PO)(hl:L.length≤maxLen)(lt:PO→PO→Bool)(c:Nat)(cs:List AV)(m:Ql)

def AxO (k:Nat)(st:St):Prop :=
 ∃f i,st=⟨f,Qc :: m,[]⟩∧k=L.length-(i+1)∧QH (Zf L lt) (i+1)=true∧f 0=.list (L.map Q3)∧f 1=.fn (.func c) [] (AV.shL cs)∧f 5=.int .i64 ((i+1:Nat):Int)

include hl in
theorem z71 (hc:∀x∈L,∀y∈L,Qf Tryz.prog c (Q3 x :: Q3 y :: AV.shL cs) (Qc :: m) fun r m1=>r=.bool (lt x y)∧m1=Qc :: m) :
  Qf Tryz.prog 71 [.list (L.map Q3),.fn (.func c) [] cs] m fun y m1=>y=.bool (Q8 L lt)∧m1=m:=by
 refine k71.go (by simp) ?_;simp only[Qa,seval];refine Qg (AxO L lt c cs m) _ ⟨_,0,rfl,rfl,rfl,(by rfl),(by rfl),(by rfl)⟩ ?_;rintro _ st ⟨f,i,rfl,rfl,hx,h0,h1,h5⟩;simp only[QGK,h0,h5,Qa,seval];by_cases hlt:i+1<L.length
 ·obtain⟨x,hi⟩:∃x,L[i]? = some x:=⟨L[i]'(by omega),QFA (by omega)⟩;obtain⟨y,hj⟩:∃y,L[i+1]? = some y:=⟨L[i+1],QFA hlt⟩;have hcl:=hc x (QFL hi) y (QFL hj);have hg:(L.map Q3)[i]? = some (Q3 x):=by simp[hi]
  have hh:(L.map Q3)[i+1]? = some (Q3 y):=by simp[hj]
  have e1:=Qn (i+1) _ hlt hl;have e2:=ZV i _ hlt hl;simp only[Q3,PO.cells]at hcl;simp only[Qz hlt,e2,Qj,QGM,Qe,hg,hh,Q3,PO.cells,h0,h1,h5,eE,seval];refine Xb (fa:=[]) (fb:=AV.shL cs) (by rfl) hcl (by simp only[QF3,QGo,QFT,QFS,Qa,seval]) ?_;have hs:QH (Zf L lt) (i+2)=lt x y:=by
   show(QH (Zf L lt) (i+1)&&Zf L lt (i+1))=_;rw[hx,Zj hi hj,QG0]
  cases hp:lt x y
  ·rw[hp]at hs;have hf:Q8 L lt=false:=by
    rw[QG5];intro h';rw[Qq.2 fun k hk=>Qq.1 h' k (by omega)]at hs;cases hs
   simp only[hf,Qa,seval]
  ·rw[hp]at hs;simp only[h5,e1,Qa,seval];exact⟨L.length-(i+2),by omega,_,i+1,rfl,rfl,hs,(by exact h0),(by exact h1),(by rfl)⟩
 ·have hf:Q8 L lt=true:=Qq.2 fun k hk=>Qq.1 hx k (by omega)
  simp only[QB hlt,hf,Qa,seval]

end

section
variable (L:List PE)(hl:L.length≤maxLen)(lt:PE→PE→Bool)(c:Nat)(cs:List AV)(m:Ql)

def AxE (k:Nat)(st:St):Prop :=
 ∃f i,st=⟨f,Qc :: m,[]⟩∧k=L.length-(i+1)∧QH (Zf L lt) (i+1)=true∧f 0=.list (L.map Q2)∧f 1=.fn (.func c) [] (AV.shL cs)∧f 5=.int .i64 ((i+1:Nat):Int)

include hl in
theorem z68 (hc:∀x∈L,∀y∈L,Qf Tryz.prog c (Q2 x :: Q2 y :: AV.shL cs) (Qc :: m) fun r m1=>r=.bool (lt x y)∧m1=Qc :: m) :
  Qf Tryz.prog 68 [.list (L.map Q2),.fn (.func c) [] cs] m fun y m1=>y=.bool (Q8 L lt)∧m1=m:=by
 refine k68.go (by simp) ?_;simp only[Qa,seval];refine Qg (AxE L lt c cs m) _ ⟨_,0,rfl,rfl,rfl,(by rfl),(by rfl),(by rfl)⟩ ?_;rintro _ st ⟨f,i,rfl,rfl,hx,h0,h1,h5⟩;simp only[QGK,h0,h5,Qa,seval];by_cases hlt:i+1<L.length
 ·obtain⟨x,hi⟩:∃x,L[i]? = some x:=⟨L[i]'(by omega),QFA (by omega)⟩;obtain⟨y,hj⟩:∃y,L[i+1]? = some y:=⟨L[i+1],QFA hlt⟩;have hcl:=hc x (QFL hi) y (QFL hj);have hg:(L.map Q2)[i]? = some (Q2 x):=by simp[hi]
  have hh:(L.map Q2)[i+1]? = some (Q2 y):=by simp[hj]
  have e1:=Qn (i+1) _ hlt hl;have e2:=ZV i _ hlt hl;simp only[Q2,PE.cells]at hcl;simp only[Qz hlt,e2,Qj,QGM,Qe,hg,hh,Q2,PE.cells,h0,h1,h5,eE,seval];refine Xb (fa:=[]) (fb:=AV.shL cs) (by rfl) hcl (by simp only[QF3,QGo,QFT,QFS,Qa,seval]) ?_;have hs:QH (Zf L lt) (i+2)=lt x y:=by
   show(QH (Zf L lt) (i+1)&&Zf L lt (i+1))=_;rw[hx,Zj hi hj,QG0]
  cases hp:lt x y
  ·rw[hp]at hs;have hf:Q8 L lt=false:=by
    rw[QG5];intro h';rw[Qq.2 fun k hk=>Qq.1 h' k (by omega)]at hs;cases hs
   simp only[hf,Qa,seval]
  ·rw[hp]at hs;simp only[h5,e1,Qa,seval];exact⟨L.length-(i+2),by omega,_,i+1,rfl,rfl,hs,(by exact h0),(by exact h1),(by rfl)⟩
 ·have hf:Q8 L lt=true:=Qq.2 fun k hk=>Qq.1 hx k (by omega)
  simp only[QB hlt,hf,Qa,seval]

end

section
variable (L:List PI)(hl:L.length≤maxLen)(lt:PI→PI→Bool)(c:Nat)(cs:List AV)(m:Ql)

def AxI (k:Nat)(st:St):Prop :=
 ∃f i,st=⟨f,Qc :: m,[]⟩∧k=L.length-(i+1)∧QH (Zf L lt) (i+1)=true∧f 0=.list (L.map Xi)∧f 1=.fn (.func c) [] (AV.shL cs)∧f 5=.int .i64 ((i+1:Nat):Int)

include hl in
theorem z74 (hc:∀x∈L,∀y∈L,Qf Tryz.prog c (Xi x :: Xi y :: AV.shL cs) (Qc :: m) fun r m1=>r=.bool (lt x y)∧m1=Qc :: m) :
  Qf Tryz.prog 74 [.list (L.map Xi),.fn (.func c) [] cs] m fun y m1=>y=.bool (Q8 L lt)∧m1=m:=by
 refine k74.go (by simp) ?_;simp only[Qa,seval];refine Qg (AxI L lt c cs m) _ ⟨_,0,rfl,rfl,rfl,(by rfl),(by rfl),(by rfl)⟩ ?_;rintro _ st ⟨f,i,rfl,rfl,hx,h0,h1,h5⟩;simp only[QGK,h0,h5,Qa,seval];by_cases hlt:i+1<L.length
 ·obtain⟨x,hi⟩:∃x,L[i]? = some x:=⟨L[i]'(by omega),QFA (by omega)⟩;obtain⟨y,hj⟩:∃y,L[i+1]? = some y:=⟨L[i+1],QFA hlt⟩;have hcl:=hc x (QFL hi) y (QFL hj);have hg:(L.map Xi)[i]? = some (Xi x):=by simp[hi]
  have hh:(L.map Xi)[i+1]? = some (Xi y):=by simp[hj]
  have e1:=Qn (i+1) _ hlt hl;have e2:=ZV i _ hlt hl;simp only[Xi,PI.cells]at hcl;simp only[Qz hlt,e2,Qj,QGM,Qe,hg,hh,Xi,PI.cells,h0,h1,h5,eE,seval];refine Xb (fa:=[]) (fb:=AV.shL cs) (by rfl) hcl (by simp only[QF3,QGo,QFT,QFS,Qa,seval]) ?_;have hs:QH (Zf L lt) (i+2)=lt x y:=by
   show(QH (Zf L lt) (i+1)&&Zf L lt (i+1))=_;rw[hx,Zj hi hj,QG0]
  cases hp:lt x y
  ·rw[hp]at hs;have hf:Q8 L lt=false:=by
    rw[QG5];intro h';rw[Qq.2 fun k hk=>Qq.1 h' k (by omega)]at hs;cases hs
   simp only[hf,Qa,seval]
  ·rw[hp]at hs;simp only[h5,e1,Qa,seval];exact⟨L.length-(i+2),by omega,_,i+1,rfl,rfl,hs,(by exact h0),(by exact h1),(by rfl)⟩
 ·have hf:Q8 L lt=true:=Qq.2 fun k hk=>Qq.1 hx k (by omega)
  simp only[QB hlt,hf,Qa,seval]

end

def cl (c:Nat):Int:=if 97≤c∧c≤122 then 1 else if 65≤c∧c≤90 then 2 else if 48≤c∧c≤57 then 3 else if c=95 then 4 else 0

theorem Qyr (c:Nat):Qr Tryz.prog 181 [.int .i32 (c:Nat)] (.int .i64 (cl c)):=by
 refine Qd4.fn (by simp) ?_;simp only[Qa,seval]
 repeat' (first|(refine XW (fun h=>?_) (fun h=>?_)<;>simp only[h,Qa,seval])|(refine Zy (fun h=>?_) (fun h=>?_)<;>simp only[h,Qk,Qa,seval])|(refine Zz (fun h=>?_) (fun h=>?_)<;>simp only[h,Qk,eE,seval]))
 all_goals((try simp only[QGH,QHb,QFV,QHc,ne_eq]at *)<;>unfold cl<;>(repeat' split)<;>first|rfl|(exfalso;omega))

theorem Nb {s:List UInt8}{i:Nat}{c:UInt8}(h:s[i]? = some c):(c.toNat<128→Xl s i=(c.toNat,1))∧(128≤c.toNat→128≤(Xl s i).1):=by
 have g0:(⟨⟨s⟩⟩:ByteArray).get! (i+0)=c:=by
  show(⟨s⟩:Array UInt8)[i+0]! = c;simp[h]
 constructor
 ·intro hc;simp only[Xl,Utf8.decode,g0];rw[QFF hc]
 ·intro hc;simp only[Xl,Utf8.decode,g0];rw[QFE (by omega)]
  (repeat' split)<;>simp only[ge_iff_le,QFU,QGH,Utf8.runeError]at *<;>omega

def pq (s:List UInt8)(j:Nat):Bool:=match s[j]? with
 |some c=>if j=0 then Jl c else ZY c
 |none=>true
theorem KE {s:List UInt8}{j:Nat}{c:UInt8}(h:s[j]? = some c):pq s j=if j=0 then Jl c else ZY c:=by
 unfold pq;rw[h]

theorem DL {c:UInt8}(h:Jl c=true):ZY c=true:=by unfold ZY;rw[h];rfl

theorem J6 (s:List UInt8):QY s=(decide (1≤s.length)&&decide (s.length≤40)&&QH (pq s) s.length):=by
 cases s with
 |nil=>rfl
 |cons c t=>
  have h1:decide (1≤(c :: t).length)=true:=by simp
  rw[h1,QG0];show(decide ((c :: t).length≤40)&&Jl c&&t.all ZY)=_;rw[Bool.and_assoc];congr 1
  rw[QGj,QFU,Qq,QFK]
  constructor
  ·rintro⟨h2,h3⟩ i hi;cases i with
   |zero=>rw[KE (c:=c) rfl,QFF rfl];exact h2
   |succ i=>
    have hlt:i<t.length:=by simpa using hi
    rw[KE (c:=t[i]) (by simp[QFA hlt]),QFE (by omega)];exact h3 _ (List.getElem_mem _)
  ·intro h;refine⟨?_,fun x hx=>?_⟩
   ·have:=h 0 (by simp)
    rwa [KE (c:=c) rfl,QFF rfl]at this
   ·obtain⟨i,hi⟩:=QFJ.1 hx;have hlt:=(QFz.1 hi).1;have:=h (i+1) (by simpa using hlt)
    rwa [KE (c:=x) (by simpa using hi),QFE (by omega)]at this

theorem QsA {s:List UInt8}{i:Nat}{c:UInt8}(h:s[i]? = some c)(r:Nat)(hr:(c.toNat<128→r=c.toNat)∧(128≤c.toNat→128≤r)) :
  (cl r==0||((i:Int)==0&&(cl r != 1&&cl r != 2)))=!pq s i:=by
 rw[KE h];obtain⟨h1,h2⟩:=hr;have hc:=c.toNat_lt;unfold cl Jl ZY Jl;generalize c.toNat=x at *;by_cases hx:x<128
 ·have e:=h1 hx;subst e;by_cases hi:i=0
  ·subst hi;rw[QFF rfl]
   (repeat' split)<;>simp<;>omega
  ·rw[QFE hi];have hz:((i:Int)==0)=false:=by simp;omega
   rw[hz]
   (repeat' split)<;>simp<;>omega
 ·have:=h2 (by omega);have e:(if 97≤r∧r≤122 then(1:Int)else if 65≤r∧r≤90 then 2 else if 48≤r∧r≤57 then 3 else if r=95 then 4 else 0)=0:=by
   rw[QFE (by omega),QFE (by omega),QFE (by omega),QFE (by omega)]
  rw[e];split<;>simp<;>omega

def PaI (s:List UInt8)(k:Nat)(st:St):Prop :=
 ∃f fr i,st=⟨f,[fr],[]⟩∧k=s.length-i∧i≤s.length∧QH (pq s) i=true∧f 0=.str s∧f 7=.ptr 0 7 0∧fr 7=.iter (.str s) i

theorem Ph (s:List UInt8):Qr Tryz.prog 137 [.str s] (.bool (QY s)):=by
 refine Qdo.fn (by simp) ?_;simp only[Qa,seval];refine Hw rfl rfl ?_;simp only[Qa,seval];refine Qg (PaI s) s.length ⟨_,_,0,rfl,rfl,QFG _,rfl,(by rfl),(by rfl),(by rfl)⟩ ?_;rintro _ st ⟨f,fr,i,rfl,rfl,hi,hx,h0,h7,m7⟩;simp only[Qa,seval];refine Hx (by exact h7) m7 (fun hlt=>?_) (fun hge=>?_)
 ·obtain⟨c,hc⟩:∃c,s[i]? = some c:=⟨s[i],QFA hlt⟩;obtain⟨u1,u2⟩:=Nb hc;have hcl:=Qyr (Xl s i).1;have hq:=QsA hc (Xl s i).1 ⟨fun h=>by rw[u1 h],u2⟩;have hw:pq s i=true→(Xl s i).2=1:=by
   intro h;rw[u1];rw[KE hc]at h;have hp:ZY c=true:=by
    split at h
    ·exact DL h
    ·exact h
   unfold ZY Jl at hp;simp at hp;omega
  generalize Xl s i=cw at hcl hq hw;obtain⟨r,w⟩:=cw;simp only[Qa,seval];refine aC hcl ?_;have hstep:QH (pq s) (i+1)=pq s i:=by rw[QH,hx,QG0]
  have hend:pq s i=false→QY s=false:=by
   intro h;rw[J6,Na hlt h,QHd]
  simp only at hq hw;generalize cl r=k at hq;cases hp:pq s i
  ·rw[hp]at hq;have he:=hend hp;simp only[he,Qa,seval];cases a1:(k==0)
   ·cases a2:((i:Int)==0)
    ·simp[a1,a2]at hq
    ·cases a3:(k != 1)
     ·simp[a1,a2,a3]at hq
     ·cases a4:(k != 2)
      ·simp[a1,a2,a3,a4]at hq
      ·simp only[a2,a3,a4,Qa,seval]
   ·simp only[Qa,seval]
  ·rw[hp]at hq;have hw:=hw hp;subst hw;simp only[Qa,seval];cases a1:(k==0)
   ·cases a2:((i:Int)==0)
    ·simp only[a2,Qa,seval];exact⟨s.length-(i+1),by omega,_,_,i+1,rfl,rfl,by omega,by rw[hstep,hp],(by exact h0),(by exact h7),(by rfl)⟩
    ·cases a3:(k != 1)
     ·simp only[a2,a3,Qa,seval];exact⟨s.length-(i+1),by omega,_,_,i+1,rfl,rfl,by omega,by rw[hstep,hp],(by exact h0),(by exact h7),(by rfl)⟩
     ·cases a4:(k != 2)
      ·simp only[a2,a3,a4,Qa,seval];exact⟨s.length-(i+1),by omega,_,_,i+1,rfl,rfl,by omega,by rw[hstep,hp],(by exact h0),(by exact h7),(by rfl)⟩
      ·simp[a1,a2,a3,a4]at hq
   ·simp[a1]at hq
 ·have hii:i=s.length:=by omega
  subst hii;have e1:decide (((s.length:Nat):Int)≥1)=decide (1≤s.length):=by rw[decide_eq_decide];omega
  have e2:decide (((s.length:Nat):Int)≤40)=decide (s.length≤40):=by rw[decide_eq_decide];omega
  have e3:QY s=(decide (1≤s.length)&&decide (s.length≤40)):=by rw[J6,hx,QGA]
  simp only[h0,e1,e3,Qa,seval];cases a1:decide (1≤s.length)<;>simp only[QG0,QGP,h0,e2,Qa,seval]

theorem QlK (s:List UInt8):Qr Tryz.prog 135 [.str s] (.bool (Zb s)):=by
 refine M8.fn (by simp) ?_;simp only[Qy,Qa,seval];have e:Zb s=Wg.any fun w=>s==w:=rfl
 simp only[Wg,List.any_cons,List.any_nil,QHe]at e
 repeat' (first|(refine XW (fun h=>?_) (fun h=>?_)<;>simp only[h,Qy,Qa,seval])|(refine Zy (fun h=>?_) (fun h=>?_)<;>simp only[h,Qk,Qy,eE,seval])|(refine Zz (fun h=>?_) (fun h=>?_)<;>simp only[h,Qk,Qy,eE,seval]))
 all_goals(simp only[*,QG2,Bool.or_true,QHe]at e;simp only[e])

theorem Qys (s:List UInt8):Qr Tryz.prog 213 [.str s,.str [46]] (.int .i64 (s.count 46:Nat)):=by
 refine Qeu.fn (by simp) ?_;have b0:(((1:Nat):Int)==0)=false:=rfl;have b1:(((1:Nat):Int)==1)=true:=rfl;have b2:([(46:UInt8)])[Int.toNat 0]? = some 46:=rfl;simp only[QFM,QGy,QFW,Qa,seval];refine Fl rfl rfl ?_;simp only[Y1,Lib.countByte,Qa,seval]
 try rfl

theorem Qyt (s:List UInt8):Qr Tryz.prog 246 [.str s,.int .u8 46] (.int .i64 (Lib.indexByte s 46)):=by
 refine Qx9.fn (by simp) ?_;simp only[Qa,seval];refine Fl rfl rfl ?_;simp only[Y1,QFQ,Qa,seval]
 try rfl

theorem Qyu (s:List UInt8):Qr Tryz.prog 236 [.str s,.str [46]] (.int .i64 (Lib.indexByte s 46)):=by
 refine QxR.fn (by simp) ?_;have b0:(((1:Nat):Int)==0)=false:=rfl;have b1:(((1:Nat):Int)==1)=true:=rfl;have b2:([(46:UInt8)])[Int.toNat 0]? = some 46:=rfl;have hk:=Qyt s;simp only[Pb,CF,CG,CH,CI,CJ,CL,CM,CN,CO,Pb,Qla,QFM,QGy,QFW,Qy,Qa,seval];cases h:(([46]:List UInt8)==s)
 ·simp only[Qa,seval];refine aC hk ?_;simp only[Qa,seval]
 ·have hs:s=[46]:=by simpa using (QFV.1 h).symm
  subst hs;simp only[Qa,seval]
  try rfl

theorem Qyv (s:List UInt8):Qr Tryz.prog 214 [.str s,.str [46]] (.int .i64 (Lib.indexByte s 46)):=by
 refine Qxk.fn (by simp) ?_;simp only[Qa,seval];refine aC (Qyu s) ?_;simp only[Qa,seval]

theorem CQ {t:List UInt8}{o:Nat}(h:Lib.indexByte t 46=(o:Int)):o<t.length∧t=t.take o++46 :: t.drop (o+1)∧∀c∈t.take o,c≠46:=by
 obtain⟨h1,h2⟩:=Lib.indexByte_some h;have hlt:=(QFz.1 h1).1;refine⟨hlt,?_,?_⟩
 ·have h3:t[o]=46:=(QFz.1 h1).2;rw[←h3,←QGc hlt,QGB]
 ·intro c hc e;subst e;obtain⟨k,hk⟩:=QFJ.1 hc;rw[QF8]at hk;split at hk
  ·exact h2 k ‹_› hk
  ·cases hk

theorem Pi {t:List UInt8}(h:Lib.indexByte t 46 = -1):Qi t=[t]:=by
 refine KC fun c hc e=>?_
 subst e;obtain⟨k,hk⟩:=QFJ.1 hc;exact Lib.indexByte_none h k hk

theorem CR {t:List UInt8}{o:Nat}(h:Lib.indexByte t 46=(o:Int)):Qi t=t.take o :: Qi (t.drop (o+1)):=by
 obtain⟨_,h2,h3⟩:=CQ h
 conv=>lhs;rw[h2]
 exact Uv h3

theorem QlL (t:List UInt8):Lib.indexByte t 46 = -1∨∃o:Nat,Lib.indexByte t 46=(o:Int):=by
 have:=Lib.indexByte_ge t 46;by_cases h:Lib.indexByte t 46 = -1
 ·exact .inl h
 ·obtain⟨o,ho⟩:=QGX (a:=Lib.indexByte t 46) (by omega);exact .inr ⟨o,ho⟩

def SpI (s:List UInt8)(n:Nat)(k:Nat)(st:St):Prop :=
 ∃f fr t done,st=⟨f,[fr],[]⟩∧k=(Qi t).length∧Qi s=done++Qi t∧n=done.length+(Qi t).length∧t.length≤s.length∧
  f 0=.str t∧f 1=.str [46]∧f 2=.int .i64 0∧f 3=.int .i64 ((n-1:Nat):Int)∧f 9=.vec 0 31 1 0 n false∧f 10=.int .i64 (done.length:Nat)∧fr 31=.vec 1 1 (done.map Qm++List.replicate (Qi t).length (.str []))

theorem Pj (done:List (List UInt8))(x:List UInt8)(n:Nat)(h:0<n):(done.map Qm++List.replicate n (AV.str [])).set done.length (.str x)=(done++[x]).map Qm++List.replicate (n-1) (AV.str []):=by
 obtain⟨k,rfl⟩:∃k,n=k+1:=⟨n-1,by omega⟩;rw[List.set_append_right _ _ (by simp)];simp[Qm,List.replicate_succ]

theorem Qyw (s:List UInt8)(hs:s.length≤17592186044000):Qr Tryz.prog 179 [.str s,.str [46],.int .i64 0,.int .i64 (-1)] (.list ((Qi s).map Qm)):=by
 have hl:=KD s;have hc:s.count 46≤s.length:=List.count_le_length;have hm:(Qi s).length≤s.length+1:=by omega
 have b0:((-1:Int)==0)=false:=rfl;have b1:decide ((-1:Int)<0)=true:=rfl;have e1:IntKind.i64.wrap ((s.count 46:Nat)+1:Int)=((Qi s).length:Nat):=by rw[ZO];omega
 have e2:IntKind.i64.wrap ((s.length:Nat)+1:Int)=((s.length+1:Nat):Int):=by rw[ZO];omega
 have e3':(((s.length+1:Nat):Int)<((Qi s).length:Nat))=False:=eq_false (by omega);have e4:IntKind.i64.wrap (((Qi s).length:Nat)-1:Int)=(((Qi s).length-1:Nat):Int):=by rw[ZO];omega
 have hz:Jq 1 [AV.str []]=.str []:=rfl;refine QdH.fn (by simp) ?_;simp only[b0,Qy,Qa,seval];have b2:(([46]:List UInt8)==[])=false:=rfl;simp only[b2,Qa,seval];refine aC (Qys s) ?_;simp only[e1,e2,e3',Qa,seval];refine UO (n:=(Qi s).length) (k:=(Qi s).length) rfl rfl (QFx _) (by omega) (by omega) rfl ?_;simp only[e4,hz,Qa,seval];refine Qg (SpI s (Qi s).length) _ ⟨_,_,s,[],rfl,rfl,rfl,by simp,QFx _,(by rfl),(by rfl),(by rfl),(by rfl),(by rfl),(by rfl),(by rfl)⟩ ?_;rintro _ st ⟨f,fr,t,done,rfl,rfl,hp,hn,ht,h0,h1,h2,h3,h9,h10,m31⟩;simp only[h3,h10,Qa,seval];have hpos:0<(Qi t).length:=QGE.2 (JZ t);have ia:Qe [fr] 1 none (.vec 0 31 1 0 (Qi s).length false) ((done.length:Nat):Int)=some (.vptr 0 31 1 done.length 0):=by
  have e:Am.Qh [fr] 0 31=.vec 1 1 (done.map Qm++List.replicate (Qi t).length (.str [])):=m31;simp only[Qe,e,Qj,if_true,QGM];simp;omega
 have ist:∀x:List UInt8,Q5 [fr] (.vptr 0 31 1 done.length 0) [.str x]=some [Qx fr 31 (.vec 1 1 ((done++[x]).map Qm++List.replicate ((Qi t).length-1) (.str [])))]:=by
  intro x;have e:Am.Qh [fr] 0 31=.vec 1 1 (done.map Qm++List.replicate (Qi t).length (.str [])):=m31;have hy:(done.map Qm++List.replicate (Qi t).length (.str []))[done.length]? = some (.str []):=by
   rw[QGL (by simp)];simp[hpos]
  have hx:Jb (.str []) 0 [.str x]=.str x:=rfl;simp only[Q5,e,hy,if_true,←Pj done x _ hpos];simp[AV.cells,AV.rfL,AV.rf,Am.put,hx]
 have ew:IntKind.i64.wrap ((done.length:Nat)+1:Int)=((done.length+1:Nat):Int):=by rw[ZO];omega
 rcases QlL t with hd|⟨o,ho⟩
 ·have hp1:=Pi hd;have hl1:(Qi t).length=1:=by rw[hp1];rfl
  have d1:decide (((done.length:Nat):Int)<(((Qi s).length-1:Nat):Int))=false:=QHf (by omega);have hi:=ist t;have hrow:(done++[t]).map Qm++List.replicate ((Qi t).length-1) (AV.str [])=(Qi s).map Qm:=by
   rw[hl1,hp,hp1];simp
  have hlen:done.length+1=(Qi s).length:=by omega
  rw[hrow]at hi;rw[hlen]at ew;have hle:((Qi s).length≤(Qi s).length)=True:=eq_true (QFx _);have ht:(((Qi s).map Qm).drop 0).take (Qi s).length=(Qi s).map Qm:=by rw[QGb];exact QF4 (by simp)
  simp only[d1,ia,hi,h0,h9,h10,ew,eE,seval];simp only[Qj,if_true,QGM,QFG,hle,true_and,and_true,QGD,QGh,QHe,YB,QGx,Gx,QHg];have el:Am.Qh [Qx fr 31 (Ob.vec 1 1 ((Qi s).map Qm))] 0 31=.vec 1 1 ((Qi s).map Qm):=QT _ _ _;simp only[AV.still,el,QG0,bne_self_eq_false,QFQ,if_false,QFW,QGK,hle,QGr,if_true,ht,QGw,AV.un,QHg,QGx]
 ·have hp1:=CR ho;obtain⟨ho1,ho2,ho3⟩:=CQ ho;have hl1:(Qi t).length=(Qi (t.drop (o+1))).length+1:=by rw[hp1];simp
  have hpos2:0<(Qi (t.drop (o+1))).length:=QGE.2 (JZ _);have d1:decide (((done.length:Nat):Int)<(((Qi s).length-1:Nat):Int))=true:=QHa (by omega);have d2:decide ((o:Int)<0)=false:=QHf (by omega);have w1:IntKind.i64.wrap ((o:Int)+0)=(o:Int):=by rw[ZO];omega
  have w2:IntKind.i64.wrap ((o:Int)+1)=((o+1:Nat):Int):=by rw[ZO];omega
  have hi:=ist (t.take o);simp only[d1,h0,h1,Qa,seval];refine aC (Qyv t) ?_;have hle1:(0≤o∧o≤t.length)=True:=eq_true ⟨QFG _,by omega⟩;have hle2:(o+1≤t.length∧t.length≤t.length)=True:=eq_true ⟨by omega,QFx _⟩;have ht2:(t.drop (o+1)).take (t.length-(o+1))=t.drop (o+1):=QF4 (by simp);simp only[ho,d2,w1,w2,Qj,QGM,hle1,hle2,ht2,QGD,h0,h1,h2,h9,h10,eE,seval];simp only[ia,hi,ew,Qa,seval];have hlen:(done++[t.take o]).length=done.length+1:=by simp
  have hk:(Qi t).length-1=(Qi (t.drop (o+1))).length:=by omega
  exact⟨(Qi (t.drop (o+1))).length,by omega,_,_,t.drop (o+1),done++[t.take o],rfl,rfl,by rw[hp,hp1];simp,by rw[hlen];omega,by simp;omega,(by rfl),(by exact h1),(by exact h2),(by exact h3),(by exact h9),by rw[hlen]<;>first|rfl|simp only[eE,seval],by rw[←hk]<;>exact QT _ _ _⟩

def DM (c:UInt8):Bool:=decide (97≤c.toNat)&&decide (c.toNat≤122)
def DN (c:UInt8):Bool:=decide (65≤c.toNat)&&decide (c.toNat≤90)

theorem QlM (c:UInt8):Qr Tryz.prog 202 [.int .u8 (c.toNat:Nat)] (.bool (DM c)):=by
 refine QwX.fn (by simp) ?_;have e1:decide ((c.toNat:Int)≥97)=decide (97≤c.toNat):=by rw[decide_eq_decide];omega
 have e2:decide ((c.toNat:Int)≤122)=decide (c.toNat≤122):=by rw[decide_eq_decide];omega
 simp only[e1,DM,Qa,seval];cases h:decide (97≤c.toNat)<;>simp only[e2,QG0,QGP,Qa,seval]

theorem QlN (c:UInt8):Qr Tryz.prog 203 [.int .u8 (c.toNat:Nat)] (.bool (DN c)):=by
 refine Qw0.fn (by simp) ?_;have e1:decide ((c.toNat:Int)≥65)=decide (65≤c.toNat):=by rw[decide_eq_decide];omega
 have e2:decide ((c.toNat:Int)≤90)=decide (c.toNat≤90):=by rw[decide_eq_decide];omega
 simp only[e1,DN,Qa,seval];cases h:decide (65≤c.toNat)<;>simp only[e2,QG0,QGP,Qa,seval]

theorem Pk (c:UInt8):ZY c=(DM c||DN c || !((c.toNat:Int) != 95) || !(decide ((c.toNat:Int)<48)||decide ((c.toNat:Int) > 57))):=by
 unfold ZY Jl DM DN;generalize c.toNat=x;rw[QGj];simp only[QGm,QFU,QGH,QFV,QGl,bne_eq_false_iff_eq,QGi,QHb];omega

def PrI (s:List UInt8)(k:Nat)(st:St):Prop :=
 ∃f i,st=⟨f,[Qc],[]⟩∧k=s.length-i∧1≤i∧QH (pq s) i=true∧f 0=.str s∧f 3=.int .i64 (i:Nat)

theorem Pl (s:List UInt8):Qr Tryz.prog 170 [.str s] (.bool (QY s)):=by
 refine Qwd.fn (by simp) ?_;simp only[Qa,seval];by_cases hl:s.length=0
 ·have d0:((s.length:Int)==0)=true:=by rw[hl];rfl
  have e:QY s=false:=by rw[J6,hl];rfl
  simp only[d0,e,Qa,seval]
 have d0:((s.length:Int)==0)=false:=by rw[QHc];omega
 by_cases hm:s.length≤40
 case neg=>
  have d1:decide ((s.length:Int) > 40)=true:=QHa (by omega);have e:QY s=false:=by rw[J6,QHf hm,QHd,QGP]
  simp only[d0,d1,e,Qa,seval]
 have d1:decide ((s.length:Int) > 40)=false:=QHf (by omega);have hp:QY s=QH (pq s) s.length:=by rw[J6,QHa hm,QHa (by omega:1≤s.length)];rfl
 obtain⟨c,hc⟩:∃c,s[0]? = some c:=⟨s[0]'(by omega),QFA (by omega)⟩;have hq0:QH (pq s) 1=(DM c||DN c):=by
  show(true&&pq s 0)=_;rw[KE hc,QFF rfl];rfl
 have h1:=QlM c;have h2:=QlN c;have hn:QH (pq s) 1=false→QY s=false:=fun h=>by
  rw[hp,QG5];intro h';rw[Qq.2 fun k hk=>Qq.1 h' k (by omega)]at h;cases h
 have z1:Int.toNat 0=0:=rfl;have go:QH (pq s) 1=true→∀(f:Fr),f 0=.str s→f 3=.int .i64 1→∀Q:Exit→St→Prop,(∀f,QH (pq s) s.length=true→Q (.exit 0) ⟨f,[Qc],[]⟩)→(∀f,f 2=.bool false→QH (pq s) s.length=false→Q .ret ⟨f,[Qc],[]⟩)→QJ Tryz.prog (.loop Cx) ⟨f,[Qc],[]⟩ Q:=by
  intro hq1 f h0 h3 Q hx hr;refine Qg (PrI s) _ ⟨_,1,rfl,rfl,QFx _,hq1,h0,h3⟩ ?_;clear h0 h3 hc hq0 h1 h2 hn;rintro _ st ⟨f,i,rfl,rfl,h1i,hx1,h0,h3⟩;simp only[h0,h3,Qa,seval];by_cases hlt:i<s.length
  ·obtain⟨c,hc⟩:∃c,s[i]? = some c:=⟨s[i],QFA hlt⟩;have e1:=Qn i _ hlt (by simp only[maxLen];omega);have hs1:=QlM c;have hs2:=QlN c;have hstep:QH (pq s) (i+1)=ZY c:=by
    rw[QH,hx1,QG0,KE hc,QFE (by omega)]
   have hend:ZY c=false→QH (pq s) s.length=false:=fun h=>by
    rw[QG5];intro h';rw[Qq.2 fun k hk=>Qq.1 h' k (by omega)]at hstep;rw[h]at hstep;cases hstep
   have fin:∀f':Fr,ZY c=true→f' 0=.str s→f' 3=.int .i64 ((i+1:Nat):Int)→∃k,k<s.length-i∧PrI s k ⟨f',[Qc],[]⟩:=by
    intro f' hp h0 h3;exact⟨s.length-(i+1),by omega,f',i+1,rfl,rfl,by omega,by rw[hstep,hp],h0,h3⟩
   have hpc:=Pk c;simp only[Qz hlt,Qj,QGM,hc,h0,h3,Qa,seval];refine aC hs1 ?_;cases a1:DM c
   ·simp only[Qj,QGM,hc,h0,h3,QGv,Qa,seval];refine aC hs2 ?_;cases a2:DN c
    ·cases a3:((c.toNat:Int) != 95)
     ·rw[a1,a2,a3]at hpc;simp only[a3,Qj,QGM,hc,h0,h3,e1,QGv,Qa,seval];exact fin _ (by rw[hpc];rfl) (by exact h0) (by rfl)
     ·cases a4:decide ((c.toNat:Int)<48)
      ·cases a5:decide ((c.toNat:Int) > 57)
       ·rw[a1,a2,a3,a4,a5]at hpc;simp only[a3,a4,a5,Qj,QGM,hc,h0,h3,e1,QGv,Qa,seval];exact fin _ (by rw[hpc];rfl) (by exact h0) (by rfl)
       ·rw[a1,a2,a3,a4,a5]at hpc;simp only[a3,a4,a5,Qj,QGM,hc,h0,h3,QGv,Qa,seval];exact hr _ (by rfl) (hend (by rw[hpc];rfl))
      ·rw[a1,a2,a3,a4]at hpc;simp only[a3,a4,Qj,QGM,hc,h0,h3,QGv,Qa,seval];exact hr _ (by rfl) (hend (by rw[hpc];rfl))
    ·rw[a1,a2]at hpc;simp only[h3,e1,QG1,Qa,seval];exact fin _ (by rw[hpc];rfl) (by exact h0) (by rfl)
   ·rw[a1]at hpc;simp only[h3,e1,QG1,Qa,seval];exact fin _ (by rw[hpc];rfl) (by exact h0) (by rfl)
  ·simp only[QB hlt,Qa,seval];exact hx _ (Qq.2 fun k hk=>Qq.1 hx1 k (by omega))
 simp only[d0,d1,z1,hc,Qa,seval];refine aC h1 ?_;cases a1:DM c
 ·simp only[z1,hc,QGv,Qa,seval];refine aC h2 ?_;cases a2:DN c
  ·rw[a1,a2]at hq0;simp only[hn hq0,QGv,Qa,seval]
  ·rw[a1,a2]at hq0;simp only[QG1,Qa,seval];refine go hq0 _ (by rfl) (by rfl) _ (fun f h=>?_) (fun f h2 h=>?_)
   ·simp only[hp,h,Qa,seval]
   ·simp only[hp,h,h2,Qa,seval]
 ·rw[a1,QG2]at hq0;simp only[QG1,Qa,seval];refine go hq0 _ (by rfl) (by rfl) _ (fun f h=>?_) (fun f h2 h=>?_)
  ·simp only[hp,h,Qa,seval]
  ·simp only[hp,h,h2,Qa,seval]

theorem QlO (s:List UInt8):Qr Tryz.prog 169 [.str s] (.bool (Zb s)):=by
 refine Qwa.fn (by simp) ?_;simp only[Qy,Qa,seval];have e:Zb s=Wg.any fun w=>s==w:=rfl
 simp only[Wg,List.any_cons,List.any_nil,QHe]at e
 repeat' (first|(refine XW (fun h=>?_) (fun h=>?_)<;>simp only[h,Qy,Qa,seval])|(refine Zy (fun h=>?_) (fun h=>?_)<;>simp only[h,Qk,Qy,eE,seval])|(refine Zz (fun h=>?_) (fun h=>?_)<;>simp only[h,Qk,Qy,eE,seval]))
 all_goals(simp only[*,QG2,Bool.or_true,QHe]at e;simp only[e])

def FuI (s:List UInt8)(k:Nat)(st:St):Prop :=
 ∃f i p,st=⟨f,[Qc],[]⟩∧k=s.length-i∧i≤s.length∧p.length≤i∧(∀c∈p,c≠(46:UInt8))∧(Qi s).all QY=(Qi (p++s.drop i)).all QY∧f 0=.str s∧f 3=.str p∧f 4=.int .i64 (i:Nat)

theorem Qyx (s:List UInt8):Qr Tryz.prog 167 [.str s] (.bool (decide (s.length≤120)&&(Qi s).all QY)):=by
 refine Qv4.fn (by simp) ?_;simp only[Qa,seval];by_cases hm:s.length≤120
 case neg=>
  have d1:decide ((s.length:Int) > 120)=true:=QHa (by omega);simp only[d1,QHf hm,QGP,Qa,seval]
 have d1:decide ((s.length:Int) > 120)=false:=QHf (by omega);simp only[d1,QHa hm,QG0,Qa,seval];refine Qg (FuI s) _ ⟨_,0,[],rfl,rfl,QFG _,QFx _,by simp,rfl,(by rfl),(by rfl),(by rfl)⟩ ?_;rintro _ st ⟨f,i,p,rfl,rfl,hi,hpl,hpd,hx,h0,h3,h4⟩;simp only[h0,h4,Qa,seval];by_cases hlt:i<s.length
 ·obtain⟨c,hc⟩:∃c,s[i]? = some c:=⟨s[i],QFA hlt⟩;have e1:=Qn i _ hlt (by simp only[maxLen];omega);have hd:s.drop i=c :: s.drop (i+1):=by
   rw[QGc hlt];congr 1
   exact(QFz.1 hc).2
  have hts:(s.drop i).take (i+1-i)=[c]:=by
   rw[hd,show i+1-i=1 by omega];rfl
  simp only[Qz hlt,Qj,QGM,hc,h0,h4,Qa,seval];by_cases hdot:c=46
  ·subst hdot;have b0:((((46:UInt8).toNat:Nat):Int) != 46)=false:=rfl;have hs:(Qi s).all QY=(QY p&&(Qi (s.drop (i+1))).all QY):=by
    rw[hx,hd,Uv hpd];rfl
   simp only[h3,Qa,seval];refine aC (Pl p) ?_;cases hp:QY p
   ·rw[hp,QGP]at hs;simp only[hs,QGv,Qa,seval]
   ·rw[hp,QG0]at hs;simp only[h4,e1,QG1,Qa,seval];exact⟨s.length-(i+1),by omega,_,i+1,[],rfl,rfl,by omega,QFG _,by simp,by rw[hs];rfl,(by exact h0),(by rfl),(by rfl)⟩
  ·have b0:(((c.toNat:Nat):Int) != 46)=true:=by
    rw[QFZ];intro h
    apply hdot
    rw[←UInt8.toNat_inj];have:c.toNat=46:=by omega
    rw[this];rfl
   have hle:(i≤i+1∧i+1≤s.length)=True:=eq_true ⟨by omega,by omega⟩;have hsum:(p.length≤9223372036854775806)=True:=eq_true (by omega);simp only[b0,h0,h3,h4,e1,JR,ZN,Xo,Qj,QGM,hle,hts,Qy,hsum,Qa,seval];exact⟨s.length-(i+1),by omega,_,i+1,p++[c],rfl,rfl,by omega,by simp;omega,fun x hx=>by
    rcases List.mem_append.1 hx with h|h
    ·exact hpd x h
    ·simp at h;subst h;exact hdot,by rw[hx,hd];simp,(by exact h0),(by rfl),(by rfl)⟩
 ·have hx':(Qi s).all QY=QY p:=by
   rw[hx,QF6 (by omega),QGq,KC hpd];simp
  simp only[QB hlt,h3,hx',Qa,seval];refine aC (Pl p) ?_;simp only[Qa,seval]

def KO (s:List UInt8):Nat→Option Nat
 |0=>none
 |j+1=>if s[j]? = some 46 then some j else KO s j

theorem WQ (s:List UInt8):∀n,match KO s n with
  |none=>∀k,k<n→s[k]?≠some 46
  |some j=>j<n∧s[j]? = some 46∧∀k,j<k→k<n→s[k]?≠some 46
 |0=>by simp[KO]
 |n+1=>by
  unfold KO;split
  ·rename_i h;split at h
   ·cases h
   ·rename_i h';have:=WQ s n;rw[h]at this;intro k hk;rcases QG4.1 hk with h1|rfl
    ·exact this k h1
    ·exact h'
  ·rename_i j h;split at h
   ·rename_i h';cases h;exact⟨by omega,h',fun k h1 h2=>by omega⟩
   ·rename_i h';have:=WQ s n;rw[h]at this;exact⟨by omega,this.2.1,fun k h1 h2=>by
     rcases QG4.1 h2 with h3|rfl
     ·exact this.2.2 k h1 h3
     ·exact h'⟩

def ZI (s:List UInt8):List UInt8×List UInt8:=match KO s s.length with
 |none=>([],s)
 |some j=>(s.take j,s.drop (j+1))

theorem DO (s:List UInt8):((ZI s).1=[]∧(ZI s).2=s∧∀c∈s,c≠46)∨(s=(ZI s).1++46 :: (ZI s).2∧∀c∈(ZI s).2,c≠46):=by
 have h:=WQ s s.length;unfold ZI;cases hl:KO s s.length with
 |none=>
  rw[hl]at h;refine .inl ⟨rfl,rfl,fun c hc e=>?_⟩;subst e;obtain⟨k,hk⟩:=QFJ.1 hc;exact h k (QFz.1 hk).1 hk
 |some j=>
  rw[hl]at h;obtain⟨h1,h2,h3⟩:=h;refine .inr ⟨?_,fun c hc e=>?_⟩
  ·have:s[j]=46:=(QFz.1 h2).2;show s=s.take j++46 :: s.drop (j+1);rw[←this,←QGc h1,QGB]
  ·subst e;obtain⟨k,hk⟩:=QFJ.1 hc;rw[QF9]at hk;exact h3 (j+1+k) (by omega) (QFz.1 hk).1 hk

def SdI (s:List UInt8)(k:Nat)(st:St):Prop :=
 ∃f,st=⟨f,[Qc],[]⟩∧k≤s.length∧KO s s.length=KO s k∧f 0=.str s∧f 4=.int .i64 ((k:Int)-1)

theorem Qyy (s:List UInt8)(hs:s.length≤120):Qr Tryz.prog 168 [.str s] (.tup [.str (ZI s).1,.str (ZI s).2]):=by
 refine Qv7.fn (by simp) ?_;have w0:IntKind.i64.wrap ((s.length:Int)-1)=(s.length:Int)-1:=by rw[ZO];omega
 simp only[w0,Qa,seval];refine Qg (SdI s) _ ⟨_,rfl,QFx _,rfl,(by rfl),(by rfl)⟩ ?_;rintro k st ⟨f,rfl,hk,hx,h0,h4⟩;simp only[h4,Qa,seval];cases k with
 |zero=>
  have d0:decide (((0:Nat):Int)-1≥0)=false:=rfl;have e:ZI s=([],s):=by unfold ZI;rw[hx];rfl
  simp only[e,h0,Qa,seval]
 |succ j=>
  have j1:((j+1:Nat):Int)-1=(j:Int):=by omega
  have d0:decide (((j:Nat):Int)≥0)=true:=QHa (by omega);have w1:IntKind.i64.wrap ((j:Int)-1)=(j:Int)-1:=by rw[ZO];omega
  have w2:IntKind.i64.wrap ((j:Int)+1)=((j+1:Nat):Int):=by rw[ZO];omega
  obtain⟨c,hc⟩:∃c,s[j]? = some c:=⟨s[j]'(by omega),QFA (by omega)⟩;simp only[j1,Qj,QGM,hc,h0,h4,Qa,seval];by_cases hdot:c=46
  ·subst hdot;have b0:((((46:UInt8).toNat:Nat):Int)==46)=true:=rfl;have e:ZI s=(s.take j,s.drop (j+1)):=by
    unfold ZI;rw[hx];show(match (if s[j]? = some 46 then some j else KO s j)with|none=>([],s)|some j=>(s.take j,s.drop (j+1)))=_;rw[QFF hc]
   have hle:(0≤j∧j≤s.length)=True:=eq_true ⟨by omega,by omega⟩;have hle2:(j+1≤s.length∧s.length≤s.length)=True:=eq_true ⟨by omega,QFx _⟩;have ht:((s.drop 0).take j)=s.take j:=by simp
   have ht2:((s.drop (j+1)).take (s.length-(j+1)))=s.drop (j+1):=QF4 (by simp);simp only[w2,j1,e,JR,ZN,Xo,QGD,Qj,QGM,hle,hle2,ht2,h0,h4,Qa,seval]
  ·have b0:(((c.toNat:Nat):Int)==46)=false:=by
    rw[QHc];intro h
    apply hdot
    rw[←UInt8.toNat_inj];have:c.toNat=46:=by omega
    rw[this];rfl
   have hne:¬s[j]? = some 46:=fun h=>by rw[hc]at h;cases h;exact hdot rfl
   simp only[b0,j1,w1,h4,Qa,seval];exact⟨j,by omega,_,rfl,by omega,by rw[hx];show(if s[j]? = some 46 then some j else KO s j)=_;rw[QFE hne],(by exact h0),(by rfl)⟩

def CS (u:List UInt8):Bool:=if u=[]then false else(Qi u).any Zb

theorem Xn {α:Type}{l:List α}{q:α→Bool}:(l.any fun x=>!q x)=!l.all q:=by
 induction l with
 |nil=>rfl
 |cons x l ih=>simp[ih]

theorem Pm (s:List UInt8)(hs:s.length≤17592186044000):Qr Tryz.prog 134 [.str s,.str [46]] (.list ((Qi s).map Qm)):=by
 refine Qca.fn (by simp) ?_;simp only[Qa,seval];refine aC (Qyw s hs) ?_;simp only[Qa,seval]

def IfI (s:List UInt8)(k:Nat)(st:St):Prop :=
 ∃f i,st=⟨f,[Qc],[]⟩∧k=(Qi s).length-i∧((Qi s).take i).all QY=true∧f 0=.str s∧f 6=.list ((Qi s).map Qm)∧f 7=.int .i64 ((Qi s).length:Nat)∧f 8=.int .i64 (i:Nat)

theorem QlP (s:List UInt8)(hs:s.length≤17592186044000):Qr Tryz.prog 132 [.str s] (.bool (decide (s.length≤120)&&(Qi s).all QY)):=by
 have hl:=KD s;have hc:s.count 46≤s.length:=List.count_le_length;refine Qb5.fn (by simp) ?_;simp only[Qa,seval];refine aC (Pm s hs) ?_;simp only[QGK,Qa,seval];refine Qg (IfI s) _ ⟨_,0,rfl,rfl,rfl,(by rfl),(by rfl),(by rfl),(by rfl)⟩ ?_;rintro _ st ⟨f,i,rfl,rfl,hx,h0,h6,h7,h8⟩;simp only[h7,h8,Qa,seval];by_cases hlt:i<(Qi s).length
 ·obtain⟨x,hi⟩:∃x,(Qi s)[i]? = some x:=⟨(Qi s)[i],QFA hlt⟩;have hg:((Qi s).map Qm)[i]? = some (.str x):=by simp[hi,Qm]
  have e1:=Qn i _ hlt (by simp only[maxLen];omega);have ht:=DD (q:=QY) hi;rw[hx,QG0]at ht;simp only[Qz hlt,Qj,QGM,Qe,hg,h6,h8,eE,seval];refine aC (Ph x) ?_;cases hp:QY x
  ·have hf:(Qi s).all QY=false:=by
    rw[QG5];intro h';rw[QFK.1 h' x (QFL hi)]at hp;cases hp
   simp only[hf,QGv,QHd,Qa,seval]
  ·rw[hp]at ht;simp only[h8,e1,QG1,Qa,seval];exact⟨(Qi s).length-(i+1),by omega,_,i+1,rfl,rfl,ht,(by exact h0),(by exact h6),(by exact h7),(by rfl)⟩
 ·rw[QF4 (by omega)]at hx;have e:decide ((s.length:Int)≤120)=decide (s.length≤120):=by rw[decide_eq_decide];omega
  simp only[QB hlt,h0,hx,e,QGA,Qa,seval]

theorem Sw (s:List UInt8)(m:Ql):Qf Tryz.prog 135 [Qm s] m fun y m1=>y=.bool (Zb s)∧m1=m:=by
 refine M8.go (by simp) ?_;simp only[Qm,Qy,Qa,seval];have e:Zb s=Wg.any fun w=>s==w:=rfl
 simp only[Wg,List.any_cons,List.any_nil,QHe]at e
 repeat' (first|(refine XW (fun h=>?_) (fun h=>?_)<;>simp only[h,Qy,Qa,seval])|(refine Zy (fun h=>?_) (fun h=>?_)<;>simp only[h,Qk,Qy,eE,seval])|(refine Zz (fun h=>?_) (fun h=>?_)<;>simp only[h,Qk,Qy,eE,seval]))
 all_goals(simp only[*,QG2,Bool.or_true,QHe]at e;simp only[e])

theorem z62 (s:List UInt8):Qr Tryz.prog 62 [.str s] (.bool (Q7 s)):=by
 refine k62.fn (by simp) ?_;simp only[Q7,Qa,seval];refine aC (Ph s) ?_;cases QY s
 ·simp only[QGP,Qa,seval]
 ·simp only[QG0,Qa,seval];refine aC (QlK s) ?_;simp only[Qa,seval]

theorem z59 (s:List UInt8)(hs:s.length≤17592186044000):Qr Tryz.prog 59 [.str s] (.bool (Xe s)):=by
 have hl:=KD s;have hc:s.count 46≤s.length:=List.count_le_length;refine k59.fn (by simp) ?_;simp only[Xe,Qa,seval];refine aC (QlP s hs) ?_;cases hf:(decide (s.length≤120)&&(Qi s).all QY)
 ·simp only[QGP,Qa,seval]
 ·simp only[QG0,Qa,seval];refine aC (Pm s hs) ?_;simp only[Qa,seval];refine Qb (DK (Qi s) (by simp only[maxLen];omega) Zb 135 [] _ fun o _=>Sw o _) (by simp only[QF3,QGo,Qa,seval]<;>rfl) ?_;simp only[Qa,seval]

section
variable (m:Ql)

theorem z55 (g:PG):Qf Tryz.prog 55 [QR g] m fun y m1=>y=.bool (!WM g)∧m1=m:=by
 refine k55.go (by simp) ?_;have e:decide ((g.ops.length:Int) > 64)=!WM g:=by unfold WM;exact(by rw[QGj];simp only[QGH,QGl,QHb];omega)
 simp only[QR,PG.cells,QGK,e,eE,seval]

theorem z57 (x:PE):Qf Tryz.prog 57 [Q2 x] m fun y m1=>y=.bool (!U3 x)∧m1=m:=by
 refine k57.go (by simp) ?_;have e1:decide ((x.items.length:Int)<1)=!decide (1≤x.items.length):=(by rw[QGj];simp only[QGH,QGl,QHb];omega);have e2:decide ((x.items.length:Int) > 64)=!decide (x.items.length≤64):=(by rw[QGj];simp only[QGH,QGl,QHb];omega);have e3:decide ((x.free.length:Int) > 16)=!decide (x.free.length≤16):=(by rw[QGj];simp only[QGH,QGl,QHb];omega);simp only[Q2,PE.cells,QGK,e1,U3,eE,seval];cases a1:decide (1≤x.items.length)<;>cases a2:decide (x.items.length≤64)<;>cases a3:decide (x.free.length≤16)<;>simp only[a2,a3,QG1,QGv,QGA,QHd,QGK,e2,e3,eE,seval]

theorem z61 (o:PO):Qf Tryz.prog 61 [Q3 o] m fun y m1=>y=.bool (!Q7 o.name)∧m1=m:=by
 refine k61.go (by simp) ?_;simp only[Q3,PO.cells,eE,seval];refine aC (z62 o.name) ?_;simp only[Qa,seval]

theorem z65 (o:PI):Qf Tryz.prog 65 [Xi o] m fun y m1=>y=.bool (!Q7 o.name)∧m1=m:=by
 refine k65.go (by simp) ?_;simp only[Xi,PI.cells,eE,seval];refine aC (z62 o.name) ?_;simp only[Qa,seval]

theorem z58 (g:PG)(hs:g.name.length≤17592186044000)(hl:g.ops.length≤maxLen):Qf Tryz.prog 58 [QR g] m fun y m1=>y=.bool (!U4 g)∧m1=m:=by
 refine k58.go (by simp) ?_;simp only[QR,PG.cells,U4,eE,seval];refine aC (z59 g.name hs) ?_;cases Xe g.name
 ·simp only[QGP,QGv,Qa,seval]
 ·simp only[QG0,QG1,eE,seval];refine Qb (CP g.ops hl (fun o=>!Q7 o.name) 61 [] _ fun o _=>z61 _ o) (by simp only[QF3,QGo,Qa,seval]<;>rfl) ?_;simp only[Xn,Qa,seval]

theorem z63 (x:PE)(hs:x.name.length≤17592186044000)(hl:x.items.length≤maxLen):Qf Tryz.prog 63 [Q2 x] m fun y m1=>y=.bool (!DE x)∧m1=m:=by
 refine k63.go (by simp) ?_;simp only[Q2,PE.cells,DE,eE,seval];refine aC (z59 x.name hs) ?_;cases Xe x.name
 ·simp only[QGP,QGv,Qa,seval]
 ·simp only[QG0,QG1,eE,seval];refine Qb (Sv x.items hl (fun o=>!Q7 o.name) 65 [] _ fun o _=>z65 _ o) (by simp only[QF3,QGo,Qa,seval]<;>rfl) ?_;simp only[Xn,Qa,seval]

theorem z67 (x y:PG):Qf Tryz.prog 67 [QR x,QR y] m fun r m1=>r=.bool ((ZP PG.name) x y)∧m1=m:=by
 refine k67.go (by simp) ?_;simp only[QR,PG.cells,Qy,ZP,eE,seval]

theorem z69 (x y:PE):Qf Tryz.prog 69 [Q2 x,Q2 y] m fun r m1=>r=.bool ((ZP PE.name) x y)∧m1=m:=by
 refine k69.go (by simp) ?_;simp only[Q2,PE.cells,Qy,ZP,eE,seval]

theorem z72 (x y:PO):Qf Tryz.prog 72 [Q3 x,Q3 y] m fun r m1=>r=.bool ((WN PO.num) x y)∧m1=m:=by
 refine k72.go (by simp) ?_;simp only[Q3,PO.cells,WN,eE,seval]

theorem z75 (x y:PI):Qf Tryz.prog 75 [Xi x,Xi y] m fun r m1=>r=.bool ((WN PI.num) x y)∧m1=m:=by
 refine k75.go (by simp) ?_;simp only[Xi,PI.cells,WN,eE,seval]

theorem z70 (g:PG)(hl:g.ops.length≤maxLen):Qf Tryz.prog 70 [QR g] m fun y m1=>y=.bool (!U5 g)∧m1=m:=by
 refine k70.go (by simp) ?_;simp only[QR,PG.cells,U5,eE,seval];refine Qb (z71 g.ops hl (WN PO.num) 72 [] _ fun x _ y _=>z72 _ x y) (by simp only[QF3,QGo,Qa,seval]<;>rfl) ?_;simp only[Qa,seval]

theorem z73 (x:PE)(hl:x.items.length≤maxLen):Qf Tryz.prog 73 [Q2 x] m fun y m1=>y=.bool (!DG x)∧m1=m:=by
 refine k73.go (by simp) ?_;simp only[Q2,PE.cells,DG,eE,seval];refine Qb (z74 x.items hl (WN PI.num) 75 [] _ fun x _ y _=>z75 _ x y) (by simp only[QF3,QGo,Qa,seval]<;>rfl) ?_;simp only[Qa,seval]

end

section
variable {M:Nat}(P:PL)(hP:P.ok M)(hM:M≤17592186044000)
include hP hM

omit hM in
theorem z24:Qr Tryz.prog 24 [P.av] (.bool (!Ux P)):=by
 have e0:P.av=.agg [.list (P.progs.map QR),.list (P.enums.map Q2)]:=rfl;have e1:decide ((if (P.progs.length:Int)<(P.enums.length:Int)then(P.enums.length:Int)else(P.progs.length:Int)) > 64)=!(decide (P.progs.length≤64)&&decide (P.enums.length≤64)):=by
  rw[Bool.not_and];split<;>exact(by rw[QGj];simp only[QGH,QGl,QHb,QGm];omega)
 refine k24.fn (by simp) ?_;simp only[e0,QGK,e1,Ux,eE,seval];cases(decide (P.progs.length≤64)&&decide (P.enums.length≤64))
 ·simp only[QGv,QGP,Qa,seval]
 simp only[QG1,QG0,eE,seval];refine Qb (F7 P.progs hP.len1 (fun g=>!WM g) 55 [] _ fun o _=>z55 _ o) (by simp only[QF3,QGo,Qa,seval]<;>rfl) ?_;simp only[Xn,Qa,seval];cases P.progs.all WM
 ·simp only[QGv,QGP,Qa,seval]
 simp only[QG1,QG0,eE,seval];refine Qb (DJ P.enums hP.len2 (fun g=>!U3 g) 57 [] _ fun o _=>z57 _ o) (by simp only[QF3,QGo,Qa,seval]<;>rfl) ?_;simp only[Xn,Qa,seval]

omit hM in
theorem Qyz (hN1:∀g∈P.progs,g.name.length≤17592186044000)(hN2:∀g∈P.enums,g.name.length≤17592186044000):Qr Tryz.prog 25 [P.av] (.bool (!F3 P)):=by
 have e0:P.av=.agg [.list (P.progs.map QR),.list (P.enums.map Q2)]:=rfl;refine k25.fn (by simp) ?_;simp only[e0,F3,eE,seval];refine Qb (F7 P.progs hP.len1 (fun g=>!U4 g) 58 [] _ fun o ho=>z58 _ o (hN1 o ho) (hP.progs o ho).len) (by simp only[QF3,QGo,Qa,seval]<;>rfl) ?_;simp only[Xn,Qa,seval];cases P.progs.all U4
 ·simp only[QGv,QGP,Qa,seval]
 simp only[QG1,QG0,eE,seval];refine Qb (DJ P.enums hP.len2 (fun g=>!DE g) 63 [] _ fun o ho=>z63 _ o (hN2 o ho) (hP.enums o ho).len1) (by simp only[QF3,QGo,Qa,seval]<;>rfl) ?_;simp only[Xn,Qa,seval]

omit hM in
theorem z26:Qr Tryz.prog 26 [P.av] (.bool (!F4 P)):=by
 have e0:P.av=.agg [.list (P.progs.map QR),.list (P.enums.map Q2)]:=rfl;refine k26.fn (by simp) ?_;simp only[e0,F4,eE,seval];refine Qb (z66 P.progs hP.len1 (ZP PG.name) 67 [] _ fun x _ y _=>z67 _ x y) (by simp only[QF3,QGo,Qa,seval]<;>rfl) ?_;simp only[Qa,seval];cases Q8 P.progs (ZP PG.name)
 ·simp only[QGv,QGP,Qa,seval]
 simp only[QG1,QG0,eE,seval];refine Qb (z68 P.enums hP.len2 (ZP PE.name) 69 [] _ fun x _ y _=>z69 _ x y) (by simp only[QF3,QGo,Qa,seval]<;>rfl) ?_;simp only[Qa,seval];cases Q8 P.enums (ZP PE.name)
 ·simp only[QGv,QGP,Qa,seval]
 simp only[QG1,QG0,eE,seval];refine Qb (F7 P.progs hP.len1 (fun g=>!U5 g) 70 [] _ fun o ho=>z70 _ o (hP.progs o ho).len) (by simp only[QF3,QGo,Qa,seval]<;>rfl) ?_;simp only[Xn,Qa,seval];cases P.progs.all U5
 ·simp only[QGv,QGP,Qa,seval]
 simp only[QG1,QG0,eE,seval];refine Qb (DJ P.enums hP.len2 (fun g=>!DG g) 73 [] _ fun o ho=>z73 _ o (hP.enums o ho).len1) (by simp only[QF3,QGo,Qa,seval]<;>rfl) ?_;simp only[Xn,Qa,seval]

end

theorem W7 (n c:Nat):AV.shN n (.fn (.func c) [] [])=.fn (.func c) [] []:=by
 induction n with
 |zero=>rfl
 |succ n ih=>rw[AV.shN,ih];rfl

theorem QyA (nm:PO→List UInt8)(c:Nat)(hn:∀x,Qr Tryz.prog c [Q3 x] (.str (nm x)))(y x:PO)(fr:Nat→Ob)(m:Ql)(h3:fr 3=.cells [.fn (.func c) [] []])(h6:fr 6=.cells x.cells) :
  Qf Tryz.prog 139 [Q3 y,.ptr 3 3 0,.ptr 3 6 0] (Qc :: Qc :: Qc :: fr :: m) fun r m1=>r=.bool (nm y==nm x)∧m1=Qc :: Qc :: Qc :: fr :: m:=by
 have hy:=hn y;have hx:=hn x;have g3:∀n,AV.shN n (.fn (.func c) [] [])=.fn (.func c) [] []:=fun n=>W7 n c
 simp only[Q3,PO.cells]at hy hx h6;refine Qvv.go (by simp) ?_;simp only[Q3,PO.cells,h3,g3,eE,seval];refine Zi (fa:=[]) (fb:=[]) (by rfl) hy rfl rfl rfl (.inl rfl) ?_;simp only[h3,h6,g3,eE,seval];refine Zi (fa:=[]) (fb:=[]) (by rfl) hx rfl rfl rfl (.inl rfl) ?_;simp only[Qy,Qa,seval]

section
variable (L:List PO)(hl:L.length≤maxLen)(nm:PO→List UInt8)(c:Nat)(m:Ql)

def ReO (k:Nat)(st:St):Prop :=
 ∃f fr i,st=⟨f,fr :: m,[]⟩∧k=L.length-i∧QH (uniq L nm) i=true∧f 0=.list (L.map Q3)∧f 3=.ptr 0 3 0∧f 7=.list (L.map Q3)∧f 8=.int .i64 (L.length:Nat)∧f 9=.int .i64 (i:Nat)∧fr 3=.cells [.fn (.func c) [] []]∧∀s∈[6],(fr s).isRow=false

include hl in
theorem z78 (hn:∀x,Qr Tryz.prog c [Q3 x] (.str (nm x))) :
  Qf Tryz.prog 78 [.list (L.map Q3),.fn (.func c) [] []] m fun y m1=>y=.bool (!Jg L nm)∧m1=m:=by
 refine k78.go (by simp) ?_;simp only[QGK,eE,seval];refine Qg (ReO L nm c m) _ ⟨_,_,0,rfl,rfl,rfl,(by rfl),(by rfl),(by rfl),(by rfl),(by rfl),(by rfl),by simp<;>rfl⟩ ?_;rintro _ st ⟨f0,fr0,i,rfl,rfl,hx,h00,h30,h70,h80,h90,m30,r6⟩;refine QD (a:=_) [6] r6 ?_;intro f fr hf hm hn6;have h0:f 0=.list (L.map Q3):=by rw[hf,h00]<;>rfl
 have h3:f 3=.ptr 0 3 0:=by rw[hf,h30]<;>rfl
 have h7:f 7=.list (L.map Q3):=by rw[hf,h70]<;>rfl
 have h8:f 8=.int .i64 (L.length:Nat):=by rw[hf,h80]<;>rfl
 have h9:f 9=.int .i64 (i:Nat):=by rw[hf,h90]<;>rfl
 have m3:fr 3=.cells [.fn (.func c) [] []]:=by rw[hm 3 (by decide),m30]<;>rfl
 have n6:=hn6 6 (by decide);clear hf hm hn6 h00 h30 h70 h80 h90 m30 r6;simp only[h8,h9,Qa,seval];by_cases hlt:i<L.length
 ·obtain⟨x,hi⟩:∃x,L[i]? = some x:=⟨L[i],QFA hlt⟩;have hg:(L.map Q3)[i]? = some (Q3 x):=by simp[hi]
  have e1:=Qn i _ hlt hl;have hle:(i≤L.length)=True:=eq_true (by omega);have ht:((L.map Q3).drop 0).take (i-0)=(L.take i).map Q3:=by simp
  have hstep:QH (uniq L nm) (i+1)=!(L.take i).any fun y=>nm y==nm x:=by
   rw[QH,hx,QG0,Kj hi,KV]
  have hcl:=fun(fr:Nat→Ob) (h3:fr 3=.cells [.fn (.func c) [] []]) (h6:fr 6=.cells x.cells)=>CP (L.take i) (by simp;omega) (fun y=>nm y==nm x) 139 [.ptr 0 3 0,.ptr 0 6 0] (fr :: m) fun y _=>QyA nm c hn y x fr m h3 h6
  simp only[Qz hlt,Qj,QGM,Qe,hg,Q3,PO.cells,n6,h0,h7,h9,JR,ZN,Xo,QGR,QGK,QFG,QFx,hle,true_or,QGD,←List.map_take,eE,seval];refine Qb (hcl _ (by exact m3) (by rfl)) (by simp only[QF3,QGo,h3,Qa,seval]<;>rfl) ?_;cases hp:(L.take i).any fun y=>nm y==nm x
  ·rw[hp]at hstep;simp only[h9,e1,Qa,seval];exact⟨L.length-(i+1),by omega,_,_,i+1,rfl,rfl,hstep,(by exact h0),(by exact h3),(by exact h7),(by exact h8),(by rfl),(by exact m3),by simp<;>rfl⟩
  ·rw[hp]at hstep;have hf:Jg L nm=false:=by
    rw[QG5];intro h';rw[Qq.2 fun k hk=>Qq.1 h' k (by omega)]at hstep;cases hstep
   simp only[hf,QGv,Qa,seval]
 ·have hf:Jg L nm=true:=Qq.2 fun k hk=>Qq.1 hx k (by omega)
  simp only[QB hlt,hf,QG1,Qa,seval]

end

theorem QyB (nm:PI→List UInt8)(c:Nat)(hn:∀x,Qr Tryz.prog c [Xi x] (.str (nm x)))(y x:PI)(fr:Nat→Ob)(m:Ql)(h3:fr 3=.cells [.fn (.func c) [] []])(h6:fr 6=.cells x.cells) :
  Qf Tryz.prog 140 [Xi y,.ptr 3 3 0,.ptr 3 6 0] (Qc :: Qc :: Qc :: fr :: m) fun r m1=>r=.bool (nm y==nm x)∧m1=Qc :: Qc :: Qc :: fr :: m:=by
 have hy:=hn y;have hx:=hn x;have g3:∀n,AV.shN n (.fn (.func c) [] [])=.fn (.func c) [] []:=fun n=>W7 n c
 simp only[Xi,PI.cells]at hy hx h6;refine Qvy.go (by simp) ?_;simp only[Xi,PI.cells,h3,g3,eE,seval];refine Zi (fa:=[]) (fb:=[]) (by rfl) hy rfl rfl rfl (.inl rfl) ?_;simp only[h3,h6,g3,eE,seval];refine Zi (fa:=[]) (fb:=[]) (by rfl) hx rfl rfl rfl (.inl rfl) ?_;simp only[Qy,Qa,seval]

section
variable (L:List PI)(hl:L.length≤maxLen)(nm:PI→List UInt8)(c:Nat)(m:Ql)

def ReI (k:Nat)(st:St):Prop :=
 ∃f fr i,st=⟨f,fr :: m,[]⟩∧k=L.length-i∧QH (uniq L nm) i=true∧f 0=.list (L.map Xi)∧f 3=.ptr 0 3 0∧f 7=.list (L.map Xi)∧f 8=.int .i64 (L.length:Nat)∧f 9=.int .i64 (i:Nat)∧fr 3=.cells [.fn (.func c) [] []]∧∀s∈[6],(fr s).isRow=false

include hl in
theorem z81 (hn:∀x,Qr Tryz.prog c [Xi x] (.str (nm x))) :
  Qf Tryz.prog 81 [.list (L.map Xi),.fn (.func c) [] []] m fun y m1=>y=.bool (!Jg L nm)∧m1=m:=by
 refine k81.go (by simp) ?_;simp only[QGK,eE,seval];refine Qg (ReI L nm c m) _ ⟨_,_,0,rfl,rfl,rfl,(by rfl),(by rfl),(by rfl),(by rfl),(by rfl),(by rfl),by simp<;>rfl⟩ ?_;rintro _ st ⟨f0,fr0,i,rfl,rfl,hx,h00,h30,h70,h80,h90,m30,r6⟩;refine QD (a:=_) [6] r6 ?_;intro f fr hf hm hn6;have h0:f 0=.list (L.map Xi):=by rw[hf,h00]<;>rfl
 have h3:f 3=.ptr 0 3 0:=by rw[hf,h30]<;>rfl
 have h7:f 7=.list (L.map Xi):=by rw[hf,h70]<;>rfl
 have h8:f 8=.int .i64 (L.length:Nat):=by rw[hf,h80]<;>rfl
 have h9:f 9=.int .i64 (i:Nat):=by rw[hf,h90]<;>rfl
 have m3:fr 3=.cells [.fn (.func c) [] []]:=by rw[hm 3 (by decide),m30]<;>rfl
 have n6:=hn6 6 (by decide);clear hf hm hn6 h00 h30 h70 h80 h90 m30 r6;simp only[h8,h9,Qa,seval];by_cases hlt:i<L.length
 ·obtain⟨x,hi⟩:∃x,L[i]? = some x:=⟨L[i],QFA hlt⟩;have hg:(L.map Xi)[i]? = some (Xi x):=by simp[hi]
  have e1:=Qn i _ hlt hl;have hle:(i≤L.length)=True:=eq_true (by omega);have ht:((L.map Xi).drop 0).take (i-0)=(L.take i).map Xi:=by simp
  have hstep:QH (uniq L nm) (i+1)=!(L.take i).any fun y=>nm y==nm x:=by
   rw[QH,hx,QG0,Kj hi,KV]
  have hcl:=fun(fr:Nat→Ob) (h3:fr 3=.cells [.fn (.func c) [] []]) (h6:fr 6=.cells x.cells)=>Sv (L.take i) (by simp;omega) (fun y=>nm y==nm x) 140 [.ptr 0 3 0,.ptr 0 6 0] (fr :: m) fun y _=>QyB nm c hn y x fr m h3 h6
  simp only[Qz hlt,Qj,QGM,Qe,hg,Xi,PI.cells,n6,h0,h7,h9,JR,ZN,Xo,QGR,QGK,QFG,QFx,hle,true_or,QGD,←List.map_take,eE,seval];refine Qb (hcl _ (by exact m3) (by rfl)) (by simp only[QF3,QGo,h3,Qa,seval]<;>rfl) ?_;cases hp:(L.take i).any fun y=>nm y==nm x
  ·rw[hp]at hstep;simp only[h9,e1,Qa,seval];exact⟨L.length-(i+1),by omega,_,_,i+1,rfl,rfl,hstep,(by exact h0),(by exact h3),(by exact h7),(by exact h8),(by rfl),(by exact m3),by simp<;>rfl⟩
  ·rw[hp]at hstep;have hf:Jg L nm=false:=by
    rw[QG5];intro h';rw[Qq.2 fun k hk=>Qq.1 h' k (by omega)]at hstep;cases hstep
   simp only[hf,QGv,Qa,seval]
 ·have hf:Jg L nm=true:=Qq.2 fun k hk=>Qq.1 hx k (by omega)
  simp only[QB hlt,hf,QG1,Qa,seval]

end

theorem z79 (o:PO):Qr Tryz.prog 79 [Q3 o] (.str o.name):=by
 refine k79.fn (by simp) ?_;simp only[Q3,PO.cells,eE,seval]

theorem z82 (o:PI):Qr Tryz.prog 82 [Xi o] (.str o.name):=by
 refine k82.fn (by simp) ?_;simp only[Xi,PI.cells,eE,seval]

theorem z77 (x:PE)(g:PG)(fr:Nat→Ob)(m:Ql)(h2:fr 2=.cells g.cells):Qf Tryz.prog 77 [Q2 x,.ptr 3 2 0] (Qc :: Qc :: Qc :: fr :: m) fun y m1=>y=.bool (x.name==g.name)∧m1=Qc :: Qc :: Qc :: fr :: m:=by
 simp only[PG.cells]at h2;refine k77.go (by simp) ?_;simp only[Q2,PE.cells,h2,Qy,eE,seval]

theorem z80 (x:PE)(hl:x.items.length≤maxLen)(m:Ql):Qf Tryz.prog 80 [Q2 x] m fun y m1=>y=.bool (!DH x)∧m1=m:=by
 refine k80.go (by simp) ?_;simp only[Q2,PE.cells,DH,eE,seval];refine Qb (z81 x.items hl PI.name 82 _ z82) (by simp only[QF3,QGo,Qa,seval]<;>rfl) ?_;simp only[Qa,seval]

section
variable {M:Nat}(P:PL)(hP:P.ok M)
include hP

theorem z76 (g:PG)(hl:g.ops.length≤maxLen)(fr:Nat→Ob)(h1:fr 1=.cells [.list (P.progs.map QR),.list (P.enums.map Q2)]) :
  Qf Tryz.prog 76 [QR g,.ptr 3 1 0] [Qc,Qc,Qc,fr] fun y m1=>y=.bool (!YE P g)∧m1=[Qc,Qc,Qc,fr]:=by
 have e:YE P g=(!(P.enums.any fun e=>e.name==g.name)&&Jg g.ops PO.name):=by rw[YE,KV]
 refine k76.go (by simp) ?_;simp only[QR,PG.cells,h1,e,eE,seval];refine Qb (DJ P.enums hP.len2 (fun e=>e.name==g.name) 77 [.ptr 0 2 0] _ fun o _=>z77 o g _ _ (by rfl)) (by simp only[QF3,QGo,Qa,seval]<;>rfl) ?_;cases P.enums.any fun e=>e.name==g.name
 ·simp only[QGv,QG0,eE,seval];refine Qb (z78 g.ops hl PO.name 79 _ z79) (by simp only[QF3,QGo,Qa,seval]<;>rfl) ?_;simp only[Qa,seval]
 ·simp only[QG1,QGP,QGv,Qa,seval]

theorem z27:Qr Tryz.prog 27 [P.av] (.bool (!F5 P)):=by
 have e0:P.av=.agg [.list (P.progs.map QR),.list (P.enums.map Q2)]:=rfl;refine k27.fn (by simp) ?_;simp only[e0,F5,eE,seval];refine Qb (F7 P.progs hP.len1 (fun g=>!YE P g) 76 [.ptr 0 1 0] _ fun o ho=>z76 P hP o (hP.progs o ho).len _ (by rfl)) (by simp only[QF3,QGo,Qa,seval]<;>rfl) ?_;simp only[Xn,Qa,seval];cases P.progs.all (YE P)
 ·simp only[QGv,QGP,Qa,seval]
 simp only[QG1,QG0,eE,seval];refine Qb (DJ P.enums hP.len2 (fun g=>!DH g) 80 [] _ fun o ho=>z80 o (hP.enums o ho).len1 _) (by simp only[QF3,QGo,Qa,seval]<;>rfl) ?_;simp only[Xn,Qa,seval]

end

theorem QyC (x:PS)(n:Int)(fr:Nat→Ob)(m:Ql)(h3:fr 3=.cells [.int .i64 n]):Qf Tryz.prog 184 [QV x,.ptr 2 3 0] (Qc :: Qc :: fr :: m) fun y m1=>y=.bool (decide (x.lo≤n)&&decide (n≤x.hi))∧m1=Qc :: Qc :: fr :: m:=by
 refine QwG.go (by simp) ?_;simp only[QV,PS.cells,h3,eE,seval];cases h:decide (x.lo≤n)<;>simp only[h3,QG0,QGP,eE,seval]

theorem Pn (L:List PS)(hl:L.length≤maxLen)(n:Int):Qr Tryz.prog 142 [.list (L.map QV),.int .i64 n] (.bool (kept L n)):=by
 refine Qbq.fn (by simp) ?_;simp only[eE,seval];refine Qb (Qyp L hl (fun x=>decide (x.lo≤n)&&decide (n≤x.hi)) 184 [.ptr 0 3 0] _ fun o _=>QyC o n _ _ (by rfl)) (by simp only[QF3,QGo,Qa,seval]<;>rfl) ?_;simp only[kept,Qa,seval]

theorem z84 (o:PO)(m:Ql):Qf Tryz.prog 84 [Q3 o] m fun y m1=>y=.bool (!WO o)∧m1=m:=by
 refine k84.go (by simp) ?_;have e1:decide (o.num<1)=!decide (o.num≥1):=(by rw[QGj];simp only[QGH,QGl,QHb];omega);have e2:decide (o.num > 65535)=!decide (o.num≤65535):=(by rw[QGj];simp only[QGH,QGl,QHb];omega);simp only[Q3,PO.cells,WO,e1,eE,seval];cases decide (o.num≥1)<;>simp only[QG1,QGv,QG0,QGP,e2,eE,seval]

theorem z83 (g:PG)(hl:g.ops.length≤maxLen)(m:Ql):Qf Tryz.prog 83 [QR g] m fun y m1=>y=.bool (!g.ops.all WO)∧m1=m:=by
 refine k83.go (by simp) ?_;simp only[QR,PG.cells,eE,seval];refine Qb (CP g.ops hl (fun o=>!WO o) 84 [] _ fun o _=>z84 o _) (by simp only[QF3,QGo,Qa,seval]<;>rfl) ?_;simp only[Xn,Qa,seval]

theorem QyD (o:PI)(x:PE)(hl:x.free.length≤maxLen)(fr:Nat→Ob)(m:Ql)(h1:fr 1=.cells x.cells):Qf Tryz.prog 141 [Xi o,.ptr 3 1 0] (Qc :: Qc :: Qc :: fr :: m) fun y m1=>y=.bool (!U6 x o)∧m1=Qc :: Qc :: Qc :: fr :: m:=by
 have hr:Qr Tryz.prog 142 [.list (x.free.map fun n=>AV.agg n.cells),.int .i64 o.num] (.bool (kept x.free o.num)):=Pn x.free hl o.num;simp only[PE.cells]at h1;refine QvB.go (by simp) ?_;have e2:decide (o.num > 2147483647)=!decide (o.num≤2147483647):=(by rw[QGj];simp only[QGH,QGl,QHb];omega);simp only[Xi,PI.cells,U6,e2,eE,seval];cases decide (o.num≤2147483647)
 ·simp only[QGv,QGP,Qa,seval]
 ·simp only[QG1,QG0,h1,eE,seval];refine aC hr ?_;simp only[QHh,Qa,seval]

def Uy (l:List PS)(i:Nat):Bool:=Su l spn i&&Zf l DI i
theorem Ez (l:List PS):QH (Uy l) l.length=(l.all spn&&Q8 l DI):=by
 unfold Uy Q8;rw[Pd,Pe]

def OuI (x:PE)(m:Ql)(k:Nat)(st:St):Prop :=
 ∃f fr i,st=⟨f,fr :: m,[]⟩∧k=x.free.length-i∧QH (Uy x.free) i=true∧f 1=.ptr 0 1 0∧f 6=.list (x.free.map QV)∧f 7=.int .i64 (x.free.length:Nat)∧f 8=.int .i64 (i:Nat)∧fr 1=.cells x.cells∧∀s∈[4],(fr s).isRow=false

theorem z85 (x:PE)(h0:x.items≠[])(hl1:x.items.length≤maxLen)(hl:x.free.length≤maxLen)(m:Ql):Qf Tryz.prog 85 [Q2 x] m fun y m1=>y=.bool (!WP x)∧m1=m:=by
 have hsp:=Ez x.free;have z1:Int.toNat 0=0:=rfl;have z0:(0≤(0:Int))=True:=by simp
 refine k85.go (by simp) ?_;simp only[Q2,PE.cells,QGK,eE,seval];refine Qg (OuI x m) _ ⟨_,_,0,rfl,rfl,rfl,(by rfl),(by rfl),(by rfl),(by rfl),(by rfl),by simp<;>rfl⟩ ?_;rintro _ st ⟨f0,fr0,i,rfl,rfl,hx,h10,h60,h70,h80,m10,r4⟩;refine QD (a:=_) [4] r4 ?_;intro f fr hf hm hn4;have h1:f 1=.ptr 0 1 0:=by rw[hf,h10]<;>rfl
 have h6:f 6=.list (x.free.map QV):=by rw[hf,h60]<;>rfl
 have h7:f 7=.int .i64 (x.free.length:Nat):=by rw[hf,h70]<;>rfl
 have h8:f 8=.int .i64 (i:Nat):=by rw[hf,h80]<;>rfl
 have m1:fr 1=.cells x.cells:=by rw[hm 1 (by decide),m10]<;>rfl
 have n4:=hn4 4 (by decide);clear hf hm hn4 h10 h60 h70 h80 m10 r4;simp only[PE.cells]at m1;simp only[h7,h8,Qa,seval];by_cases hlt:i<x.free.length
 ·obtain⟨y,hi⟩:∃y,x.free[i]? = some y:=⟨x.free[i],QFA hlt⟩;have hg:(x.free.map QV)[i]? = some (QV y):=by simp[hi]
  have e1:=Qn i _ hlt hl;have hstep:QH (Uy x.free) (i+1)=(spn y&&Zf x.free DI i):=by
   rw[QH,hx,QG0,Uy,DC hi]
  have hend:QH (Uy x.free) (i+1)=false→WP x=false:=by
   intro h;unfold WP;rw[←hsp];have:QH (Uy x.free) x.free.length=false:=by
    rw[QG5];intro h';rw[Qq.2 fun k hk=>Qq.1 h' k (by omega)]at h;cases h
   rw[this];rfl
  have fin:∀(f':Fr) (fr':Nat→Ob),QH (Uy x.free) (i+1)=true→f' 1=.ptr 0 1 0→f' 6=.list (x.free.map QV)→f' 7=.int .i64 (x.free.length:Nat)→f' 8=.int .i64 ((i+1:Nat):Int)→fr' 1=.cells x.cells→(∀s∈[4],(fr' s).isRow=false)→∃k,k<x.free.length-i∧OuI x m k ⟨f',fr' :: m,[]⟩:=by
   intro f' fr' a b c d e g h;exact⟨x.free.length-(i+1),by omega,f',fr',i+1,rfl,rfl,a,b,c,d,e,g,h⟩
  have s1:spn y=(!decide (y.lo<0) && !decide (y.hi > 2147483647) && !decide (y.hi<y.lo)):=by
   unfold spn;exact(by rw[QGj];simp only[QGH,QGl,QHb,QFU];omega)
  rw[s1]at hstep;simp only[Qz hlt,Qj,QGM,Qe,hg,QV,PS.cells,n4,h6,h8,eE,seval];cases a1:decide (y.lo<0)
  case true=>
   rw[a1,QG1,QGP,QGP,QGP]at hstep;simp only[hend hstep,QGv,Qa,seval]
  cases a2:decide (y.hi > 2147483647)
  case true=>
   rw[a1,a2,QG1,QHd,QGP,QGP]at hstep;simp only[a2,hend hstep,QGv,eE,seval]
  cases a3:decide (y.hi<y.lo)
  case true=>
   rw[a1,a2,a3,QG1,QHd,QGP]at hstep;simp only[a2,a3,hend hstep,QGv,eE,seval]
  rw[a1,a2,a3]at hstep;simp only[QGv,QG0]at hstep;cases i with
  |zero=>
   have d0:decide (((0:Nat):Int) > 0)=false:=rfl;rw[Pf]at hstep;simp only[a2,a3,h8,eE,seval];exact fin _ _ hstep (by exact h1) (by exact h6) (by exact h7) (by rfl) (by exact m1) (by simp<;>rfl)
  |succ j=>
   have d0:decide (((j+1:Nat):Int) > 0)=true:=QHa (by omega);obtain⟨z,hj⟩:∃z,x.free[j]? = some z:=⟨x.free[j]'(by omega),QFA (by omega)⟩;have hgj:(x.free.map fun n=>AV.agg n.cells)[j]? = some (.agg z.cells):=by simp[hj]
   simp only[PS.cells]at hgj;rw[Zj hj hi]at hstep;have w:=ZV j _ hlt hl;have s2:DI z y=!decide (y.lo≤z.hi):=by unfold DI;exact(by rw[QGj];simp only[QGH,QGl,QHb];omega)
   rw[s2]at hstep;simp only[a2,a3,d0,w,Qj,QGM,Qe,hgj,PS.cells,h1,m1,eE,seval];cases a4:decide (y.lo≤z.hi)
   ·rw[a4]at hstep;simp only[h8,e1,Qa,seval];exact fin _ _ hstep (by exact h1) (by exact h6) (by exact h7) (by rfl) (by exact m1) (by simp<;>rfl)
   ·rw[a4]at hstep;simp only[hend hstep,QGv,Qa,seval]
 ·have hfr:QH (Uy x.free) x.free.length=true:=Qq.2 fun k hk=>Qq.1 hx k (by omega)
  obtain⟨it,Qd,hits⟩:∃it Qd,x.items=it :: Qd:=by
   cases h:x.items with
   |nil=>exact absurd h h0
   |cons a b=>exact⟨a,b,rfl⟩
  have hr:WP x=(it.num==0&&x.items.all (U6 x)):=by
   unfold WP;rw[←hsp,hfr,QG0,Pg,hits]
  have hg0:(x.items.map fun n=>AV.agg n.cells)[0]? = some (.agg it.cells):=by simp[hits]
  have hne:(it.num != 0)=!(it.num==0):=rfl;simp only[PI.cells]at hg0;simp only[QB hlt,Qe,z0,z1,hg0,PI.cells,hr,hne,QFM,QGy,h1,m1,eE,seval];cases it.num==0
  ·simp only[QGv,QGP,Qa,seval]
  ·simp only[QG1,QG0,m1,h1,eE,seval];refine Qb (Sv x.items hl1 (fun o=>!U6 x o) 141 [.ptr 0 1 0] _ fun o _=>QyD o x hl _ _ (by exact m1)) (by simp only[QF3,QGo,h1,Qa,seval]<;>rfl) ?_;simp only[Xn,Qa,seval]

theorem z28 {M:Nat}(P:PL)(hP:P.ok M)(hi:∀e∈P.enums,e.items≠[]):Qr Tryz.prog 28 [P.av] (.bool (!F6 P)):=by
 have e0:P.av=.agg [.list (P.progs.map QR),.list (P.enums.map Q2)]:=rfl;refine k28.fn (by simp) ?_;simp only[e0,F6,eE,seval];refine Qb (F7 P.progs hP.len1 (fun g=>!g.ops.all WO) 83 [] _ fun o ho=>z83 o (hP.progs o ho).len _) (by simp only[QF3,QGo,Qa,seval]<;>rfl) ?_;simp only[Xn,Qa,seval];cases P.progs.all fun g=>g.ops.all WO
 ·simp only[QGv,QGP,Qa,seval]
 simp only[QG1,QG0,eE,seval];refine Qb (DJ P.enums hP.len2 (fun g=>!WP g) 85 [] _ fun o ho=>z85 o (hi o ho) (hP.enums o ho).len1 (hP.enums o ho).len2 _) (by simp only[QF3,QGo,Qa,seval]<;>rfl) ?_;simp only[Xn,Qa,seval]

end Go.Proofs.YtaiflhahcglpgaaGreatDoor.Va

namespace Go.Proofs.YtaiflhahcglpgaaGreatDoor.Va
open Go Am Rc Bt

def bt (s:List UInt8)(i lo hi:Nat):Bool :=
 match s[i]? with
 |some b=>decide (lo≤b.toNat)&&decide (b.toNat≤hi)
 |none=>false
def tl (s:List UInt8):Nat→Nat→Bool
 |_,0=>true
 |i,n+1=>bt s i 128 191&&tl s (i+1) n
def HG (s:List UInt8)(i b:Nat):Nat :=
 if b<128 then 1
 else if 194≤b∧b≤223∧tl s (i+1) 1=true then 2
 else if b=224∧bt s (i+1) 160 191=true∧tl s (i+2) 1=true then 3
 else if b=237∧bt s (i+1) 128 159=true∧tl s (i+2) 1=true then 3
 else if 225≤b∧b≤239∧b≠237∧tl s (i+1) 2=true then 3
 else if b=240∧bt s (i+1) 144 191=true∧tl s (i+2) 2=true then 4
 else if 241≤b∧b≤243∧tl s (i+1) 3=true then 4
 else if b=244∧bt s (i+1) 128 143=true∧tl s (i+2) 2=true then 4
 else 0
def sz (s:List UInt8)(i:Nat):Nat :=
 match s[i]? with
 |none=>0
 |some c=>HG s i c.toNat
def ZJ (s:List UInt8):Nat→Nat→Int
 |0,_=>-1
 |k+1,i=>if i<s.length then(if sz s i=0 then(i:Int)else ZJ s k (i+sz s i))else -1
def ZR (s:List UInt8):Bool:=decide (ZJ s s.length 0<0)

theorem QyE (c:UInt8)(n:Nat):decide ((c.toNat:Int)≥(n:Int))=decide (n≤c.toNat):=by simp
theorem QyF (c:UInt8)(n:Nat):decide ((c.toNat:Int)≤(n:Int))=decide (c.toNat≤n):=by simp

theorem DP (s:List UInt8)(i lo hi:Nat):Qr Tryz.prog 232 [.str s,.int .i64 (i:Nat),.int .u8 (lo:Nat),.int .u8 (hi:Nat)] (.bool (bt s i lo hi)):=by
 refine QxQ.fn (by simp) ?_;by_cases hlt:i<s.length
 ·obtain⟨c,hc⟩:∃c,s[i]? = some c:=⟨s[i],QFA hlt⟩;have hb:bt s i lo hi=(decide (lo≤c.toNat)&&decide (c.toNat≤hi)):=by simp only[bt,hc]
  simp only[Qz hlt,Qj,QGM,hc,QyE,Qa,seval];by_cases h1:lo≤c.toNat
  ·have d1:decide (lo≤c.toNat)=true:=by simpa using h1
   simp only[d1,Qj,QGM,hc,hb,QyF,QG0,Qa,seval]
  ·have d1:decide (lo≤c.toNat)=false:=by simpa using h1
   simp only[d1,hb,QGP,Qa,seval]
 ·have hb:bt s i lo hi=false:=by simp only[bt,QGJ (Nat.le_of_not_lt hlt)]
  simp only[QB hlt,hb,Qa,seval]

def QsB (s:List UInt8)(i n:Nat)(k:Nat)(st:St):Prop :=
 ∃f j,st=⟨f,[Qc],[]⟩∧k=n-j∧j≤n∧tl s i n=tl s (i+j) (n-j)∧f 0=.str s∧f 1=.int .i64 (i:Nat)∧f 2=.int .i64 (n:Nat)∧f 7=.int .i64 (j:Nat)

theorem Jh (a b:Nat)(h:a+b≤maxLen):IntKind.i64.wrap ((a:Int)+(b:Int))=((a+b:Nat):Int):=by
 simp only[maxLen]at h;rw[ZO];omega

theorem YF (s:List UInt8)(i n:Nat)(hi:i+n≤maxLen):Qr Tryz.prog 231 [.str s,.int .i64 (i:Nat),.int .i64 (n:Nat)] (.bool (tl s i n)):=by
 refine QxN.fn (by simp) ?_;simp only[Qa,seval];refine Qg (QsB s i n) _ ⟨_,0,rfl,rfl,QFG _,rfl,rfl,rfl,rfl,rfl⟩ ?_;rintro _ st ⟨f,j,rfl,rfl,hj,ht,h0,h1,h2,h7⟩;simp only[h2,h7,Qa,seval];by_cases hlt:j<n
 ·have e0:=Jh i j (by omega);have e1:=Qn j _ hlt (by omega);simp only[Qz hlt,h0,h1,h7,e0,Qa,seval];refine aC (DP s (i+j) 128 191) ?_;have hs:tl s i n=(bt s (i+j) 128 191&&tl s (i+(j+1)) (n-(j+1))):=by
   rw[ht];obtain⟨m,hm⟩:∃m,n-j=m+1:=⟨n-j-1,by omega⟩;rw[hm,show n-(j+1)=m by omega];rfl
  cases hb:bt s (i+j) 128 191
  ·rw[hb]at hs;simp only[hs,QGP,Qa,seval]
  ·rw[hb,QG0]at hs;simp only[h7,e1,Qa,seval];exact⟨n-(j+1),by omega,_,j+1,rfl,rfl,by omega,hs,(by exact h0),(by exact h1),(by exact h2),(by rfl)⟩
 ·have hs:tl s i n=true:=by
   rw[ht,show n-j=0 by omega];rfl
  simp only[QB hlt,hs,Qa,seval]

def DQ (s:List UInt8)(i:Nat)(c:UInt8)(D:Nat)(cond:Prop)(g:List Am.Item):Prop :=
 ∀Q:St→Prop,(∀f' B,(B=true↔cond)→f' 0=.str s→f' 1=.int .i64 (i:Nat)→f' 5=.int .u8 (c.toNat:Nat)→f' D=.bool B→Q ⟨f',[Qc],[]⟩)→
  ∀f,f 0=.str s→f 1=.int .i64 (i:Nat)→f 5=.int .u8 (c.toNat:Nat)→Qp Tryz.prog g ⟨f,[Qc],[]⟩ Q

section
variable {s:List UInt8}{i:Nat}{c:UInt8}(hi:i<s.length)(hs:s.length+8≤maxLen)
include hi hs

theorem QyG:DQ s i c 12 (194≤c.toNat∧c.toNat≤223∧tl s (i+1) 1=true) Dz:=by
 intro Q hQ f h0 h1 h5;have e1:IntKind.i64.wrap ((i:Int)+1)=((i+1:Nat):Int):=Jh i 1 (by omega);have e2:IntKind.i64.wrap ((i:Int)+2)=((i+2:Nat):Int):=Jh i 2 (by omega);simp only[Dz,h5,Qa,seval]
 repeat' (first|(refine XW (fun h=>?_) (fun h=>?_)<;>simp only[h,h0,h1,h5,e1,e2,eE,seval])|(refine Zy (fun h=>?_) (fun h=>?_)<;>simp only[h,Qk,h0,h1,h5,e1,Qa,seval])|(refine Zz (fun h=>?_) (fun h=>?_)<;>simp only[h,Qk,h0,h1,h5,e1,e2,eE,seval])|((with_reducible apply Xd (k:=231));(case hy=>rfl);(case h1=>rfl);(case hk=>exact YF s (i+1) 1 (by omega));(case h2=>rfl);(case h3=>first|exact .inl rfl|exact .inr rfl);simp only[Qa,seval]))
 all_goals(refine hQ _ _ ?_ (by exact h0) (by exact h1) (by exact h5) rfl)
 all_goals simp only[QGH,QHb]at *
 all_goals
  constructor
  ·intro hh
   first
    |cases hh
    |(refine⟨by omega,?_⟩;first|exact hh|(refine⟨by omega,?_⟩;first|exact hh|(refine⟨by omega,?_⟩;exact hh))|exact⟨by assumption,hh⟩)
  ·intro hh
   first
    |exact hh.2.2.2
    |exact hh.2.2
    |(exfalso;omega)
    |(exfalso;simp_all;done)

theorem QyH:DQ s i c 25 (c.toNat=224∧bt s (i+1) 160 191=true∧tl s (i+2) 1=true) DA:=by
 intro Q hQ f h0 h1 h5;have e1:IntKind.i64.wrap ((i:Int)+1)=((i+1:Nat):Int):=Jh i 1 (by omega);have e2:IntKind.i64.wrap ((i:Int)+2)=((i+2:Nat):Int):=Jh i 2 (by omega);simp only[DA,h5,Qa,seval]
 repeat' (first|(refine XW (fun h=>?_) (fun h=>?_)<;>simp only[h,h0,h1,h5,e1,e2,eE,seval])|(refine Zy (fun h=>?_) (fun h=>?_)<;>simp only[h,Qk,h0,h1,e1,e2,Qa,seval])|(refine Zz (fun h=>?_) (fun h=>?_)<;>simp only[h,Qk,h0,h1,h5,e1,e2,eE,seval])|((with_reducible apply Xd (k:=232));(case hy=>rfl);(case h1=>rfl);(case hk=>exact DP s (i+1) 160 191);(case h2=>rfl);(case h3=>first|exact .inl rfl|exact .inr rfl);simp only[Qa,seval])|((with_reducible apply Xd (k:=231));(case hy=>rfl);(case h1=>rfl);(case hk=>exact YF s (i+2) 1 (by omega));(case h2=>rfl);(case h3=>first|exact .inl rfl|exact .inr rfl);simp only[Qa,seval]))
 all_goals(refine hQ _ _ ?_ (by exact h0) (by exact h1) (by exact h5) rfl)
 all_goals simp only[QFV,QHc,ne_eq]at *
 all_goals
  constructor
  ·intro hh
   first
    |cases hh
    |(refine⟨by omega,?_⟩;first|exact hh|(refine⟨by omega,?_⟩;first|exact hh|(refine⟨by omega,?_⟩;exact hh))|exact⟨by assumption,hh⟩)
  ·intro hh
   first
    |exact hh.2.2.2
    |exact hh.2.2
    |(exfalso;omega)
    |(exfalso;simp_all;done)

theorem QyI:DQ s i c 40 (c.toNat=237∧bt s (i+1) 128 159=true∧tl s (i+2) 1=true) DB:=by
 intro Q hQ f h0 h1 h5;have e1:IntKind.i64.wrap ((i:Int)+1)=((i+1:Nat):Int):=Jh i 1 (by omega);have e2:IntKind.i64.wrap ((i:Int)+2)=((i+2:Nat):Int):=Jh i 2 (by omega);simp only[DB,h5,Qa,seval]
 repeat' (first|(refine XW (fun h=>?_) (fun h=>?_)<;>simp only[h,h0,h1,h5,e1,e2,eE,seval])|(refine Zy (fun h=>?_) (fun h=>?_)<;>simp only[h,Qk,h0,h1,e1,e2,Qa,seval])|(refine Zz (fun h=>?_) (fun h=>?_)<;>simp only[h,Qk,h0,h1,h5,e1,e2,eE,seval])|((with_reducible apply Xd (k:=232));(case hy=>rfl);(case h1=>rfl);(case hk=>exact DP s (i+1) 128 159);(case h2=>rfl);(case h3=>first|exact .inl rfl|exact .inr rfl);simp only[Qa,seval])|((with_reducible apply Xd (k:=231));(case hy=>rfl);(case h1=>rfl);(case hk=>exact YF s (i+2) 1 (by omega));(case h2=>rfl);(case h3=>first|exact .inl rfl|exact .inr rfl);simp only[Qa,seval]))
 all_goals(refine hQ _ _ ?_ (by exact h0) (by exact h1) (by exact h5) rfl)
 all_goals simp only[QFV,QHc,ne_eq]at *
 all_goals
  constructor
  ·intro hh
   first
    |cases hh
    |(refine⟨by omega,?_⟩;first|exact hh|(refine⟨by omega,?_⟩;first|exact hh|(refine⟨by omega,?_⟩;exact hh))|exact⟨by assumption,hh⟩)
  ·intro hh
   first
    |exact hh.2.2.2
    |exact hh.2.2
    |(exfalso;omega)
    |(exfalso;simp_all;done)

theorem QsC:DQ s i c 55 (225≤c.toNat∧c.toNat≤239∧c.toNat≠237∧tl s (i+1) 2=true) UZ:=by
 intro Q hQ f h0 h1 h5;have e1:IntKind.i64.wrap ((i:Int)+1)=((i+1:Nat):Int):=Jh i 1 (by omega);have e2:IntKind.i64.wrap ((i:Int)+2)=((i+2:Nat):Int):=Jh i 2 (by omega);simp only[UZ,h5,Qa,seval]
 repeat' (first|(refine XW (fun h=>?_) (fun h=>?_)<;>simp only[h,h0,h1,h5,e1,e2,eE,seval])|(refine Zy (fun h=>?_) (fun h=>?_)<;>simp only[h,Qk,h0,h1,h5,e1,Qa,seval])|(refine Zz (fun h=>?_) (fun h=>?_)<;>simp only[h,Qk,h0,h1,h5,e1,e2,eE,seval])|((with_reducible apply Xd (k:=231));(case hy=>rfl);(case h1=>rfl);(case hk=>exact YF s (i+1) 2 (by omega));(case h2=>rfl);(case h3=>first|exact .inl rfl|exact .inr rfl);simp only[Qa,seval]))
 all_goals(refine hQ _ _ ?_ (by exact h0) (by exact h1) (by exact h5) rfl)
 all_goals simp only[QGH,QHb,QFZ,bne_eq_false_iff_eq,ne_eq]at *
 all_goals
  constructor
  ·intro hh
   first
    |cases hh
    |(refine⟨by omega,?_⟩;first|exact hh|(refine⟨by omega,?_⟩;first|exact hh|(refine⟨by omega,?_⟩;exact hh))|exact⟨by assumption,hh⟩)
  ·intro hh
   first
    |exact hh.2.2.2
    |exact hh.2.2
    |(exfalso;omega)
    |(exfalso;simp_all;done)

theorem QsD:DQ s i c 72 (c.toNat=240∧bt s (i+1) 144 191=true∧tl s (i+2) 2=true) U0:=by
 intro Q hQ f h0 h1 h5;have e1:IntKind.i64.wrap ((i:Int)+1)=((i+1:Nat):Int):=Jh i 1 (by omega);have e2:IntKind.i64.wrap ((i:Int)+2)=((i+2:Nat):Int):=Jh i 2 (by omega);simp only[U0,h5,Qa,seval]
 repeat' (first|(refine XW (fun h=>?_) (fun h=>?_)<;>simp only[h,h0,h1,h5,e1,e2,eE,seval])|(refine Zy (fun h=>?_) (fun h=>?_)<;>simp only[h,Qk,h0,h1,e1,e2,Qa,seval])|(refine Zz (fun h=>?_) (fun h=>?_)<;>simp only[h,Qk,h0,h1,h5,e1,e2,eE,seval])|((with_reducible apply Xd (k:=232));(case hy=>rfl);(case h1=>rfl);(case hk=>exact DP s (i+1) 144 191);(case h2=>rfl);(case h3=>first|exact .inl rfl|exact .inr rfl);simp only[Qa,seval])|((with_reducible apply Xd (k:=231));(case hy=>rfl);(case h1=>rfl);(case hk=>exact YF s (i+2) 2 (by omega));(case h2=>rfl);(case h3=>first|exact .inl rfl|exact .inr rfl);simp only[Qa,seval]))
 all_goals(refine hQ _ _ ?_ (by exact h0) (by exact h1) (by exact h5) rfl)
 all_goals simp only[QFV,QHc,ne_eq]at *
 all_goals
  constructor
  ·intro hh
   first
    |cases hh
    |(refine⟨by omega,?_⟩;first|exact hh|(refine⟨by omega,?_⟩;first|exact hh|(refine⟨by omega,?_⟩;exact hh))|exact⟨by assumption,hh⟩)
  ·intro hh
   first
    |exact hh.2.2.2
    |exact hh.2.2
    |(exfalso;omega)
    |(exfalso;simp_all;done)

theorem QsE:DQ s i c 87 (241≤c.toNat∧c.toNat≤243∧tl s (i+1) 3=true) U1:=by
 intro Q hQ f h0 h1 h5;have e1:IntKind.i64.wrap ((i:Int)+1)=((i+1:Nat):Int):=Jh i 1 (by omega);have e2:IntKind.i64.wrap ((i:Int)+2)=((i+2:Nat):Int):=Jh i 2 (by omega);simp only[U1,h5,Qa,seval]
 repeat' (first|(refine XW (fun h=>?_) (fun h=>?_)<;>simp only[h,h0,h1,h5,e1,e2,eE,seval])|(refine Zy (fun h=>?_) (fun h=>?_)<;>simp only[h,Qk,h0,h1,h5,e1,Qa,seval])|(refine Zz (fun h=>?_) (fun h=>?_)<;>simp only[h,Qk,h0,h1,h5,e1,e2,eE,seval])|((with_reducible apply Xd (k:=231));(case hy=>rfl);(case h1=>rfl);(case hk=>exact YF s (i+1) 3 (by omega));(case h2=>rfl);(case h3=>first|exact .inl rfl|exact .inr rfl);simp only[Qa,seval]))
 all_goals(refine hQ _ _ ?_ (by exact h0) (by exact h1) (by exact h5) rfl)
 all_goals simp only[QGH,QHb]at *
 all_goals
  constructor
  ·intro hh
   first
    |cases hh
    |(refine⟨by omega,?_⟩;first|exact hh|(refine⟨by omega,?_⟩;first|exact hh|(refine⟨by omega,?_⟩;exact hh))|exact⟨by assumption,hh⟩)
  ·intro hh
   first
    |exact hh.2.2.2
    |exact hh.2.2
    |(exfalso;omega)
    |(exfalso;simp_all;done)

theorem QsF:DQ s i c 100 (c.toNat=244∧bt s (i+1) 128 143=true∧tl s (i+2) 2=true) U2:=by
 intro Q hQ f h0 h1 h5;have e1:IntKind.i64.wrap ((i:Int)+1)=((i+1:Nat):Int):=Jh i 1 (by omega);have e2:IntKind.i64.wrap ((i:Int)+2)=((i+2:Nat):Int):=Jh i 2 (by omega);simp only[U2,h5,Qa,seval]
 repeat' (first|(refine XW (fun h=>?_) (fun h=>?_)<;>simp only[h,h0,h1,h5,e1,e2,eE,seval])|(refine Zy (fun h=>?_) (fun h=>?_)<;>simp only[h,Qk,h0,h1,e1,e2,Qa,seval])|(refine Zz (fun h=>?_) (fun h=>?_)<;>simp only[h,Qk,h0,h1,h5,e1,e2,eE,seval])|((with_reducible apply Xd (k:=232));(case hy=>rfl);(case h1=>rfl);(case hk=>exact DP s (i+1) 128 143);(case h2=>rfl);(case h3=>first|exact .inl rfl|exact .inr rfl);simp only[Qa,seval])|((with_reducible apply Xd (k:=231));(case hy=>rfl);(case h1=>rfl);(case hk=>exact YF s (i+2) 2 (by omega));(case h2=>rfl);(case h3=>first|exact .inl rfl|exact .inr rfl);simp only[Qa,seval]))
 all_goals(refine hQ _ _ ?_ (by exact h0) (by exact h1) (by exact h5) rfl)
 all_goals simp only[QFV,QHc,ne_eq]at *
 all_goals
  constructor
  ·intro hh
   first
    |cases hh
    |(refine⟨by omega,?_⟩;first|exact hh|(refine⟨by omega,?_⟩;first|exact hh|(refine⟨by omega,?_⟩;exact hh))|exact⟨by assumption,hh⟩)
  ·intro hh
   first
    |exact hh.2.2.2
    |exact hh.2.2
    |(exfalso;omega)
    |(exfalso;simp_all;done)

end

theorem QyJ (s:List UInt8)(i:Nat)(hi:i<s.length)(hs:s.length+8≤maxLen):Qr Tryz.prog 211 [.str s,.int .i64 (i:Nat)] (.int .i64 (sz s i:Nat)):=by
 refine Qxh.fn (by simp) ?_;obtain⟨c,hc⟩:∃c,s[i]? = some c:=⟨s[i],QFA hi⟩;have hz:sz s i=HG s i c.toNat:=by simp only[sz,hc]
 unfold HG at hz;simp only[Cy,Cz,CA,CB,CC,CD,CE,FX,FY,FZ,F0,F1,Qkv,Qkw,Qj,QGM,hc,Qa,seval];refine XW (fun h=>?_) (fun h=>?_)
 ·have h:c.toNat<128:=by simp at h;omega
  rw[hz,QFF h];simp only[Qa,seval]
  try rfl
 have h:¬c.toNat<128:=by simp at h;omega
 rw[hz,QFE h];simp only[Qa,seval];refine QyG hi hs _ (fun f B hB h0 h1 h5 hd=>?_) _ (by rfl) (by rfl) (by rfl);by_cases hB1:B=true
 ·rw[QFF (hB.1 hB1)];subst hB1;simp only[hd,Qa,seval]
  try rfl
 rw[QFE (fun hh=>hB1 (hB.2 hh))];have hB2:B=false:=by simpa using hB1
 subst hB2;simp only[hd,Qa,seval];refine QyH hi hs _ (fun f B hB h0 h1 h5 hd=>?_) _ (by exact h0) (by exact h1) (by exact h5);by_cases hB1:B=true
 ·rw[QFF (hB.1 hB1)];subst hB1;simp only[hd,Qa,seval]
  try rfl
 rw[QFE (fun hh=>hB1 (hB.2 hh))];have hB2:B=false:=by simpa using hB1
 subst hB2;simp only[hd,Qa,seval];refine QyI hi hs _ (fun f B hB h0 h1 h5 hd=>?_) _ (by exact h0) (by exact h1) (by exact h5);by_cases hB1:B=true
 ·rw[QFF (hB.1 hB1)];subst hB1;simp only[hd,Qa,seval]
  try rfl
 rw[QFE (fun hh=>hB1 (hB.2 hh))];have hB2:B=false:=by simpa using hB1
 subst hB2;simp only[hd,Qa,seval];refine QsC hi hs _ (fun f B hB h0 h1 h5 hd=>?_) _ (by exact h0) (by exact h1) (by exact h5);by_cases hB1:B=true
 ·rw[QFF (hB.1 hB1)];subst hB1;simp only[hd,Qa,seval]
  try rfl
 rw[QFE (fun hh=>hB1 (hB.2 hh))];have hB2:B=false:=by simpa using hB1
 subst hB2;simp only[hd,Qa,seval];refine QsD hi hs _ (fun f B hB h0 h1 h5 hd=>?_) _ (by exact h0) (by exact h1) (by exact h5);by_cases hB1:B=true
 ·rw[QFF (hB.1 hB1)];subst hB1;simp only[hd,Qa,seval]
  try rfl
 rw[QFE (fun hh=>hB1 (hB.2 hh))];have hB2:B=false:=by simpa using hB1
 subst hB2;simp only[hd,Qa,seval];refine QsE hi hs _ (fun f B hB h0 h1 h5 hd=>?_) _ (by exact h0) (by exact h1) (by exact h5);by_cases hB1:B=true
 ·rw[QFF (hB.1 hB1)];subst hB1;simp only[hd,Qa,seval]
  try rfl
 rw[QFE (fun hh=>hB1 (hB.2 hh))];have hB2:B=false:=by simpa using hB1
 subst hB2;simp only[hd,Qa,seval];refine QsF hi hs _ (fun f B hB h0 h1 h5 hd=>?_) _ (by exact h0) (by exact h1) (by exact h5);by_cases hB1:B=true
 ·rw[QFF (hB.1 hB1)];subst hB1;simp only[hd,Qa,seval]
  try rfl
 rw[QFE (fun hh=>hB1 (hB.2 hh))];have hB2:B=false:=by simpa using hB1
 subst hB2;simp only[hd,Qa,seval]
 try rfl

theorem Sx (s:List UInt8)(i:Nat)(hi:i<s.length)(_h:sz s i≠0):i+sz s i≤s.length:=by
 have tl1:∀n j,tl s j n=true→n≠0→j+n≤s.length:=by
  intro n
  induction n with
  |zero=>intro j _ h;exact absurd rfl h
  |succ n ih=>
   intro j hj _;simp only[tl,QFU]at hj;have hb:j<s.length:=by
    have h1:=hj.1;unfold bt at h1;split at h1
    ·rename_i b hb;exact(QFz.1 hb).1
    ·cases h1
   by_cases h0:n=0
   ·subst h0;omega
   ·have:=ih (j+1) hj.2 h0;omega
 obtain⟨c,hc⟩:∃c,s[i]? = some c:=⟨s[i],QFA hi⟩;simp only[sz,hc]at _h ⊢;unfold HG at _h ⊢
 (repeat' split)<;>first
  |omega
  |(rename_i hh;have:=tl1 _ _ hh.2.2 (by decide);omega)
  |(rename_i hh;have:=tl1 _ _ hh.2.2.2 (by decide);omega)
  |simp_all

def QyK (s:List UInt8)(k:Nat)(st:St):Prop :=
 ∃f i,st=⟨f,[Qc],[]⟩∧i≤s.length∧s.length-i≤k∧ZJ s s.length 0=ZJ s k i∧f 0=.str s∧f 3=.int .i64 (i:Nat)

theorem QyL (s:List UInt8)(hs:s.length+8≤maxLen):Qr Tryz.prog 176 [.str s] (.int .i64 (ZJ s s.length 0)):=by
 refine Qwv.fn (by simp) ?_;simp only[Qa,seval];refine Qg (QyK s) s.length ⟨_,0,rfl,QFG _,QFx _,rfl,rfl,rfl⟩ ?_;rintro k st ⟨f,i,rfl,hi,hk,hb,h0,h3⟩;simp only[h0,h3,Qa,seval];by_cases hlt:i<s.length
 ·simp only[Qz hlt,h0,h3,Qa,seval];refine aC (QyJ s i hlt hs) ?_;obtain⟨k,rfl⟩:∃n,k=n+1:=⟨k-1,by omega⟩;have hbk:ZJ s (k+1) i=if sz s i=0 then(i:Int)else ZJ s k (i+sz s i):=by
   show(if i<s.length then _ else _)=_;rw[QFF hlt]
  by_cases hz:sz s i=0
  ·have b0:((sz s i:Int)==0)=true:=by simp[hz]
   simp only[b0,h3,hb,hbk,QFF hz,Qa,seval]
  ·have b0:((sz s i:Int)==0)=false:=by simp;omega
   have hle:=Sx s i hlt hz;have e0:=Jh i (sz s i) (by omega);simp only[b0,h3,e0,Qa,seval];exact⟨k,by omega,_,i+sz s i,rfl,hle,by omega,by rw[hb,hbk,QFE hz],(by exact h0),(by rfl)⟩
 ·have hbk:ZJ s k i = -1:=by
   cases k with
   |zero=>rfl
   |succ k=>
    show(if i<s.length then _ else _)=_;rw[QFE hlt]
  simp only[QB hlt,hb,hbk,Qa,seval]

theorem QlQ (s:List UInt8)(hs:s.length+8≤maxLen):Qr Tryz.prog 128 [.str s] (.bool (ZR s)):=by
 refine Qve.fn (by simp) ?_;simp only[Qa,seval];refine aC (QyL s hs) ?_;simp only[Qa,seval]
 try rfl

def Ka (s:List UInt8)(i:Nat):Bool:=(s.drop i).take 3==[239,191,189]

theorem QyM (s t:List UInt8):Qr Tryz.prog 237 [.str s,.str t] (.bool (s.take t.length==t)):=by
 refine QxU.fn (by simp) ?_;by_cases h:t.length≤s.length
 ·have d0:decide ((s.length:Int)≥(t.length:Int))=true:=by simp;omega
  have s1:(0≤t.length∧t.length≤s.length)=True:=by simp;omega
  simp only[d0,Qj,s1,QGM,Qy,QGD,QGb,Qa,seval]
 ·have d0:decide ((s.length:Int)≥(t.length:Int))=false:=by simp;omega
  have e0:(s.take t.length==t)=false:=by
   rw[QHc];intro hh;have:=congrArg List.length hh;simp at this;omega
  simp only[d0,e0,Qa,seval]

theorem QyN (s t:List UInt8):Qr Tryz.prog 216 [.str s,.str t] (.bool (s.take t.length==t)):=by
 refine Qxn.fn (by simp) ?_;simp only[Qa,seval];refine aC (QyM s t) ?_;simp only[Qa,seval]

theorem QyO (s:List UInt8)(i:Nat)(hi:i≤s.length)(c:Nat):Qr Tryz.prog 185 [.str s,.int .i64 (i:Nat),.int .i32 (c:Nat)] (.bool (decide (c=65533) && !Ka s i)):=by
 refine QwJ.fn (by simp) ?_;by_cases hc:c=65533
 ·have b0:((c:Int)==65533)=true:=by simp[hc]
  have s1:(i≤s.length∧s.length≤s.length)=True:=by simp;omega
  simp only[b0,Qj,s1,QGM,Qa,seval];refine aC (QyN (List.take (s.length-i) (List.drop i s)) [239,191,189]) ?_;have ht:List.take (s.length-i) (List.drop i s)=List.drop i s:=QF4 (by simp);simp only[ht,Ka,hc,Qa,seval]
 ·have b0:((c:Int)==65533)=false:=by simp;omega
  simp only[b0,hc,Qa,seval];simp

open Vp

theorem Jm (s:List UInt8)(j:Nat)(c:UInt8)(h:s[j]? = some c):(⟨⟨s⟩⟩:ByteArray).get! j=c:=by
 show(⟨s⟩:Array UInt8)[j]! = c;simp[h]

theorem U7 (a:UInt8)(n:Nat)(hn:n<256):(a==UInt8.ofNat n)=decide (a.toNat=n):=by
 rw[QGj,QFV,QGH]
 constructor
 ·rintro rfl;rw[Yq _ hn]
 ·intro h;rw[←UInt8.toNat_inj,Yq _ hn,h]

set_option maxHeartbeats 4000000 in
theorem QyP (s:List UInt8)(i:Nat)(a b c d:UInt8)(t:List UInt8)(hr:s.drop i=a :: b :: c :: d :: t):(decide ((Xl s i).1=65533) && !Ka s i)=decide (sz s i=0)∧(sz s i≠0→(Xl s i).2=sz s i):=by
 have hsz:∀j,(s[i+j]? = (a :: b :: c :: d :: t)[j]?):=fun j=>by rw[←hr,QF9]
 have hn:ByteArray.size ⟨⟨s⟩⟩=s.length:=rfl;have hl:s.length=i+(a :: b :: c :: d :: t).length:=by
  have h:=congrArg List.length hr;simp at h ⊢;omega
 have h0:=hsz 0;have h1:=hsz 1;have h2:=hsz 2;have h3:=hsz 3;simp only[QF2]at h0;have g0:=Jm s i a h0;have g1:=Jm s (i+1) b h1;have g2:=Jm s (i+2) c h2;have g3:=Jm s (i+3) d h3;have l1:(i+1<s.length)=True:=by simp at hl ⊢;omega
 have l2:(i+2<s.length)=True:=by simp at hl ⊢;omega
 have l3:(i+3<s.length)=True:=by simp at hl ⊢;omega
 have wa:=a.toNat_lt;have wb:=b.toNat_lt;have wc:=c.toNat_lt;have wd:=d.toNat_lt;have hrep:Ka s i=(decide (a.toNat=239)&&(decide (b.toNat=191)&&decide (c.toNat=189))):=by
  rw[←U7 a 239 (by decide),←U7 b 191 (by decide),←U7 c 189 (by decide)];simp[Ka,hr]
 simp only[QGu,QGp]at h0 h1 h2 h3;generalize hD:Xl s i=D;generalize hS:sz s i=S;rw[hrep];simp only[Xl,Utf8.decode,Utf8.valid,Utf8.runeError,hn,l1,l2,l3,QF2,g0,g1,g2,g3,sz,h0,HG,tl,bt,QFw,seval,h1,h2,h3,decide_true,QG0,QGA,QFU,QGm,QGH,QFV,ge_iff_le]at hD hS;clear hsz hr hl h0 h1 h2 h3 g0 g1 g2 g3 l1 l2 l3 hrep hn;generalize a.toNat=x at *;generalize b.toNat=y at *;generalize c.toNat=z at *;generalize d.toNat=u at *
 (repeat' split at hD)<;>subst hD<;>(repeat' split at hS)<;>subst hS<;>refine⟨?_,?_⟩<;>(try rw[QGj])<;>(try simp only[QFU,QGH,QGl,QHi,QHb])<;>first|omega|(intro _;rfl)|(simp;done)|(simp;omega)

theorem Po (s:List UInt8)(i:Nat)(hi:i<s.length):(decide ((Xl s i).1=65533) && !Ka s i)=decide (sz s i=0)∧(sz s i≠0→(Xl s i).2=sz s i):=by
 have hsz:∀j,(s[i+j]? = (s.drop i)[j]?):=fun j=>by rw[QF9]
 have hn:ByteArray.size ⟨⟨s⟩⟩=s.length:=rfl;have hl:s.length=i+(s.drop i).length:=by simp;omega
 generalize hr:s.drop i=r at hsz hl;have h0:=hsz 0;have h1:=hsz 1;have h2:=hsz 2;have h3:=hsz 3;simp only[QF2]at h0
 match r,hl with
 | [],hl=>simp at hl;omega
 | [a],hl=>
  have g0:=Jm s i a h0;have l1:(i+1<s.length)=False:=by simp at hl ⊢;omega
  have l2:(i+2<s.length)=False:=by simp at hl ⊢;omega
  have l3:(i+3<s.length)=False:=by simp at hl ⊢;omega
  have wa:=a.toNat_lt;have hrep:Ka s i=false:=by simp[Ka,hr]
  simp only[QGu,List.getElem?_nil,QGp]at h0 h1 h2 h3;simp only[Xl,Utf8.decode,Utf8.runeError,hn,l1,l2,l3,QF2,g0,sz,h0,HG,tl,bt,QFw,seval,h1,h2,h3,hrep,decide_false,QGP,QHd,QGA,QFQ,and_false]
  (repeat' split)<;>refine⟨?_,?_⟩<;>(try rw[QGj])<;>(try simp only[QGH,QGv,QGA])<;>first|omega|(intro _;rfl)|(intro _;omega)|(simp;done)|(simp;omega)
 | [a,b],hl=>
  have g0:=Jm s i a h0;have g1:=Jm s (i+1) b h1;have l1:(i+1<s.length)=True:=by simp at hl ⊢;omega
  have l2:(i+2<s.length)=False:=by simp at hl ⊢;omega
  have l3:(i+3<s.length)=False:=by simp at hl ⊢;omega
  have wa:=a.toNat_lt;have wb:=b.toNat_lt;have hrep:Ka s i=false:=by simp[Ka,hr]
  simp only[QGu,List.getElem?_nil,QGp]at h0 h1 h2 h3;simp only[Xl,Utf8.decode,Utf8.runeError,hn,l1,l2,l3,QF2,g0,g1,sz,h0,HG,tl,bt,QFw,seval,h1,h2,h3,hrep,decide_false,decide_true,QGP,QHd,QG0,QGA,QFQ,and_false,QFU,QGH,QFV,ge_iff_le]
  (repeat' split)<;>refine⟨?_,?_⟩<;>(try rw[QGj])<;>(try simp only[QGH,QGv,QGA])<;>first|omega|(intro _;rfl)|(intro _;omega)|(simp;done)|(simp;omega)
 | [a,b,c],hl=>
  have g0:=Jm s i a h0;have g1:=Jm s (i+1) b h1;have g2:=Jm s (i+2) c h2;have l1:(i+1<s.length)=True:=by simp at hl ⊢;omega
  have l2:(i+2<s.length)=True:=by simp at hl ⊢;omega
  have l3:(i+3<s.length)=False:=by simp at hl ⊢;omega
  have wa:=a.toNat_lt;have wb:=b.toNat_lt;have wc:=c.toNat_lt;have hrep:Ka s i=(decide (a.toNat=239)&&(decide (b.toNat=191)&&decide (c.toNat=189))):=by
   rw[←U7 a 239 (by decide),←U7 b 191 (by decide),←U7 c 189 (by decide)];simp[Ka,hr]
  simp only[QGu,List.getElem?_nil,QGp]at h0 h1 h2 h3;simp only[Xl,Utf8.decode,Utf8.valid,Utf8.runeError,hn,l1,l2,l3,QF2,g0,g1,g2,sz,h0,HG,tl,bt,QFw,seval,h1,h2,h3,hrep,decide_false,decide_true,QGP,QHd,QG0,QGA,QFQ,and_false,QFU,QGm,QGH,QFV,ge_iff_le]
  (repeat' split)<;>refine⟨?_,?_⟩<;>(try rw[QGj])<;>(try simp only[QFU,QGH,QGl,QHb,QHi])<;>first|omega|(intro _;rfl)|(intro _;omega)|(simp;done)|(simp;omega)
 |a :: b :: c :: d :: t,hl=>exact QyP s i a b c d t hr

def QyQ (s:List UInt8)(k:Nat)(st:St):Prop :=
 ∃f fr i,st=⟨f,[fr],[]⟩∧i≤s.length∧s.length-i≤k∧ZJ s s.length 0=ZJ s k i∧f 0=.str s∧f 6=.ptr 0 6 0∧fr 6=.iter (.str s) i

theorem QyR (s:List UInt8):Qr Tryz.prog 143 [.str s] (.int .i64 (ZJ s s.length 0)):=by
 refine QvE.fn (by simp) ?_;simp only[Qa,seval];refine Hw rfl rfl ?_;simp only[Qa,seval];refine Qg (QyQ s) s.length ⟨_,_,0,rfl,QFG _,QFx _,rfl,(by rfl),(by rfl),(by rfl)⟩ ?_;rintro k st ⟨f,fr,i,rfl,hi,hk,hb,h0,h6,m6⟩;simp only[Qa,seval];refine Hx (by exact h6) m6 (fun hlt=>?_) (fun hge=>?_)
 ·obtain⟨hd,hw⟩:=Po s i hlt;obtain⟨k,rfl⟩:∃n,k=n+1:=⟨k-1,by omega⟩;have hbk:ZJ s (k+1) i=if sz s i=0 then(i:Int)else ZJ s k (i+sz s i):=by
   show(if i<s.length then _ else _)=_;rw[QFF hlt]
  have hwr:=QyO s i hi (Xl s i).1;rw[hd]at hwr;generalize Xl s i=cw at hw hwr;obtain⟨c,w⟩:=cw;simp only[h0,Qa,seval];refine aC hwr ?_;by_cases hz:sz s i=0
  ·simp only[hz,decide_true,hb,hbk,Qa,seval]
  ·have hw:=hw hz;simp only at hw;have hle:=Sx s i hlt hz;simp only[hz,decide_false,Qa,seval];exact⟨k,by omega,_,_,i+sz s i,rfl,hle,by omega,by rw[hb,hbk,QFE hz],(by exact h0),(by exact h6),by rw[←hw]<;>first|rfl|simp only[eE,seval]⟩
 ·have hbk:ZJ s k i = -1:=by
   cases k with
   |zero=>rfl
   |succ k=>
    show(if i<s.length then _ else _)=_;rw[QFE (by omega)]
  simp only[hb,hbk,Qa,seval]

theorem x89 (s:List UInt8):Qr Tryz.prog 89 [.str s] (.bool (ZR s)):=by
 refine k89.fn (by simp) ?_;simp only[Qa,seval];refine aC (QyR s) ?_;simp only[Qa,seval]
 try rfl

end Go.Proofs.YtaiflhahcglpgaaGreatDoor.Va

namespace Go.Proofs.YtaiflhahcglpgaaGreatDoor.Va
open Go Am Rc Bt

def U8 (k:Int)(b:Nat):Bool :=
 if k=1 then decide ((b:Int)≤1)else if k=2 then decide (IntKind.i64.wrap (b:Int)≥-2147483648)&&decide (IntKind.i64.wrap (b:Int)≤2147483647)
 else if k=4 then decide ((b:Int)<4294967296)else if k=9 then decide ((b:Int)<2147483648)else true

theorem QyS (k:Int)(b:Nat):Qr Tryz.prog 239 [.int .i64 k,.int .u64 (b:Nat)] (.bool (U8 k b)):=by
 have e1:decide ((b:Int)≤4294967295)=decide ((b:Int)<4294967296):=by rw[decide_eq_decide];omega
 have e2:decide ((b:Int)≤2147483647)=decide ((b:Int)<2147483648):=by rw[decide_eq_decide];omega
 refine Qx0.fn (by simp) ?_;simp only[Qa,seval];unfold U8;by_cases h1:k=1
 ·subst h1;have b1:((1:Int)==1)=true:=rfl;simp only[b1,Qa,seval]
 ·have b1:(k==1)=false:=by simp[h1]
  by_cases h2:k=2
  ·subst h2;have b2:((2:Int)==2)=true:=rfl;simp only[b1,b2,h1,Qa,seval];cases hd:decide (IntKind.i64.wrap (b:Int)≥-2147483648)<;>simp only[QG0,QGP,Qa,seval]
  ·have b2:(k==2)=false:=by simp[h2]
   by_cases h9:k=9
   ·subst h9;have b9:((9:Int)==9)=true:=rfl;simp only[b1,b2,b9,h1,h2,e2,Qa,seval]
   ·have b9:(k==9)=false:=by simp[h9]
    by_cases h4:k=4
    ·subst h4;have b4:((4:Int)==4)=true:=rfl;simp only[b1,b2,b9,b4,h1,h2,e1,Qa,seval]
    ·have b4:(k==4)=false:=by simp[h4]
     simp only[b1,b2,b9,b4,h1,h2,h4,h9,Qa,seval]

end Go.Proofs.YtaiflhahcglpgaaGreatDoor.Va

namespace Go.Proofs.YtaiflhahcglpgaaGreatDoor.Ev
open Go Am Rc

def tab:Hz:=fun k=>match k with
 |22=>some (r22,o22,27)
 |45=>some (r45,o45,21)
 |9=>some (r9,o9,40)
 |6=>some (r6,o6,45)
 |21=>some (r21,o21,32)
 |13=>some (r13,o13,7)
 |14=>some (IX,IY,68)
 |43=>some (r43,o43,77)
 |33=>some (Lf,Lg,99)
 |34=>some (r34,o34,12)
 |35=>some (r35,o35,19)
 |36=>some (r36,o36,9)
 |37=>some (r37,o37,19)
 |39=>some (r39,o39,18)
 |111=>some (Lk,Ll,74)
 |113=>some (Lo,Lp,9)
 |97=>some (r97,o97,56)
 |98=>some (r98,o98,27)
 |99=>some (r99,o99,20)
 |100=>some (LL,LM,19)
 |101=>some (L0,L5,42)
 |102=>some (M1,M2,79)
 |105=>some (Qah,Qai,19)
 |109=>some (Qam,Qan,8)
 |164=>some (Qay,Qaz,19)
 |133=>some (QaC,QaD,9)
 |148=>some (QaK,QaL,19)
 |149=>some (QaX,QaY,30)
 |151=>some (Qa2,Qa3,11)
 |152=>some (M3,M4,112)
 |153=>some (M5,M6,52)
 |154=>some (Qba,Qbb,15)
 |155=>some (Qbe,Qbf,11)
 |156=>some (Qbj,Qbk,10)
 |142=>some (Qbo,Qbp,8)
 |159=>some (QbA,QbB,19)
 |178=>some (QbM,QbN,19)
 |188=>some (QbR,QbS,8)
 |132=>some (Qb3,Qb4,19)
 |134=>some (Qb8,Qb9,8)
 |135=>some (Qcl,Qcm,27)
 |189=>some (Qcp,Qcq,12)
 |191=>some (Qcw,Qcx,19)
 |192=>some (QcJ,QcK,57)
 |193=>some (QcU,QcV,50)
 |194=>some (Qc6,Qc7,59)
 |94=>some (r94,o94,31)
 |137=>some (Qdm,Qdn,36)
 |183=>some (Qdr,Qds,9)
 |179=>some (QdF,QdG,66)
 |219=>some (QdK,QdL,9)
 |224=>some (QdP,QdQ,34)
 |181=>some (Qd2,Qd3,27)
 |215=>some (Qee,Qef,19)
 |213=>some (Qes,Qet,34)
 |240=>some (QeE,QeF,19)
 |_=>none

theorem QlS:W5 Tryz.prog tab:=by
 intro k c rs N h;unfold tab at h;split at h
 ·cases h;exact k22
 ·cases h;exact k45
 ·cases h;exact k9
 ·cases h;exact k6
 ·cases h;exact k21
 ·cases h;exact k13
 ·cases h;exact k14
 ·cases h;exact k43
 ·cases h;exact k33
 ·cases h;exact k34
 ·cases h;exact k35
 ·cases h;exact k36
 ·cases h;exact k37
 ·cases h;exact k39
 ·cases h;exact Qt4
 ·cases h;exact Qt5
 ·cases h;exact k97
 ·cases h;exact GK
 ·cases h;exact k99
 ·cases h;exact LN
 ·cases h;exact L6
 ·cases h;exact L7
 ·cases h;exact Qaj
 ·cases h;exact Qao
 ·cases h;exact Qt6
 ·cases h;exact QaE
 ·cases h;exact QaM
 ·cases h;exact QaZ
 ·cases h;exact Qa4
 ·cases h;exact Qa5
 ·cases h;exact Qa7
 ·cases h;exact M7
 ·cases h;exact Qbg
 ·cases h;exact Qbl
 ·cases h;exact Qbq
 ·cases h;exact QbC
 ·cases h;exact QbO
 ·cases h;exact QbT
 ·cases h;exact Qb5
 ·cases h;exact Qca
 ·cases h;exact M8
 ·cases h;exact Qcr
 ·cases h;exact Qcy
 ·cases h;exact QcL
 ·cases h;exact QcW
 ·cases h;exact Qc8
 ·cases h;exact k94
 ·cases h;exact Qdo
 ·cases h;exact Qdt
 ·cases h;exact QdH
 ·cases h;exact QdM
 ·cases h;exact QdR
 ·cases h;exact Qd4
 ·cases h;exact Qeg
 ·cases h;exact Qeu
 ·cases h;exact QeG
 ·cases h

def XF:Kq:=fun _ _ _=>none

theorem JK:KB Tryz.prog XF:=by
 intro k args m v m' h;cases h

theorem CU:Iv XF tab 3000 9 []=true:=by decide +kernel

theorem Pp:Qr Tryz.prog 9 [] (.bool true):=BX JK QlS CU

end Go.Proofs.YtaiflhahcglpgaaGreatDoor.Ev

namespace Go.Proofs.YtaiflhahcglpgaaGreatDoor.Va
open Go Am Rc Bt

def vo (k:Int)(b:Nat)(t:List UInt8)(l p s r:List AV):AV:=.agg [.int .i64 k,.int .u64 (b:Nat),.str t,.list l,.list p,.list s,.list r]

section
variable (k:Int)(b:Nat)(t:List UInt8)(l p s r:List AV)

def KF:Bool:=(l.length:Int)==0&&(p.length:Int)==0&&(s.length:Int)==0&&(r.length:Int)==0
theorem QyT:Qr Tryz.prog 205 [vo k b t l p s r] (.bool (KF l p s r)):=by
 refine Qw6.fn (by simp) ?_;simp only[vo,KF,eE,seval];cases h0:((l.length:Int)==0)<;>cases h1:((p.length:Int)==0)<;>cases h2:((s.length:Int)==0)<;>simp only[h1,h2,QG0,QGP,eE,seval]

theorem QyU (hl:l.length≤140737488351232)(hp:p.length≤140737488351232)(hs:s.length≤140737488351232)(hr:r.length≤140737488351232) :
  Qr Tryz.prog 238 [vo k b t l p s r] (.bool (KF l p s r&&(if Kt k=true then(b:Int)==0 else t==[]))):=by
 refine QxX.fn (by simp) ?_;have w:IntKind.i64.wrap (IntKind.i64.wrap (IntKind.i64.wrap ((l.length:Int)+(p.length:Int))+(s.length:Int))+(r.length:Int))=(l.length+p.length+s.length+r.length:Nat):=by
  simp only[ZO];omega
 simp only[vo,w,eE,seval];by_cases h:l.length+p.length+s.length+r.length=0
 ·have d:decide (((l.length+p.length+s.length+r.length:Nat):Int) > 0)=false:=QHf (by omega);have e:KF l p s r=true:=by
   unfold KF;simp only[QFU,QFV];omega
  simp only[d,e,QG0,eE,seval];refine aC (Qyf k) ?_;cases Kt k
  ·simp only[QFQ,Qy,eE,seval]
  ·simp only[eE,seval]
 ·have d:decide (((l.length+p.length+s.length+r.length:Nat):Int) > 0)=true:=QHa (by omega);have e:KF l p s r=false:=by
   unfold KF;rw[QG5];simp only[ne_eq,QFU,QFV];omega
  simp only[d,e,QGP,Qa,seval]

end

open Br

def key (o:PO):Bool:=if o.card=5 then decide (o.key≥1)&&decide (o.key≤7)&&o.key != 6 else o.key==0
def F8 (P:PL)(o:PO):Bool :=
 if o.kind=10 then decide (o.target≥0)&&decide (o.target<(P.progs.length:Int))&&o.card != 3
 else if o.kind=9 then decide (o.target≥0)&&decide (o.target<(P.enums.length:Int))else WL o.kind&&o.target == -1
def KP (P:PL)(o:PO):Bool:=ZR o.alias&&decide ((o.alias.length:Int)≤4096)&&decide (o.card≥1)&&decide (o.card≤5)&&key o&&F8 P o
def JL (o:PO):Bool:=o.union == -1||o.card==2
def Ze:List PO→Int→Int→Option Int
 | [],n,_=>some n
 |o :: l,n,b=>if o.union=n then Ze l (n+1) n else if o.union = -1∨o.union=b then Ze l n o.union else none
def KQ (g:PG):Bool:=match Ze g.ops 0 (-1)with
 |some n=>g.unions==n
 |none=>false
def XR (k kd:Int)(b:Nat)(t:List UInt8)(l p s r:List AV):Bool :=
 WL k&&kd==k&&KF l p s r&&(if Kt kd=true then(b:Int)==0 else t==[])&&U8 k b&&decide ((t.length:Int)≤4096)&&(k != 7||ZR t)
def alias:List UInt8:=[97,108,105,97,115]
def nok:List AV→Bool
 | [.int _ kd,.int _ b,.str t,.list l,.list p,.list s,.list r]=>XR 7 kd b.toNat t l p s r
 |_=>false
def Yr (i:PI):Bool:=match i.notes with
 | []=>true
 | [n]=>n.name==alias&&nok n.val
 |_=>false
def WR (P:PL)(g:PG):Bool:=KQ g&&g.ops.all fun o=>KP P o&&JL o
def DR (x:PE):Bool:=x.notes.isEmpty&&x.items.all Yr
def args (P:PL):Bool:=P.progs.all (WR P)&&P.enums.all DR

theorem EA {α:Type}(l:List α)(p q:α→Bool):(l.all fun x=>p x&&q x)=(l.all p&&l.all q):=by
 induction l with
 |nil=>rfl
 |cons x l ih=>
  simp only[QGz,ih];cases p x<;>cases q x<;>cases l.all p<;>cases l.all q<;>rfl

theorem Pq (k kd:Int)(b:Nat)(t:List UInt8)(l p s r:List AV)(hl:l.length≤140737488351232)(hp:p.length≤140737488351232)(hs:s.length≤140737488351232)(hr:r.length≤140737488351232) :
  Qr Tryz.prog 218 [.int .i64 k,vo kd b t l p s r] (.bool (XR k kd b t l p s r)):=by
 have hle:=QyU kd b t l p s r hl hp hs hr;have hw:=QyS k b;simp only[vo]at hle;have n1:(kd != k)=!(kd==k):=rfl;have n2:(k != 7)=!(k==7):=rfl;have n3:decide ((t.length:Int) > 4096)=!decide ((t.length:Int)≤4096):=(by rw[QGj];simp only[QGH,QGl,QHb];omega);refine Qxs.fn (by simp) ?_;simp only[vo,XR,n2,eE,seval];refine aC (QlJ k) ?_;cases WL k
 ·simp only[QGP,QGv,Qa,seval]
 simp only[QG0,QG1,n1,eE,seval];cases a1:(kd==k)
 ·simp only[QGP,QGv,Qa,seval]
 simp only[QG0,QG1,eE,seval];refine aC hle ?_;cases(KF l p s r&&(if Kt kd=true then(b:Int)==0 else t==[]))
 ·simp only[QGP,QGv,Qa,seval]
 simp only[QG0,QG1,eE,seval];refine aC hw ?_;cases U8 k b
 ·simp only[QGP,QGv,Qa,seval]
 simp only[QG0,QG1,n3,eE,seval];cases a2:decide ((t.length:Int)≤4096)
 ·simp only[QGP,QGv,Qa,seval]
 simp only[QG0,QG1,n2,Qa,seval];cases a3:(k==7)
 ·simp only[QGv,QG2,Qa,seval]
 ·simp only[QG1,QG3,eE,seval];refine aC (x89 t) ?_;simp only[Qa,seval]

theorem z90 (o:PO):Qr Tryz.prog 90 [Q3 o] (.bool (key o)):=by
 refine k90.fn (by simp) ?_;simp only[Q3,PO.cells,key,eE,seval];by_cases h:o.card=5
 ·have b0:(o.card != 5)=false:=by simp[h]
  simp only[b0,QFF h,eE,seval];cases a1:decide (o.key≥1)<;>cases a2:decide (o.key≤7)<;>simp only[a2,QG0,QGP,eE,seval]
 ·have b0:(o.card != 5)=true:=by simp[h]
  simp only[b0,QFE h,eE,seval]

section
variable (P:PL)

theorem z91 (o:PO):Qr Tryz.prog 91 [P.av,Q3 o] (.bool (F8 P o)):=by
 have e0:P.av=.agg [.list (P.progs.map QR),.list (P.enums.map Q2)]:=rfl;refine k91.fn (by simp) ?_;simp only[e0,Q3,PO.cells,F8,eE,seval];by_cases h:o.kind=10
 ·have b0:(o.kind==10)=true:=by simp[h]
  simp only[b0,QFF h,eE,seval];cases a1:decide (o.target≥0)<;>cases a2:decide (o.target<(P.progs.length:Int))<;>simp only[a2,QG0,QGP,QGK,eE,seval]
 ·have b0:(o.kind==10)=false:=by simp[h]
  by_cases h9:o.kind=9
  ·have b1:(o.kind==9)=true:=by simp[h9]
   simp only[b0,b1,QFE h,QFF h9,eE,seval];cases a1:decide (o.target≥0)<;>simp only[QG0,QGP,QGK,eE,seval]
  ·have b1:(o.kind==9)=false:=by simp[h9]
   simp only[b0,b1,QFE h,QFE h9,eE,seval];refine aC (QlJ o.kind) ?_;cases WL o.kind<;>simp only[QG0,QGP,eE,seval]

def UnI (g:PG)(k:Nat)(st:St):Prop :=
 ∃f fr i n b,st=⟨f,[fr],[]⟩∧k=g.ops.length-i∧i≤g.ops.length∧(g.ops.take i).all JL=true∧Ze g.ops 0 (-1)=Ze (g.ops.drop i) n b∧0≤n∧n≤i∧-1≤b∧b<n∧f 1=.ptr 0 1 0∧f 3=.int .i64 (n-1)∧f 4=.int .i64 b∧
  f 8=.list (g.ops.map fun o=>.agg o.cells)∧f 9=.int .i64 (g.ops.length:Nat)∧f 10=.int .i64 (i:Nat)∧fr 1=.cells g.cells∧∀s∈[6],(fr s).isRow=false

theorem Nc {l:List PO}{i:Nat}{o:PO}(h:l[i]? = some o)(n b:Int):Ze (l.drop i) n b=if o.union=n then Ze (l.drop (i+1)) (n+1) n else if o.union = -1∨o.union=b then Ze (l.drop (i+1)) n o.union else none:=by
 have hlt:i<l.length:=(QFz.1 h).1;rw[QGc hlt,show l[i]=o from(QFz.1 h).2];rfl

theorem z87 (g:PG)(hl:g.ops.length≤9223372036854775000):Qr Tryz.prog 87 [QR g] (.bool (g.ops.all JL&&KQ g)):=by
 refine k87.fn (by simp) ?_;simp only[QR,PG.cells,QGK,eE,seval];refine Qg (UnI g) _ ⟨_,_,0,0,-1,rfl,rfl,QFG _,rfl,rfl,by decide,by decide,by decide,by decide,(by rfl),(by rfl),(by rfl),(by rfl),(by rfl),(by rfl),(by rfl),by simp<;>rfl⟩ ?_;rintro _ st ⟨f0,fr0,i,n,b,rfl,rfl,hil,hu,hj,hn0,hni,hb1,hbn,h10,h30,h40,h80,h90,hA0,m10,r6⟩;refine QD (a:=_) [6] r6 ?_;intro f fr hf hm hn6;have h1:f 1=.ptr 0 1 0:=by rw[hf,h10]<;>rfl
 have h3:f 3=.int .i64 (n-1):=by rw[hf,h30]<;>rfl
 have h4:f 4=.int .i64 b:=by rw[hf,h40]<;>rfl
 have h8:f 8=.list (g.ops.map fun o=>.agg o.cells):=by rw[hf,h80]<;>rfl
 have h9:f 9=.int .i64 (g.ops.length:Nat):=by rw[hf,h90]<;>rfl
 have hA:f 10=.int .i64 (i:Nat):=by rw[hf,hA0]<;>rfl
 have m1:fr 1=.cells g.cells:=by rw[hm 1 (by decide),m10]<;>rfl
 have n6:=hn6 6 (by decide);clear hf hm hn6 h10 h30 h40 h80 h90 hA0 m10 r6;simp only[PG.cells]at m1;have w0:IntKind.i64.wrap (n-1+1)=n:=by rw[ZO];omega
 simp only[h9,hA,Qa,seval];by_cases hlt:i<g.ops.length
 ·obtain⟨o,hi⟩:∃o,g.ops[i]? = some o:=⟨g.ops[i],QFA hlt⟩;have hg:(g.ops.map fun o=>AV.agg o.cells)[i]? = some (.agg o.cells):=by simp[hi]
  have e1:=Qn i _ hlt (by simp only[maxLen];omega);have ht:=DD (q:=JL) hi;rw[hu,QG0]at ht;have hbad:JL o=false→g.ops.all JL=false:=fun h=>by
   rw[QG5];intro h';rw[QFK.1 h' o (QFL hi)]at h;cases h
  rw[Nc hi]at hj;have fin:∀(f':Fr) (fr':Nat→Ob) (n':Int),JL o=true→(if o.union=n then n'=n+1 else n'=n)→Ze g.ops 0 (-1)=Ze (g.ops.drop (i+1)) n' o.union→(o.union=n∨o.union = -1∨o.union=b)→f' 1=.ptr 0 1 0→f' 3=.int .i64 (n'-1)→f' 4=.int .i64 o.union→
    f' 8=.list (g.ops.map fun o=>.agg o.cells)→f' 9=.int .i64 (g.ops.length:Nat)→f' 10=.int .i64 ((i+1:Nat):Int)→fr' 1=.cells g.cells→(∀s∈[6],(fr' s).isRow=false)→∃k,k<g.ops.length-i∧UnI g k ⟨f',[fr'],[]⟩:=by
   intro f' fr' n' a b' c d e1 e3 e4 e8 e9 eA em er;refine⟨g.ops.length-(i+1),by omega,f',fr',i+1,n',o.union,rfl,rfl,by omega,by rw[ht,a],c,?_,?_,?_,?_,e1,e3,e4,e8,e9,eA,em,er⟩<;>split at b'<;>omega
  simp only[PO.cells]at hg;simp only[Qz hlt,Qj,QGM,Qe,hg,PO.cells,n6,h8,hA,eE,seval];by_cases a1:o.union = -1
  ·have b1:(o.union != -1)=false:=by simp[a1]
   have hk:JL o=true:=by simp[JL,a1]
   rw[QFE (by omega),QFF (.inl a1)]at hj;have mx:(if n-1<o.union then o.union else n-1)=n-1:=QFE (by omega);simp only[b1,h3,hA,mx,e1,eE,seval];exact fin _ _ n hk (by rw[QFE (by omega)]) hj (.inr (.inl a1)) (by exact h1) (by rfl) (by rfl) (by exact h8) (by exact h9) (by rfl) (by exact m1) (by simp<;>rfl)
  have b1:(o.union != -1)=true:=by simp[a1]
  by_cases a2:o.card=2
  case neg=>
   have b2:(o.card != 2)=true:=by simp[a2]
   have hk:JL o=false:=by simp[JL,a1,a2]
   simp only[b1,b2,hbad hk,QGP,eE,seval]
  have b2:(o.card != 2)=false:=by simp[a2]
  have hk:JL o=true:=by simp[JL,a2]
  by_cases a3:o.union=n
  ·have b3:(o.union != n)=false:=by simp[a3]
   rw[QFF a3,←a3]at hj;have mx:(if n-1<o.union then o.union else n-1)=o.union:=QFF (by omega);simp only[b1,b2,b3,h3,hA,w0,mx,e1,eE,seval];exact fin _ _ (o.union+1) hk (by rw[QFF a3,a3]) hj (.inl a3) (by exact h1) (by simp only[Qa,seval];congr 1;omega) (by rfl) (by exact h8) (by exact h9) (by rfl) (by exact m1) (by simp<;>rfl)
  have b3:(o.union != n)=true:=by simp[a3]
  by_cases a4:o.union=b
  ·have b4:(o.union != b)=false:=by simp[a4]
   rw[QFE a3,QFF (.inr a4)]at hj;have mx:(if n-1<o.union then o.union else n-1)=n-1:=QFE (by omega);simp only[b1,b2,b3,b4,h3,h4,hA,w0,mx,e1,eE,seval];exact fin _ _ n hk (by rw[QFE a3]) hj (.inr (.inr a4)) (by exact h1) (by rfl) (by rfl) (by exact h8) (by exact h9) (by rfl) (by exact m1) (by simp<;>rfl)
  ·have b4:(o.union != b)=true:=by simp[a4]
   rw[QFE a3,QFE (by omega)]at hj;have hun:KQ g=false:=by unfold KQ;rw[hj]
   simp only[b1,b2,b3,b4,hun,QHd,h3,h4,w0,eE,seval]
 ·rw[QF4 (by omega)]at hu;rw[QF6 (by omega)]at hj;have hun:KQ g=(g.unions==n):=by unfold KQ;rw[hj];rfl
  simp only[QB hlt,h1,h3,m1,w0,hu,hun,QG0,eE,seval]

theorem z88 (o:PO)(fr2 fr:Nat→Ob)(h1:fr 1=.cells [.list (P.progs.map QR),.list (P.enums.map Q2)]):Qf Tryz.prog 88 [Q3 o,.ptr 7 1 0] [Qc,Qc,Qc,fr2,Qc,Qc,Qc,fr] fun y m1=>y=.bool (!KP P o)∧m1=[Qc,Qc,Qc,fr2,Qc,Qc,Qc,fr]:=by
 have n1:decide ((o.alias.length:Int) > 4096)=!decide ((o.alias.length:Int)≤4096):=(by rw[QGj];simp only[QGH,QGl,QHb];omega);have n2:decide (o.card<1)=!decide (o.card≥1):=(by rw[QGj];simp only[QGH,QGl,QHb];omega);have n3:decide (o.card > 5)=!decide (o.card≤5):=(by rw[QGj];simp only[QGH,QGl,QHb];omega);have hk:=z90 o;have ha:Qr Tryz.prog 91 [.agg [.list (P.progs.map QR),.list (P.enums.map Q2)],Q3 o] (.bool (F8 P o)):=z91 P o;simp only[Q3,PO.cells]at hk ha;refine k88.go (by simp) ?_;simp only[Q3,PO.cells,KP,eE,seval];refine aC (x89 o.alias) ?_;cases ZR o.alias
 ·simp only[QGP,QGv,Qa,seval]
 simp only[QG0,QG1,n1,eE,seval];cases a1:decide ((o.alias.length:Int)≤4096)
 ·simp only[QGP,QGv,Qa,seval]
 simp only[n2,QG0,QG1,eE,seval];cases a2:decide (o.card≥1)
 ·simp only[QGP,QGv,Qa,seval]
 simp only[n3,QG0,QG1,eE,seval];cases a3:decide (o.card≤5)
 ·simp only[QGP,QGv,Qa,seval]
 simp only[QG0,QG1,eE,seval];refine aC hk ?_;cases key o
 ·simp only[QGP,QGv,Qa,seval]
 simp only[QG0,QG1,h1,eE,seval];refine aC ha ?_;simp only[Qa,seval]

theorem z86 (g:PG)(hl:g.ops.length≤9223372036854775000)(fr:Nat→Ob)(h1:fr 1=.cells [.list (P.progs.map QR),.list (P.enums.map Q2)]) :
  Qf Tryz.prog 86 [QR g,.ptr 3 1 0] [Qc,Qc,Qc,fr] fun y m1=>y=.bool (!WR P g)∧m1=[Qc,Qc,Qc,fr]:=by
 have hu:=z87 g hl;have e:WR P g=((g.ops.all JL&&KQ g)&&g.ops.all (KP P)):=by
  unfold WR;rw[show(g.ops.all fun o=>KP P o&&JL o)=(g.ops.all (KP P)&&g.ops.all JL)from EA ..];cases KQ g<;>cases g.ops.all (KP P)<;>cases g.ops.all JL<;>rfl
 simp only[QR,PG.cells]at hu;refine k86.go (by simp) ?_;simp only[QR,PG.cells,e,eE,seval];refine aC hu ?_;cases(g.ops.all JL&&KQ g)
 ·simp only[QGP,QGv,Qa,seval]
 simp only[QG0,QG1,eE,seval];refine Qb (CP g.ops (by simp only[maxLen];omega) (fun o=>!KP P o) 88 [.ptr 4 1 0] _ fun o _=>z88 P o _ fr h1) (by simp only[QF3,QGo,Qa,seval]<;>rfl) ?_;simp only[Xn,Qa,seval]

end

def Nd:Hz:=fun k=>match k with
 |186=>some (M9,Pa,16)
 |_=>none
theorem F9:W5 Tryz.prog Nd:=by
 intro k c rs N h;unfold Nd at h;split at h
 ·cases h;exact Qjx
 ·cases h
def CV:Option (AV×Ql)→Bool
 |some (.mp ks vs,_)=>match Zt alias ks vs with
  |some (.agg [.int .i64 a,.int .i64 b])=>a==7&&b==84
  |_=>false
 |_=>false
theorem CW:CV (JI Ev.XF Nd (ZA Ev.XF Nd 300) 186 [] [])=true:=by decide +kernel
theorem QlT:∃ks vs,Qr Tryz.prog 186 [] (.mp ks vs)∧Zt alias ks vs=some (.agg [.int .i64 7,.int .i64 84]):=by
 have h:=CW;unfold CV at h;split at h
 ·rename_i ks vs m' h1;split at h
  ·rename_i a b h2;simp only[QFU,QFV]at h;obtain⟨rfl,rfl⟩:=h;exact⟨ks,vs,(Z1 Ev.JK F9 (WK Ev.JK F9 300) _ _ _ _ _ h1).mono fun _ _ e=>e.1,h2⟩
  ·cases h
 ·cases h

theorem QyV:Qr Tryz.prog 217 [.str alias] (.int .i64 7):=by
 obtain⟨ks,vs,h1,h2⟩:=QlT;have hg:AV.gr (.agg [.int .i64 7,.int .i64 84])=true:=rfl;refine QkD.fn (by simp) ?_;simp only[Qa,seval];refine aC h1 ?_;simp only[X3,h2,hg,Qa,seval]

section
variable (kd:Int)(b:Nat)(t:List UInt8)(l p s r:List AV)(hl:l.length≤140737488351232)(hp:p.length≤140737488351232)(hs:s.length≤140737488351232)(hr:r.length≤140737488351232)

def nv:AV:=.agg [.str alias,.int .i64 kd,.int .u64 (b:Nat),.str t,.list l,.list p,.list s,.list r]

include hl hp hs hr in
theorem QyW:Qr Tryz.prog 187 [nv kd b t l p s r] (.bool (XR 7 kd b t l p s r)):=by
 have hf:=Pq 7 kd b t l p s r hl hp hs hr;have b0:((7:Int) != 0)=true:=rfl;simp only[vo]at hf;refine QjB.fn (by simp) ?_;simp only[nv,eE,seval];refine aC QyV ?_;simp only[b0,eE,seval];refine aC hf ?_;simp only[Qa,seval]

include hl hp hs hr in
theorem QyX (last:List UInt8):Qr Tryz.prog 145 [nv kd b t l p s r,.int .i64 4,.str last,.bool false] (.int .i64 (if XR 7 kd b t l p s r=true then 0 else 12)):=by
 have hf:=QyW kd b t l p s r hl hp hs hr;obtain⟨ks,vs,h1,h2⟩:=QlT;have hg:AV.gr (.agg [.int .i64 7,.int .i64 84])=true:=rfl;have b0:decide ((4:Int)<1)=false:=rfl;have b1:decide ((4:Int) > 6)=false:=rfl;have b2:(0≤(4:Int))=True:=by simp
 have b3:(bits .and .i64 (Int.fdiv 84 (2 ^ min 4 64)) 1==0)=false:=by decide
 have b4:(bits .and .i64 ((84:Int).fdiv (2 ^ (min (4:Int).toNat IntKind.i64.bits))) 1==0)=false:=by decide
 simp only[nv]at hf;refine Qhk.fn (by simp) ?_;simp only[nv,eE,seval];refine aC h1 ?_;simp only[h2,hg,b2,b3,eE,seval];refine aC hf ?_;cases XR 7 kd b t l p s r
 ·simp only[QGv,QFQ,Qa,seval]
 ·simp only[QG1,Qa,seval]

def NcI (k:Nat)(st:St):Prop :=
 ∃f fr i,st=⟨f,[fr],[]⟩∧k=1-i∧i≤1∧(i=0→∃last,f 5=.str last)∧(i=1→XR 7 kd b t l p s r=true)∧f 1=.int .i64 4∧f 12=.list [nv kd b t l p s r]∧f 13=.int .i64 1∧f 14=.int .i64 (i:Nat)∧∀s∈[7],(fr s).isRow=false

include hl hp hs hr in
theorem z94:Qr Tryz.prog 94 [.list [nv kd b t l p s r],.int .i64 4] (.int .i64 (if XR 7 kd b t l p s r=true then 0 else 12)):=by
 have b0:decide (((1:Nat):Int) > 8)=false:=rfl;refine k94.fn (by simp) ?_;simp only[QFM,QGy,QFW,Qa,seval];refine Qg (NcI kd b t l p s r) 1 ⟨_,_,0,rfl,rfl,QFG _,fun _=>⟨[],(by rfl)⟩,(fun h=>by cases h),(by rfl),(by rfl),(by rfl),(by rfl),by simp<;>rfl⟩ ?_;rintro _ st ⟨f0,fr0,i,rfl,rfl,hi,hl5,hf,h10,h120,h130,h140,r7⟩;refine QD (a:=_) [7] r7 ?_;intro f fr hff hm hn7;have h1:f 1=.int .i64 4:=by rw[hff,h10]<;>rfl
 have h12:f 12=.list [nv kd b t l p s r]:=by rw[hff,h120]<;>rfl
 have h13:f 13=.int .i64 1:=by rw[hff,h130]<;>rfl
 have h14:f 14=.int .i64 (i:Nat):=by rw[hff,h140]<;>rfl
 have h5:i=0→∃last,f 5=.str last:=fun h=>by
  obtain⟨la,e⟩:=hl5 h;exact⟨la,by rw[hff,e]<;>rfl⟩
 have n7:=hn7 7 (by decide);clear hff hm hn7 h10 h120 h130 h140 r7 hl5;have ho:=fun la=>QyX kd b t l p s r hl hp hs hr la
 simp only[nv]at ho h12;simp only[h13,h14,Qa,seval];rcases Nat.le_one_iff_eq_zero_or_eq_one.1 hi with rfl|rfl
 ·obtain⟨la,h5⟩:=h5 rfl;have c0:decide (((0:Nat):Int)<1)=true:=rfl;have c1:decide (((0:Nat):Int) > 0)=false:=rfl;have e1:IntKind.i64.wrap (((0:Nat):Int)+1)=((1:Nat):Int):=rfl;have z0:(0≤((0:Nat):Int))=True:=by simp
  have z1:Int.toNat ((0:Nat):Int)=0:=rfl;simp only[Qe,n7,h1,h5,h12,h14,eE,seval];refine aC (ho la) ?_;cases hfv:XR 7 kd b t l p s r
  ·have d0:((12:Int) != 0)=true:=rfl;simp only[d0,QFQ,Qa,seval]
  ·have d0:((0:Int) != 0)=false:=rfl;simp only[d0,h14,eE,seval];exact⟨0,by omega,_,_,1,rfl,rfl,QFx _,(fun h=>by cases h),fun _=>hfv,(by exact h1),(by exact h12),(by exact h13),(by rfl),by simp<;>rfl⟩
 ·have c0:decide (((1:Nat):Int)<1)=false:=rfl;simp only[hf rfl,Qa,seval]

end

theorem QsG {M:Nat}{n:PN}(h:n.ok Tryz.prog M 69)(hM:M≤140737488351232):∃kd b t l p s r,n.val=[.int .i64 kd,.int .u64 ((b:Nat):Int),.str t,.list l,.list p,.list s,.list r]∧t.length≤M∧l.length≤140737488351232∧p.length≤140737488351232∧s.length≤140737488351232∧r.length≤140737488351232:=by
 obtain⟨_,k,hk⟩:=h;obtain⟨k,h⟩:=Xx Tryz.underlying69 hk;simp only[QS.HasL]at h;obtain⟨_,_,e,h0,_,_,rfl,h1,_,_,rfl,h2,_,_,rfl,h3,_,_,rfl,h4,_,_,rfl,h5,_,_,rfl,h6,rfl⟩:=h;obtain⟨a0,rfl,w0⟩:=XJ Tryz.underlying3 h0;obtain⟨a1,rfl,w1⟩:=XJ Tryz.underlying63 h1;obtain⟨a2,rfl,w2⟩:=XQ Tryz.underlying9 h2;obtain⟨_,l3,rfl,w3,_⟩:=Q1 Tryz.underlying64 h3;obtain⟨_,l4,rfl,w4,_⟩:=Q1 Tryz.underlying65 h4;obtain⟨_,l5,rfl,w5,_⟩:=Q1 Tryz.underlying66 h5;obtain⟨_,l6,rfl,w6,_⟩:=Q1 Tryz.underlying67 h6;have hb:0≤a1:=GA w1;obtain⟨b,rfl⟩:=QGX hb;exact⟨a0,b,a2,_,_,_,_,e,w2,by simp;omega,by simp;omega,by simp;omega,by simp;omega⟩

theorem z93 {M:Nat}(hM:M≤140737488351232)(x:PI)(hx:x.ok M)(m:Ql):Qf Tryz.prog 93 [Xi x] m fun y m1=>y=.bool (!Yr x)∧m1=m:=by
 have z0:(0≤(0:Int))=True:=by simp
 have z1:Int.toNat 0=0:=rfl;refine k93.go (by simp) ?_;simp only[Xi,PI.cells,QGK,eE,seval];rcases hn:x.notes with _|⟨n,_|⟨n2,ns⟩⟩
 ·have c0:decide (((0:Nat):Int) > 1)=false:=rfl;have c1:(((0:Nat):Int)==1)=false:=rfl;have e:Yr x=true:=by unfold Yr;rw[hn]
  simp only[QGy,QGo,e,QG1,eE,seval]
 ·obtain⟨kd,b,t,l,p,s,r,hv,ht,h3,h4,h5,h6⟩:=QsG (hx.notes n (by rw[hn];simp)) hM;have c0:decide (((1:Nat):Int) > 1)=false:=rfl;have c1:(((1:Nat):Int)==1)=true:=rfl;have e:Yr x=(n.name==alias&&XR 7 kd b t l p s r):=by
   unfold Yr;rw[hn];show(n.name==alias&&nok n.val)=_;rw[hv];rfl
  have en:XB n.cells=.agg [.str n.name,.int .i64 kd,.int .u64 ((b:Nat):Int),.str t,.list l,.list p,.list s,.list r]:=by
   rw[PN.cells,hv];rfl
  have hne:(!(n.name==[97,108,105,97,115]))=!(n.name==alias):=rfl;have hc:=z94 kd b t l p s r h3 h4 h5 h6;simp only[nv]at hc;simp only[QFM,QGy,QF3,QGo,QFW,en,Qe,z0,z1,QGp,Qy,hne,e,eE,seval];by_cases ha:n.name=alias
  ·have b0:(n.name==alias)=true:=by simp[ha]
   rw[←ha]at hc;simp only[b0,QG1,QG0,eE,seval];refine aC hc ?_;cases XR 7 kd b t l p s r
   ·have d0:((12:Int) != 0)=true:=rfl;simp only[QFQ,d0,QGv,Qa,seval]
   ·have d0:((0:Int) != 0)=false:=rfl;simp only[d0,QG1,Qa,seval]
  ·have b0:(n.name==alias)=false:=by simp[ha]
   simp only[b0,QGv,QGP,Qa,seval]
 ·have c0:decide ((((ns.length+1+1:Nat)):Int) > 1)=true:=QHa (by omega);have e:Yr x=false:=by unfold Yr;rw[hn]
  simp only[QFM,c0,e,QGv,Qa,seval]

theorem z92 {M:Nat}(hM:M≤140737488351232)(x:PE)(hx:x.ok M)(m:Ql):Qf Tryz.prog 92 [Q2 x] m fun y m1=>y=.bool (!DR x)∧m1=m:=by
 have n1:decide ((x.notes.length:Int) > 0)=!x.notes.isEmpty:=by
  cases x.notes with
  |nil=>rfl
  |cons a l=>simp
 refine k92.go (by simp) ?_;simp only[Q2,PE.cells,QGK,DR,n1,eE,seval];cases a1:x.notes.isEmpty
 ·simp only[QGv,QGP,Qa,seval]
 simp only[QG1,QG0,eE,seval];refine Qb (Sv x.items hx.len1 (fun o=>!Yr o) 93 [] _ fun o ho=>z93 hM o (hx.items o ho) _) (by simp only[QF3,QGo,Qa,seval]<;>rfl) ?_;simp only[Xn,Qa,seval]

theorem z29 {M:Nat}(hM:M≤140737488351232)(P:PL)(hP:P.ok M)(hl:∀g∈P.progs,g.ops.length≤64):Qr Tryz.prog 29 [P.av] (.bool (!args P)):=by
 have e0:P.av=.agg [.list (P.progs.map QR),.list (P.enums.map Q2)]:=rfl;refine k29.fn (by simp) ?_;simp only[e0,args,eE,seval];refine Qb (F7 P.progs hP.len1 (fun g=>!WR P g) 86 [.ptr 0 1 0] _ fun o ho=>z86 P o (QFy (hl o ho) (by decide)) _ (by rfl)) (by simp only[QF3,QGo,Qa,seval]<;>rfl) ?_;simp only[Xn,Qa,seval];cases P.progs.all (WR P)
 ·simp only[QGv,QGP,Qa,seval]
 simp only[QG1,QG0,eE,seval];refine Qb (DJ P.enums hP.len2 (fun g=>!DR g) 92 [] _ fun o ho=>z92 hM o (hP.enums o ho) _) (by simp only[QF3,QGo,Qa,seval]<;>rfl) ?_;simp only[Xn,Qa,seval]

end Go.Proofs.YtaiflhahcglpgaaGreatDoor.Va

namespace Go.Proofs.YtaiflhahcglpgaaGreatDoor.Va
open Go Am Rc Bt

def Uz (b:Nat):Nat :=
 let z:=b % 9223372036854775808
 if z > 9218868437227405312 then 0 else if z=9218868437227405312 then 1 else if z=0 then 2 else if z<4503599627370496 then 3 else 4

theorem QyY (b:Nat):Qr Tryz.prog 207 [.int .u64 (b:Nat)] (.int .i64 (Uz b:Nat)):=by
 refine Qxc.fn (by simp) ?_;have hm:(b:Int).tmod 9223372036854775808=((b % 9223372036854775808:Nat):Int):=by
  rw[Int.tmod_eq_emod_of_nonneg (by omega)];omega
 simp only[hm,Qa,seval];unfold Uz;generalize b % 9223372036854775808=z
 repeat' (first|(refine XW (fun h=>?_) (fun h=>?_)<;>simp only[h,Qa,seval])|(refine Zy (fun h=>?_) (fun h=>?_)<;>simp only[h,Qk,eE,seval])|(refine Zz (fun h=>?_) (fun h=>?_)<;>simp only[h,Qk,eE,seval]))
 all_goals(simp only[QGH,QHb,QFV,QHc,ne_eq]at *)
 all_goals((repeat' split)<;>first|rfl|(exfalso;omega))

theorem QlU (b:Nat):b &&& 4503599627370495=b % 4503599627370496:=Nat.and_two_pow_sub_one_eq_mod b 52
theorem QlV (b:Nat):b &&& 9218868437227405312=(b / 4503599627370496 % 2048)*4503599627370496:=by
 have h1:(9218868437227405312:Nat)=2047 <<< 52:=by decide
 have h2:(b / 4503599627370496 % 2048)*4503599627370496=(b >>> 52 % 2 ^ 11) <<< 52:=by
  rw[Nat.shiftLeft_eq,Nat.shiftRight_eq_div_pow]
 rw[h1,h2]
 apply Nat.eq_of_testBit_eq
 intro i;rw[Nat.testBit_and,Nat.testBit_shiftLeft,Nat.testBit_shiftLeft,Nat.testBit_mod_two_pow,Nat.testBit_shiftRight,show(2047:Nat)=2 ^ 11-1 by decide,Nat.testBit_two_pow_sub_one];by_cases h:i≥52
 ·rw[show 52+(i-52)=i by omega];simp[h,Bool.and_comm]
 ·simp[h]

theorem QyZ (b:Nat)(hb:b<18446744073709551616):Qr Tryz.prog 242 [.int .u64 (b:Nat)] (.int .i64 (Uz b:Nat)):=by
 refine Qx6.fn (by simp) ?_;have a1:bits .and .u64 (b:Int) 9218868437227405312=(((b / 4503599627370496 % 2048)*4503599627370496:Nat):Int):=by
  have:=Fo b 9218868437227405312 hb (by decide);rw[QlV]at this;exact this
 have a2:bits .and .u64 (b:Int) 4503599627370495=((b % 4503599627370496:Nat):Int):=by
  have:=Fo b 4503599627370495 hb (by decide);rw[QlU]at this;exact this
 simp only[a1,a2,Qa,seval];unfold Uz
 repeat' (first|(refine XW (fun h=>?_) (fun h=>?_)<;>simp only[h,Qa,seval])|(refine Zy (fun h=>?_) (fun h=>?_)<;>simp only[h,Qk,Qa,seval])|(refine Zz (fun h=>?_) (fun h=>?_)<;>simp only[h,Qk,eE,seval]))
 all_goals(simp only[QFV,QFZ,bne_eq_false_iff_eq,QHc,ne_eq]at *)
 all_goals((repeat' split)<;>first|rfl|(exfalso;omega))

def Zk (k:Int)(b:Nat):Nat:=if k=6∧Uz b=0 then 9221120237041090560 else b

theorem QlW (b:Nat):((Uz b:Int)==0)=decide (Uz b=0):=by
 rw[QGj,QFV,QGH];omega

end Go.Proofs.YtaiflhahcglpgaaGreatDoor.Va

namespace Go.Proofs.YtaiflhahcglpgaaGreatDoor.So

section
variable {α:Type}

structure SW (lt:α→α→Bool):Prop where
 irr:∀x,lt x x=false
 tr:∀x y z,lt x y=true→lt y z=true→lt x z=true
 nt:∀x y z,lt x y=false→lt y z=false→lt x z=false

variable {lt:α→α→Bool}

theorem SW.as (h:SW lt){x y:α}(hx:lt x y=true):lt y x=false:=by
 cases hy:lt y x with
 |false=>rfl
 |true=>
  have:=h.tr x y x hx hy;rw[h.irr]at this;cases this

end

end Go.Proofs.YtaiflhahcglpgaaGreatDoor.So

namespace Go.Proofs.YtaiflhahcglpgaaGreatDoor.Va
open Go Am Rc Bt Br Up So

def nK:List (List UInt8×Int×List Int):=[
 ([100,101,112,114,101,99,97,116,101,100],1,[1,2,3,4,5,6]),
 ([100,111,99],7,[1,2,3,4,5,6]),
 ([97,108,105,97,115],7,[2,4,6]),
 ([115,105,110,99,101],4,[2,4,6]),
 ([117,110,116,105,108],4,[2,4,6]),
 ([109,105,110],3,[2]),
 ([109,97,120],3,[2]),
 ([108,101,110,103,116,104],4,[2]),
 ([115,101,99,114,101,116],1,[2]),
 ([105,100,101,109,112,111,116,101,110,116],1,[6]),
 ([116,105,109,101,111,117,116],4,[6]),
 ([114,111,117,116,101],7,[6]),
 ([111,119,110,101,114],7,[1,5])]
def Ba (s:List UInt8):Option (Int×List Int):=(nK.find? fun x=>x.1==s).map Prod.snd
def XI (s:List UInt8):Int:=((Ba s).getD (0,[])).1
def CX (s:List UInt8)(t:Int):Bool:=((Ba s).getD (0,[])).2.contains t
def _root_.Go.Proofs.YtaiflhahcglpgaaGreatDoor.Br.V.fitk (k:Int)(v:V):Bool:=XR k v.kd v.bits v.text (v.list.map V.av) (v.pairs.map V.pav) (v.slots.map V.sav) (v.raws.map R.av)
def HH (n:SN):Bool:=XI n.name != 0&&n.val.fitk (XI n.name)
def JM (t:Int)(last:Option (List UInt8))(n:SN):Int :=
 if XI n.name=0 then 8 else if CX n.name t=false then 1 else if n.val.fitk (XI n.name)=false then 12 else
 match last with
 |none=>0
 |some s=>if Op.bytesLess n.name s=true then 11 else if n.name=s then 9 else 0
def Wu (t:Int):Option (List UInt8)→List SN→Int
 |_,[]=>0
 |last,n :: l=>if JM t last n=0 then Wu t (some n.name) l else JM t last n
def XZ (l:List SN)(t:Int):Int:=if l.length > 8 then 3 else Wu t none l

def QZ (S:SC)(n:List UInt8):Bool:=S.msgs.any fun m=>m.name==n
def U9 (S:SC)(n:List UInt8):Bool:=S.enums.any fun m=>m.name==n
def DS (c k:Int):Bool:=if c=5 then decide (k≥1)&&decide (k≤7)&&k != 6 else k==0
def Wv (f:SF):Bool:=decide (f.card≥1)&&decide (f.card≤5)&&DS f.card f.key
def Ji (S:SC)(f:SF):Bool :=
 if 1≤f.kind∧f.kind≤8 then f.tname==[]else if f.kind=9 then U9 S f.tname else if f.kind=10 then QZ S f.tname&&f.card != 3 else false
def Z2 (m:SM)(i:Nat):Bool:=match m.fields[i]? with
 |none=>true
 |some f=>f.union==[]||(f.card==2&&Q7 f.union && !(m.fields.any fun x=>x.name==f.union) &&
   (!((m.fields.take i).any fun x=>x.union==f.union)||(match i with
    |0=>true
    |j+1=>match m.fields[j]? with
     |none=>true
     |some y=>y.union==f.union)))
def _root_.Go.Proofs.YtaiflhahcglpgaaGreatDoor.Br.V.zro (v:V):Bool:=v.kd==0&&v.bits==0&&v.text==[]&&v.list.length+v.pairs.length+v.slots.length+v.raws.length==0
def KG (S:SC)(f:SF):Bool :=
 if f.hasd=false then f.dflt.zro
 else if f.card=2∧f.union=[]∧f.dflt.fitk f.kind=true∧Zk f.dflt.kd f.dflt.bits=f.dflt.bits then
  (if f.kind=9 then(match S.enums.find? fun e=>e.name==f.tname with
   |none=>false
   |some e=>e.items.any fun it=>(IntKind.u64.wrap it.num)==(f.dflt.bits:Int))else true)
 else false
def WS (S:SC)(m:SM)(i:Nat):Bool:=match m.fields[i]? with
 |none=>true
 |some f=>decide (f.num≥1)&&decide (f.num≤65535)&&(match i with
   |0=>true
   |j+1=>match m.fields[j]? with
    |none=>true
    |some y=>decide (f.num > y.num))&&Q7 f.name && !((m.fields.take i).any fun x=>x.name==f.name) && !(kept m.free f.num) && !(m.gone.contains f.name) &&
   Wv f&&Ji S f&&Z2 m i&&KG S f&&XZ f.notes 2==0
def Ha (lo hi:Int)(l:List PS):Bool:=(l.all fun x=>decide (x.lo≥lo)&&decide (x.hi≤hi)&&decide (x.lo≤x.hi))&&Q8 l DI

def XX (m:SM):List (List UInt8):=(m.fields.filter fun f=>f.card==1&&f.kind==10).map SF.tname
def Zl (S:SC)(X:List (List UInt8))(m:SM):List (List UInt8):=match S.msgs.find? fun x=>x.name==m.name with
 |none=>X
 |some f=>if (XX f).any (fun n=>QZ S n && !X.contains n)=true then X else if X.contains m.name=true then X else X++[m.name]
def YG (S:SC)(X:List (List UInt8)):List (List UInt8):=S.msgs.foldl (Zl S) X
def Wh (S:SC):Nat→List (List UInt8)
 |0=>[]
 |k+1=>YG S (Wh S k)
def Wi (S:SC):List (List UInt8):=Wh S (S.msgs.length+1)
def UA (S:SC)(m:SM):Bool:=(XX m).any fun n=>QZ S n && !(Wi S).contains n

def Hb (S:SC)(m:SM):Bool:=Xe m.name&&decide (m.fields.length≤64)&&decide (m.free.length≤16)&&decide (m.gone.length≤16)&&QH (WS S m) m.fields.length&&Ha 1 65535 m.free &&
 (m.gone.all ZR)&&XZ m.notes 1==0 && !UA S m
def WT (e:SE)(i:Nat):Bool:=match e.items[i]? with
 |none=>true
 |some x=>decide (x.num≥0)&&decide (x.num≤2147483647)&&(match i with
   |0=>x.num==0
   |j+1=>match e.items[j]? with
    |none=>true
    |some y=>decide (x.num > y.num))&&Q7 x.name && !((e.items.take i).any fun y=>y.name==x.name) && !(kept e.free x.num)&&XZ x.notes 4==0
def Hc (e:SE):Bool:=Xe e.name&&decide (e.items.length≥1)&&decide (e.items.length≤64)&&decide (e.free.length≤16)&&QH (WT e) e.items.length&&Ha 0 2147483647 e.free&&XZ e.notes 3==0
def Nf (S:SC)(v:SQ)(i:Nat):Bool:=match v.meths[i]? with
 |none=>true
 |some x=>Q7 x.name&&(match i with
   |0=>true
   |j+1=>match v.meths[j]? with
    |none=>true
    |some y=>Op.bytesLess y.name x.name)&&QZ S x.inn&&QZ S x.out&&decide (x.shape≥1)&&decide (x.shape≤4)&&XZ x.notes 6==0
def Pr (S:SC)(v:SQ):Bool:=Xe v.name&&decide (v.meths.length≤64)&&QH (Nf S v) v.meths.length&&XZ v.notes 5==0
def Js (S:SC):Bool:=!(S.enums.any fun e=>S.msgs.any fun m=>m.name==e.name) && !(S.servs.any fun v=>S.msgs.any fun m=>m.name==v.name) && !(S.servs.any fun v=>S.enums.any fun e=>e.name==v.name)
def Ps (S:SC):Bool:=Q8 S.msgs (ZP SM.name)&&Q8 S.enums (ZP SE.name)&&Q8 S.servs (ZP SQ.name)
def Pt (S:SC):Bool:=decide (S.msgs.length≤64)&&decide (S.enums.length≤64)&&decide (S.servs.length≤64)
def Z3 (S:SC):Bool:=Pt S&&Ps S&&Js S&&S.msgs.all (Hb S)&&S.enums.all Hc&&S.servs.all (Pr S)

def unl:List (List UInt8)→List SF→List (List UInt8)
 |us,[]=>us
 |us,f :: l=>unl (if f.union=[]∨us.contains f.union=true then us else us++[f.union]) l
def Zv (us:List (List UInt8))(s:List UInt8):Int:=QM (fun u=>u==s) us 0
def Xk (l:List SN):Option V:=(l.find? fun n=>n.name==alias).map SN.val
def Jw (S:SC)(f:SF):Int:=if f.kind=10 then QM (fun m:SM=>m.name==f.tname) S.msgs 0 else if f.kind=9 then QM (fun m:SE=>m.name==f.tname) S.enums 0 else -1
def Zm (S:SC)(us:List (List UInt8))(f:SF):PO :=
 ⟨f.num,f.name,((Xk f.notes).map V.text).getD [],f.card,f.key,f.kind,Jw S f,if f.union=[]then -1 else Zv us f.union⟩
def Xy (S:SC)(m:SM):PG:=⟨m.name,m.fields.map (Zm S (unl [] m.fields)),((unl [] m.fields).length:Int)⟩
def Z4 (x:SI):PI:=⟨x.name,x.num,match Xk x.notes with
 |none=>[]
 |some v=>[⟨alias,v.cells⟩]⟩
def X0 (e:SE):PE:=⟨e.name,e.opn,e.items.map Z4,e.free,[]⟩
def ZB (S:SC):PL:=⟨S.msgs.map (Xy S),S.enums.map X0⟩

end Go.Proofs.YtaiflhahcglpgaaGreatDoor.Va

namespace Go.Proofs.YtaiflhahcglpgaaGreatDoor.Va
open Go Am Rc Bt Br

def Z5 (B:List Bool)(o:PO):Bool:=o.card==1&&o.kind==10 && !(B[o.target.toNat]?.getD false)
def Ww (G:List PG)(B:List Bool)(i:Nat):List Bool:=match G[i]? with
 |some g=>B.set i (!g.ops.any (Z5 B))
 |none=>B
def KH (G:List PG)(B:List Bool):Nat→List Bool
 |0=>B
 |i+1=>Ww G (KH G B i) i
def Qd (G:List PG):Nat→List Bool
 |0=>List.replicate G.length false
 |c+1=>KH G (Qd G c) G.length
def fin (P:PL):Bool:=(Qd P.progs P.progs.length).all id

def Tgt (P:PL):Prop:=∀g∈P.progs,∀o∈g.ops,o.kind=10→0≤o.target∧o.target<(P.progs.length:Int)

theorem EB (G:List PG)(B:List Bool)(i:Nat):(Ww G B i).length=B.length:=by
 unfold Ww;split<;>simp
theorem He (G:List PG)(B:List Bool):∀i,(KH G B i).length=B.length
 |0=>rfl
 |i+1=>by rw[KH,EB,He G B i]
theorem W8 (G:List PG):∀c,(Qd G c).length=G.length
 |0=>by simp[Qd]
 |c+1=>by rw[Qd,He,W8 G c]

def HI (G:List PG)(B:List Bool):Prop:=∀(i:Nat) (g:PG),G[i]? = some g→B[i]? = some true→g.ops.any (Z5 B)=false

theorem CY {B B':List Bool}(h:∀k:Nat,B[k]?.getD false=true→B'[k]?.getD false=true){o:PO}(hn:Z5 B o=false):Z5 B' o=false:=by
 unfold Z5 at *;cases hc:(o.card==1&&o.kind==10)
 ·rfl
 ·rw[hc]at hn;simp only[QG0,Bool.not_eq_false']at hn ⊢;rw[h _ hn]

theorem EC {G:List PG}{B:List Bool}(h:HI G B)(i:Nat):HI G (Ww G B i)∧∀k:Nat,B[k]?.getD false=true→(Ww G B i)[k]?.getD false=true:=by
 have mono:∀k:Nat,B[k]?.getD false=true→(Ww G B i)[k]?.getD false=true:=by
  intro k hk;unfold Ww;split
  ·rename_i g hg;by_cases hki:i=k
   ·subst hki;have hb:B[i]? = some true:=by
     cases hB:B[i]? with
     |none=>rw[hB]at hk;cases hk
     |some b=>rw[hB]at hk;simp at hk;rw[hk]
    have hlt:=(QFz.1 hb).1;rw[List.getElem?_set_self hlt,h i g hg hb];rfl
   ·rw[List.getElem?_set_ne hki];exact hk
  ·exact hk
 refine⟨fun j g hg hb=>?_,mono⟩;rw[List.any_eq_false];intro o ho;rw[Bool.not_eq_true];have hB:B[j]? = some true∨g.ops.any (Z5 B)=false:=by
  unfold Ww at hb;split at hb
  ·rename_i g' hg';by_cases hij:i=j
   ·subst hij;rw[hg]at hg';cases hg'
    right
    by_cases hlt:i<B.length
    ·rw[List.getElem?_set_self hlt]at hb
     simpa using hb
    ·rw[QGJ (by simp;omega)]at hb;cases hb
   ·rw[List.getElem?_set_ne hij]at hb;exact .inl hb
  ·exact .inl hb
 have ha:g.ops.any (Z5 B)=false:=hB.elim (h j g hg) id;rw[List.any_eq_false]at ha;exact CY mono (by simpa using ha o ho)

theorem W9 {G:List PG}{B:List Bool}(h:HI G B):∀i,HI G (KH G B i)
 |0=>h
 |i+1=>(EC (W9 h i) i).1
theorem Hf (G:List PG):∀c,HI G (Qd G c)
 |0=>by
  intro i g _ hb;rw[Qd,List.getElem?_replicate]at hb;split at hb<;>cases hb
 |c+1=>W9 (Hf G c) _

theorem CZ {G:List PG}{B:List Bool}(h:HI G B){i:Nat}{g:PG}{b:Bool}(hg:G[i]? = some g)(hb:B[i]? = some b):Ww G B i=B.set i (b || !g.ops.any (Z5 B)):=by
 unfold Ww;rw[hg];cases b with
 |false=>rfl
 |true=>
  show B.set i _=B.set i (true||_);rw[h i g hg hb];rfl

theorem Ng {P:Program}{f:Fr}{d:Nat}{Qd:List Am.Item}{m:Ql}{ds:List DF}{K:St→Prop}{k l s:Nat}{args:List RA}{ys:List AV}{v:AV}(hk:Qf P k ys m fun x m1=>x=v∧m1=m)(hy:args.map (RA.ev f)=ys)(h:Qp P Qd ⟨Qx f d v,m,ds⟩ K) :
  Qp P (⟨some d,.callK l s (.f k) args,none⟩ :: Qd) ⟨f,m,ds⟩ K:=by
 refine⟨k,[],[],v,m,rfl,?_,rfl,h⟩;show Qf P k (args.map (RA.ev f)++[]) m fun x m1=>x=v∧m1=m
 rw[QGq,hy];exact hk

theorem Qy0 (B:List Bool)(hl:B.length≤maxLen):Qr Tryz.prog 146 [.list (B.map AV.bool),.bool false] (.int .i64 (QM (fun b=>!b) B 0)):=by
 let I:Nat→St→Prop:=fun k st=>∃f i,st=⟨f,[Qc],[]⟩∧k=B.length-i∧QM (fun b=>!b) B 0=QM (fun b=>!b) (B.drop i) i∧f 0=.list (B.map AV.bool)∧f 1=.bool false∧f 7=.int .i64 (B.length:Nat)∧f 8=.int .i64 (i:Nat)
 refine QvM.fn (by simp) ?_;simp only[QGK,Qa,seval];refine Qg I _ ⟨_,0,rfl,rfl,rfl,(by rfl),(by rfl),(by rfl),(by rfl)⟩ ?_;rintro _ st ⟨f,i,rfl,rfl,hx,h0,h1,h7,h8⟩;simp only[h7,h8,Qa,seval];by_cases hlt:i<B.length
 ·obtain⟨x,hi⟩:∃x,B[i]? = some x:=⟨B[i],QFA hlt⟩;have hg:(B.map AV.bool)[i]? = some (.bool x):=by simp[hi]
  have e1:=Qn i _ hlt hl;rw[Xj _ hi]at hx;cases x
  ·rw[QFF (show(!false)=true from rfl)]at hx;have b0:(false==false)=true:=rfl;simp only[Qz hlt,Qj,QGM,Qe,hg,b0,h0,h1,h8,hx,eE,seval]
  ·rw[QFE (by decide)]at hx;have b0:(false==true)=false:=rfl;simp only[Qz hlt,Qj,QGM,Qe,hg,b0,h0,h1,h8,e1,eE,seval];exact⟨B.length-(i+1),by omega,_,i+1,rfl,rfl,hx,(by exact h0),(by exact h1),(by exact h7),(by rfl)⟩
 ·have hx':QM (fun b=>!b) B 0 = -1:=by rw[hx,QF6 (by omega)];rfl
  simp only[QB hlt,hx',Qa,seval]

theorem z96 (B:List Bool)(hl:B.length≤maxLen):Qr Tryz.prog 96 [.list (B.map AV.bool),.bool false] (.bool (!B.all id)):=by
 have e:(!B.all id)=B.any fun b=>!b:=by rw[Xn];rfl
 refine k96.fn (by simp) ?_;simp only[Qa,seval];refine aC (Qy0 B hl) ?_;simp only[Zs,e,Qa,seval]

theorem z95 (o:PO)(n:Nat)(B:List Bool)(hB:B.length=n)(ht:o.kind=10→0≤o.target∧o.target<(n:Int))(fr:Nat→Ob)(m:Ql)(h3:fr 3=.cells [.vec 0 9 1 0 n false])(h9:fr 9=.vec 1 1 (B.map AV.bool)) :
  Qf Tryz.prog 95 [Q3 o,.ptr 3 3 0] (Qc :: Qc :: Qc :: fr :: m) fun y m1=>y=.bool (Z5 B o)∧m1=Qc :: Qc :: Qc :: fr :: m:=by
 refine k95.go (by simp) ?_;simp only[Q3,PO.cells,Z5,eE,seval];cases a1:(o.card==1)
 ·simp only[QGP,Qa,seval]
 cases a2:(o.kind==10)
 ·simp only[a2,QGP,QHd,eE,seval]
 obtain⟨t1,t2⟩:=ht (by simpa using a2);obtain⟨t,hte⟩:=QGX t1;obtain⟨y,hy⟩:∃y,B[t]? = some y:=⟨B[t]'(by omega),QFA (by omega)⟩;have hg:(B.map AV.bool)[t]? = some (.bool y):=by simp[hy]
 have hlt:(t<n)=True:=eq_true (by omega);simp only[a2,hte,hy,hg,hlt,h3,h9,Qe,Qj,QGM,QGx,QG0,QFW,eE,seval]

structure En (P:PL)(c:Nat)(B:List Bool)(f:Fr)(fr:Nat→Ob):Prop where
 h1:f 1=.ptr 0 1 0
 m1:fr 1=.cells [.list (P.progs.map QR),.list (P.enums.map Q2)]
 h3:f 3=.ptr 0 3 0
 m3:fr 3=.cells [.vec 0 9 1 0 P.progs.length false]
 m9:fr 9=.vec 1 1 (B.map AV.bool)
 h12:f 12=.int .i64 (P.progs.length:Nat)
 h13:f 13=.int .i64 (c:Nat)
 r5:∀s∈[5],(fr s).isRow=false

theorem En.drop {P:PL}{c:Nat}{B:List Bool}{f f':Fr}{fr fr':Nat→Ob}(h:En P c B f fr)(hf:∀i,f' i=MZ [5] (f i))(hm:∀i,i∉[5]→fr' i=HW [5] (fr i))(hn:∀i∈[5],fr' i=.none):En P c B f' fr' where
 h1:=by rw[hf,h.h1]<;>rfl
 m1:=by rw[hm 1 (by decide),h.m1]<;>rfl
 h3:=by rw[hf,h.h3]<;>rfl
 m3:=by rw[hm 3 (by decide),h.m3]<;>rfl
 m9:=by rw[hm 9 (by decide),h.m9]<;>rfl
 h12:=by rw[hf,h.h12]<;>rfl
 h13:=by rw[hf,h.h13]<;>rfl
 r5:=fun s hs=>by rw[hn s hs]<;>rfl

def EnA (P:PL)(k:Nat)(st:St):Prop:=∃f fr c,st=⟨f,[fr],[]⟩∧k=P.progs.length-c∧c≤P.progs.length∧En P c (Qd P.progs c) f fr
def EnB (P:PL)(c:Nat)(k:Nat)(st:St):Prop:=∃f fr i,st=⟨f,[fr],[]⟩∧k=P.progs.length-i∧i≤P.progs.length∧En P c (KH P.progs (Qd P.progs c) i) f fr∧f 16=.list (P.progs.map QR)∧f 17=.int .i64 (P.progs.length:Nat)∧f 18=.int .i64 (i:Nat)

theorem z30 {M:Nat}(P:PL)(hP:P.ok M)(hl:P.progs.length≤64)(hT:Tgt P):Qr Tryz.prog 30 [P.av] (.bool (!fin P)):=by
 have e0:P.av=.agg [.list (P.progs.map QR),.list (P.enums.map Q2)]:=rfl;have hmx:P.progs.length≤maxLen:=by simp only[maxLen];omega
 have hz:Jq 1 [AV.bool false]=.bool false:=rfl;have hr0:(List.replicate P.progs.length (AV.bool false))=(Qd P.progs 0).map AV.bool:=by simp[Qd]
 refine k30.fn (by simp) ?_;simp only[e0,QGK,eE,seval];refine UO (n:=P.progs.length) (k:=P.progs.length) rfl rfl (QFx _) (by omega) (by omega) rfl ?_;simp only[hz,hr0,QGK,eE,seval];refine Qg (EnA P) _ ⟨_,_,0,rfl,rfl,QFG _,⟨(by rfl),(by rfl),(by rfl),(by rfl),(by rfl),(by rfl),(by rfl),by simp<;>rfl⟩⟩ ?_;rintro _ st ⟨f0,fr0,c,rfl,rfl,hc,H0⟩;refine QD (a:=_) [5] H0.r5 ?_;intro f fr hf hm hn;have H:=H0.drop hf hm hn;clear hf hm hn;obtain⟨h1,m1,h3,m3,m9,h12,h13,r5⟩:=id H;simp only[h12,h13,Qa,seval];by_cases hlt:c<P.progs.length
 ·have e1:=Qn c _ hlt hmx;simp only[Qz hlt,h1,m1,QGK,eE,seval];refine Qg (EnB P c) _ ⟨_,_,0,rfl,rfl,QFG _,⟨(by exact h1),(by exact m1),(by exact h3),(by exact m3),(by exact m9),(by exact h12),(by exact h13),r5⟩,(by rfl),(by rfl),(by rfl)⟩ ?_;rintro _ st ⟨f0,fr0,i,rfl,rfl,hi,H0,h160,h170,h180⟩;refine QD (a:=_) [5] H0.r5 ?_;intro f fr hf hm hn;have H:=H0.drop hf hm hn;have h16:f 16=.list (P.progs.map QR):=by rw[hf,h160]<;>rfl
  have h17:f 17=.int .i64 (P.progs.length:Nat):=by rw[hf,h170]<;>rfl
  have h18:f 18=.int .i64 (i:Nat):=by rw[hf,h180]<;>rfl
  have n5:=hn 5 (by decide);clear hf hm hn;obtain⟨h1,m1,h3,m3,m9,h12,h13,r5⟩:=id H;simp only[h17,h18,Qa,seval];by_cases hli:i<P.progs.length
  ·obtain⟨g,hg⟩:∃g,P.progs[i]? = some g:=⟨P.progs[i],QFA hli⟩;have hgm:(P.progs.map QR)[i]? = some (QR g):=by simp[hg]
   have hBl:(KH P.progs (Qd P.progs c) i).length=P.progs.length:=by rw[He,W8]
   obtain⟨b,hb⟩:∃b,(KH P.progs (Qd P.progs c) i)[i]? = some b:=⟨_,QFA (by omega)⟩;have hbm:((KH P.progs (Qd P.progs c) i).map AV.bool)[i]? = some (.bool b):=by simp[hb]
   have hst:=CZ (W9 (Hf P.progs c) i) hg hb;have e2:=Qn i _ hli hmx;have s1:(i<P.progs.length)=True:=eq_true hli;have hTg:=hT g (QFL hg);generalize hBB:KH P.progs (Qd P.progs c) i=B at *;have fin2:∀(f':Fr) (fr':Nat→Ob) (v:Bool),(b || !g.ops.any (Z5 B))=v→f' 1=.ptr 0 1 0→fr' 1=.cells [.list (P.progs.map QR),.list (P.enums.map Q2)]→f' 3=.ptr 0 3 0→fr' 3=.cells [.vec 0 9 1 0 P.progs.length false]→
     fr' 9=.vec 1 1 ((B.map AV.bool).set i (.bool v))→f' 12=.int .i64 (P.progs.length:Nat)→f' 13=.int .i64 (c:Nat)→(∀s∈[5],(fr' s).isRow=false)→f' 16=.list (P.progs.map QR)→f' 17=.int .i64 (P.progs.length:Nat)→f' 18=.int .i64 ((i+1:Nat):Int)→∃k,k<P.progs.length-i∧EnB P c k ⟨f',[fr'],[]⟩:=by
    intro f' fr' v hv a1 a2 a3 a4 a5 a6 a7 a8 a9 a10 a11;have hB':KH P.progs (Qd P.progs c) (i+1)=B.set i v:=by rw[KH,hBB,hst,hv]
    exact⟨P.progs.length-(i+1),by omega,f',fr',i+1,rfl,rfl,by omega,⟨a1,a2,a3,a4,by rw[hB',a5,List.map_set],a6,a7,a8⟩,a9,a10,a11⟩
   have ist:∀(fr':Nat→Ob) (v:Bool),fr' 9=.vec 1 1 (B.map AV.bool)→Q5 [fr'] (.vptr 0 9 1 i 0) [.bool v]=some [Qx fr' 9 (.vec 1 1 ((B.map AV.bool).set i (.bool v)))]:=by
    intro fr' v h9;have e:Am.Qh [fr'] 0 9=.vec 1 1 (B.map AV.bool):=h9;simp only[Q5,e,hbm];simp[AV.cells,AV.rfL,AV.rf,Am.put,Jb]
   have ia:∀fr':Nat→Ob,fr' 9=.vec 1 1 (B.map AV.bool)→Qe [fr'] 1 none (.vec 0 9 1 0 P.progs.length false) (i:Int)=some (.vptr 0 9 1 i 0):=by
    intro fr' h9;have e:Am.Qh [fr'] 0 9=.vec 1 1 (B.map AV.bool):=h9;simp only[Qe,e,Qj,if_true,QGM];simp;omega
   have hcl:=fun(fr':Nat→Ob) (h3:fr' 3=.cells [.vec 0 9 1 0 P.progs.length false]) (h9:fr' 9=.vec 1 1 (B.map AV.bool))=>CP g.ops (hP.progs g (QFL hg)).len (Z5 B) 95 [.ptr 0 3 0] [fr'] fun o ho=>z95 o P.progs.length B hBl (hTg o ho) fr' _ h3 h9
   simp only[Qz hli,Qj,QGM,Qe,hgm,QR,PG.cells,n5,hbm,s1,QFW,h3,h16,h18,m3,m9,eE,seval];cases b
   ·simp only[eE,seval];refine Ng (hcl _ (by exact m3) (by exact m9)) (by simp only[QF3,QGo,h3,Qa,seval]<;>rfl) ?_;generalize hav:g.ops.any (Z5 B)=av;rw[hav]at fin2;simp only[ia,ist,h18,m9,e2,eE,seval];exact fin2 _ _ _ rfl (by exact h1) (by exact m1) (by exact h3) (by exact m3) (by rfl) (by exact h12) (by exact h13) (by simp<;>rfl) (by exact h16) (by exact h17) (by rfl)
   ·simp only[ia,ist,h18,m9,e2,eE,seval];exact fin2 _ _ _ rfl (by exact h1) (by exact m1) (by exact h3) (by exact m3) (by rfl) (by exact h12) (by exact h13) (by simp<;>rfl) (by exact h16) (by exact h17) (by rfl)
  ·have hii:i=P.progs.length:=by omega
   subst hii;simp only[QB hli,h13,e1,Qa,seval];exact⟨P.progs.length-(c+1),by omega,_,_,c+1,rfl,rfl,by omega,⟨(by exact h1),(by exact m1),(by exact h3),(by exact m3),m9,(by exact h12),(by rfl),r5⟩⟩
 ·have hcc:c=P.progs.length:=by omega
  subst hcc;have hBl:=W8 P.progs P.progs.length;simp only[QB hlt,h3,m3,eE,seval];refine Xd (z96 (Qd P.progs P.progs.length) (by omega)) ?_ rfl rfl (.inr rfl) ?_
  ·have el:Am.Qh [fr] 0 9=.vec 1 1 ((Qd P.progs P.progs.length).map AV.bool):=m9;simp only[QF3,QGo,AV.stillL,AV.still,el,Qa,seval];have hle:(0+P.progs.length≤((Qd P.progs P.progs.length).map AV.bool).length)=True:=eq_true (by simp;omega);have ht:((Qd P.progs P.progs.length).map AV.bool).take P.progs.length=(Qd P.progs P.progs.length).map AV.bool:=QF4 (by simp;omega);simp only[QGP,QFQ,if_false,hle,if_true,ht]
  ·simp only[fin,Qa,seval]

def ck (P:PL):Int :=
 if Ux P=false then 3 else if F3 P=false then 8 else if F4 P=false then 11 else if F5 P=false then 9 else if F6 P=false then 6 else if args P=false then 1 else if fin P=false then 19 else 0

theorem C0 {P:PL}(h:Ux P=true):P.progs.length≤64∧P.enums.length≤64∧(∀g∈P.progs,g.ops.length≤64)∧∀e∈P.enums,1≤e.items.length∧e.items.length≤64∧e.free.length≤16:=by
 unfold Ux at h;simp only[QFU,QGH,QFK]at h;obtain⟨⟨⟨h1,h2⟩,h3⟩,h4⟩:=h;refine⟨h1,h2,fun g hg=>?_,fun e he=>?_⟩
 ·have:=h3 g hg;unfold WM at this;exact of_decide_eq_true this
 ·have:=h4 e he;unfold U3 at this;simp only[QFU,QGH]at this;exact⟨this.1.1,this.1.2,this.2⟩

theorem Pu {P:PL}(h:args P=true):Tgt P:=by
 intro g hg o ho hk;unfold args at h;simp only[QFU,QFK]at h;have h1:=h.1 g hg;unfold WR at h1;simp only[QFU,QFK]at h1;have h2:=(h1.2 o ho).1;unfold KP at h2;simp only[QFU]at h2;have h3:=h2.2;unfold F8 at h3;rw[QFF hk]at h3;simp only[QFU,QGH]at h3;exact⟨h3.1.1,h3.1.2⟩

theorem Qy1 {M:Nat}(P:PL)(hP:P.ok M)(hM:M≤140737488351232)(hN1:∀g∈P.progs,g.name.length≤17592186044000)(hN2:∀g∈P.enums,g.name.length≤17592186044000):Qr Tryz.prog 11 [P.av] (.int .i64 (ck P)):=by
 have e0:P.av=.agg [.list (P.progs.map QR),.list (P.enums.map Q2)]:=rfl;have c1:=z24 P hP;have c2:=Qyz P hP hN1 hN2;have c3:=z26 P hP;have c4:=z27 P hP;refine k11.fn (by simp) ?_;simp only[e0,ck,eE,seval];refine aC c1 ?_;cases hl:Ux P
 ·simp only[QGv,Qa,seval]
 obtain⟨l1,l2,l3,l4⟩:=C0 hl;have c5:=z28 P hP fun e he h=>by have:=(l4 e he).1;rw[h]at this;simp at this
 have c6:=z29 hM P hP l3;simp only[QG1,QHj,eE,seval];refine aC c2 ?_;cases F3 P
 ·simp only[QGv,Qa,seval]
 simp only[QG1,QHj,eE,seval];refine aC c3 ?_;cases F4 P
 ·simp only[QGv,Qa,seval]
 simp only[QG1,QHj,eE,seval];refine aC c4 ?_;cases F5 P
 ·simp only[QGv,Qa,seval]
 simp only[QG1,QHj,eE,seval];refine aC c5 ?_;cases F6 P
 ·simp only[QGv,Qa,seval]
 simp only[QG1,QHj,eE,seval];refine aC c6 ?_;cases ha:args P
 ·simp only[QGv,Qa,seval]
 have c7:=z30 P hP l1 (Pu ha);simp only[QG1,QHj,eE,seval];refine aC c7 ?_;cases fin P
 ·simp only[QGv,Qa,seval]
 ·simp only[QG1,QHj,Qa,seval]

theorem z11 {M:Nat}(P:PL)(hP:P.ok M)(hM:M≤17592186044000):Qr Tryz.prog 11 [P.av] (.int .i64 (ck P)) :=
 Qy1 P hP (QFy hM (by decide)) (fun o ho=>QFy (hP.progs o ho).name hM) (fun o ho=>QFy (hP.enums o ho).name hM)

def Pc (P:PL):List AV:=[.list (P.progs.map QR),.list (P.enums.map Q2)]

section
variable {M:Nat}(P:PL)(hP:P.ok M)(fr:Nat→Ob)(m1:fr 1=.cells (Pc P))(f:Fr)(b:Bool)(h1:f 1=.ptr 0 1 0)(h3:f 3=.bool b)(Q:Exit→St→Prop)
include hP m1 h1 h3

end

section
variable {M:Nat}(P:PL)(hP:P.ok M)
include hP

end

theorem QlX (L:List PS)(hl:L.length≤maxLen)(n:Int):Qr Tryz.prog 121 [.list (L.map QV),.int .i64 n] (.bool (kept L n)):=by
 let I:Nat→St→Prop:=fun k st=>∃f i,st=⟨f,[Qc],[]⟩∧k=L.length-i∧kept L n=kept (L.drop i) n∧f 0=.list (L.map QV)∧f 1=.int .i64 n∧f 5=.int .i64 (i:Nat)
 refine QuV.fn (by simp) ?_;simp only[Qa,seval];refine Qg I _ ⟨_,0,rfl,rfl,rfl,(by rfl),(by rfl),(by rfl)⟩ ?_;rintro _ st ⟨f,i,rfl,rfl,hx,h0,h1,h5⟩;simp only[QGK,h0,h5,Qa,seval];by_cases hlt:i<L.length
 ·obtain⟨x,hi⟩:∃x,L[i]? = some x:=⟨L[i],QFA hlt⟩;have hg:(L.map QV)[i]? = some (QV x):=by simp[hi]
  have e1:=Qn i _ hlt hl;have hd:kept (L.drop i) n=((decide (x.lo≤n)&&decide (n≤x.hi))||kept (L.drop (i+1)) n):=by
   unfold kept;rw[QGc hlt,show L[i]=x from(QFz.1 hi).2];rfl
  rw[hd]at hx;simp only[Qz hlt,Qj,QGM,Qe,hg,QV,PS.cells,h0,h1,h5,eE,seval];cases a1:decide (x.lo≤n)
  ·rw[a1,QGP,QG3]at hx;simp only[h5,e1,Qa,seval];exact⟨L.length-(i+1),by omega,_,i+1,rfl,rfl,hx,(by exact h0),(by exact h1),(by rfl)⟩
  ·cases a2:decide (n≤x.hi)
   ·rw[a1,a2,QHd,QG3]at hx;simp only[a2,Qj,QGM,Qe,hg,QV,PS.cells,h0,h1,h5,e1,eE,seval];exact⟨L.length-(i+1),by omega,_,i+1,rfl,rfl,hx,(by exact h0),(by exact h1),(by rfl)⟩
   ·rw[a1,a2,QGA,QG2]at hx;simp only[a2,Qj,QGM,Qe,hg,QV,PS.cells,h0,h1,h5,hx,eE,seval]
 ·have hx':kept L n=false:=by rw[hx,QF6 (by omega)];rfl
  simp only[QB hlt,hx',Qa,seval]

section
variable {M:Nat}(P:PL)(hP:P.ok M)(fr:Nat→Ob)(m1:fr 1=.cells (Pc P))(f:Fr)(b:Bool)(h1:f 1=.ptr 0 1 0)(h3:f 3=.bool b)(Q:Exit→St→Prop)

include hP m1 h1 h3

end

section
variable (kd:Int)(b:Nat)(t:List UInt8)(l p s r:List AV)(ht:t.length+8≤maxLen)
include ht

end

section
variable (P:PL)

end

def oth (k:Int)(b:Nat)(t:List UInt8)(l p s r:List AV):Bool :=
 (k != 11&&decide ((l.length:Int) > 0))||(k != 12&&decide ((p.length:Int) > 0))||(k != 10&&decide (((s.length+r.length:Nat):Int) > 0))||((b:Int) != 0&&(Kt k||k==10||k==11||k==12))||(!(t==[]) && !Kt k)

section
variable (k:Int)(b:Nat)(t:List UInt8)(l p s r:List AV)(hs:s.length≤140737488351232)(hr:r.length≤140737488351232)

end

section
variable (k:Int)(b:Nat)(t:List UInt8)(l p s r:List AV)(hs:s.length≤140737488351232)(hr:r.length≤140737488351232)

end

theorem HJ {α:Type}(p:α→Bool){l:List α}{i:Nat}{x:α}(hx:l[i]? = some x):(l.drop i).find? p=if p x=true then some x else(l.drop (i+1)).find? p:=by
 have hlt:i<l.length:=(QFz.1 hx).1;rw[QGc hlt,show l[i]=x from(QFz.1 hx).2,List.find?_cons];cases p x<;>rfl

def zc:List AV:=[.int .i64 0,.str [],.str [],.int .i64 0,.int .i64 0,.int .i64 0,.int .i64 0,.int .i64 0]

section progs
variable (L:List PG)(hl:L.length≤maxLen)(p:PG→Bool)(c:Nat)(cap:AV)(m:Ql)

end progs

section items
variable (L:List PI)(hl:L.length≤maxLen)(p:PI→Bool)(c:Nat)(cap:AV)(m:Ql)

theorem Bb {α:Type}(p:α→Bool)(l:List α):decide (QM p l 0≥0)=l.any p:=by
 rcases Xr p l 0 with⟨h1,h2⟩|⟨k,o,h1,_,h3⟩
 ·rw[h1];have:l.any p=false:=by
   rw[List.any_eq_false];intro x hx;exact fun h=>by have:=QG6.1 h2 x hx;exact this h
  rw[this];rfl
 ·rw[h1];have:l.any p=true:=QG7.2 ⟨o,QG8 h3,QG9 h3⟩;rw[this];exact QHa (by omega)

end items

def pmi (b:Nat)(x:PI):Bool:=IntKind.u64.wrap x.num==(b:Int)
def acp (E:List PE)(t:Int)(b:Nat):Bool :=
 if 0≤t∧t<E.length∧b≤2147483647 then
  match E[t.toNat]? with
  |some x=>x.opn||x.items.any (pmi b)
  |none=>false
 else false

def Qy2 (P:PL)(k tg kd:Int)(b:Nat)(t:List UInt8)(l p s r:List AV):Int :=
 if (kd != k||oth kd b t l p s r)=true then 12 else if decide ((t.length:Int) > 4096)=true then 3 else if (k==7 && !ZR t)=true then 7
 else if (!XR k kd b t l p s r)=true then 12 else if (k==9 && !acp P.enums tg b)=true then 16 else 0

section
variable {M:Nat}(P:PL)(hP:P.ok M)(k tg kd:Int)(b:Nat)(t:List UInt8)(l p s r:List AV)(hl:l.length≤140737488351232)(hp:p.length≤140737488351232)(hs:s.length≤140737488351232)(hr:r.length≤140737488351232)

end

section
variable {M:Nat}(hM:M≤140737488351232)(P:PL)(hP:P.ok M)(fr:Nat→Ob)(m1:fr 1=.cells (Pc P))(f:Fr)(b:Bool)(h1:f 1=.ptr 0 1 0)(h3:f 3=.bool b)(Q:Exit→St→Prop)
include hM hP m1 h1 h3

end

section
variable {M:Nat}(P:PL)(hP:P.ok M)(fr:Nat→Ob)(m1:fr 1=.cells (Pc P))(f:Fr)(b:Bool)(h1:f 1=.ptr 0 1 0)(h3:f 3=.bool b)(Q:Exit→St→Prop)
include hP m1 h1 h3

end

section
variable (x:PE)(hl1:x.items.length≤maxLen)(hl:x.free.length≤maxLen)(P:PL)(f:Fr)(b:Bool)(j:Nat)(fr:Nat→Ob)(h1:f 1=.ptr 0 1 0)(h3:f 3=.bool b)(h7:f 7=.int .i64 (j:Nat))(h8:f 8=.ptr 0 8 0)(m1:fr 1=.cells (Pc P))(m8:fr 8=.cells x.cells)(Q:Exit→St→Prop)
include hl1 hl h1 h3 h7 h8 m8

end

section
variable {M:Nat}(P:PL)(hP:P.ok M)(fr:Nat→Ob)(m1:fr 1=.cells (Pc P))(f:Fr)(b:Bool)(h1:f 1=.ptr 0 1 0)(h3:f 3=.bool b)(Q:Exit→St→Prop)
include hP m1 h1 h3

end

section
variable (k kd:Int)(b:Nat)(t:List UInt8)(l p s r:List AV)(ht:t.length+8≤maxLen)

include ht in
theorem QlY:Qr Tryz.prog 173 [.int .i64 k,vo kd b t l p s r] (.bool (XR k kd b t l p s r)):=by
 have hl:=QyT kd b t l p s r;simp only[vo]at hl;have n1:(kd != k)=!(kd==k):=rfl;have n2:(t != [])=!(t==[]):=rfl;refine Qwm.fn (by simp) ?_;simp only[vo,XR,eE,seval];refine aC (Qyd k) ?_;cases hk:WL k
 ·simp only[QGv,QGP,Qa,seval]
 simp only[n1,QG1,QG0,eE,seval];cases a1:(kd==k)
 ·simp only[QGv,QGP,Qa,seval]
 have e:kd=k:=by simpa using a1
 subst e;simp only[QG1,QG0,eE,seval];refine aC hl ?_;cases KF l p s r
 ·simp only[QGv,QGP,Qa,seval]
 simp only[QG1,QG0,Qa,seval];refine aC (Qye kd) ?_;cases tx:Kt kd
 ·simp only[QFQ,Qy,eE,seval];cases a2:(t==[])
  ·simp only[QGv,QGP,Qa,seval]
  have e:t=[]:=by simpa using a2
  subst e;have k7:(kd != 7)=true:=by
   simp only[Kt,QGi,QHc]at tx;simp[tx.1]
  have d0:decide (((0:Nat):Int)≤4096)=true:=rfl;simp only[k7,QGy,QG1,QG0,QGA,QG2,Qa,seval];unfold U8;by_cases h1:kd=1
  ·subst h1;have b1:((1:Int)==1)=true:=rfl;simp only[b1,eE,seval]
  ·have b1:(kd==1)=false:=by simp[h1]
   by_cases h2:kd=2
   ·subst h2;have b2:((2:Int)==2)=true:=rfl;simp only[b1,b2,h1,eE,seval];cases hd:decide (IntKind.i64.wrap (b:Int)≥-2147483648)<;>simp only[QG0,QGP,Qa,seval]
   ·have b2:(kd==2)=false:=by simp[h2]
    by_cases h4:kd=4
    ·subst h4;have b4:((4:Int)==4)=true:=rfl;simp only[b1,b2,b4,h1,h2,eE,seval]
    ·have b4:(kd==4)=false:=by simp[h4]
     by_cases h9:kd=9
     ·subst h9;have b9:((9:Int)==9)=true:=rfl;simp only[b1,b2,b9,b4,h1,h2,h4,eE,seval]
     ·have b9:(kd==9)=false:=by simp[h9]
      simp only[b1,b2,b9,b4,h1,h2,h4,h9,Qa,seval]
 ·simp only[eE,seval];cases a2:((b:Int)==0)
  ·simp only[QGP,Qa,seval]
  have hfn:U8 kd b=true:=by
   simp only[Kt,QGm,QFV]at tx;rcases tx with rfl|rfl<;>rfl
  cases a3:decide ((t.length:Int)≤4096)
  ·simp only[a3,hfn,QGP,QHd,eE,seval]
  simp only[Kt,QGm,QFV]at tx;rcases tx with rfl|rfl
  ·have c8:((7:Int)==8)=false:=rfl;have c7:((7:Int) != 7)=false:=rfl;simp only[a3,c8,c7,hfn,QG0,QG3,eE,seval];refine aC (QlQ t ht) ?_;simp only[Qa,seval]
  ·have c8:((8:Int)==8)=true:=rfl;have c7:((8:Int) != 7)=true:=rfl;simp only[a3,c8,c7,hfn,QG2,eE,seval]

end

section
variable {M:Nat}(P:PL)(hP:P.ok M)(k tg kd:Int)(b:Nat)(t:List UInt8)(l p s r:List AV)(ht:t.length+8≤maxLen)(hs:s.length≤140737488351232)(hr:r.length≤140737488351232)

end
open Up So

def DT (l:List Int):Int:=l.foldl (fun a t=>a+(2:Int) ^ t.toNat) 0
def YH (x:List UInt8×Int×List Int):AV:=.agg [.int .i64 x.2.1,.int .i64 (DT x.2.2)]
def Bc:List AV→List (List UInt8×Int×List Int)→Bool
 | [],[]=>true
 |.agg [.int .i64 a,.int .i64 b] :: l,x :: r=>a==x.2.1&&b==DT x.2.2&&Bc l r
 |_,_=>false
theorem QlZ:∀ {l:List AV} {r:List (List UInt8×Int×List Int)},Bc l r=true→l=r.map YH:=by
 intro l
 induction l with
 |nil=>
  intro r h;cases r with
  |nil=>rfl
  |cons x r=>simp[Bc]at h
 |cons y l ih=>
  intro r h;cases r with
  |nil=>unfold Bc at h;split at h<;>simp_all
  |cons x r=>
   unfold Bc at h;split at h
   ·simp_all
   ·rename_i hl hr;cases hl;cases hr;simp only[QFU,QFV]at h;rw[QF3,←ih h.2,YH,←h.1.1,←h.1.2]
   ·cases h
theorem WU (s:List UInt8):∀L:List (List UInt8×Int×List Int),Zt s (L.map Prod.fst) (L.map YH)=(L.find? fun x=>x.1==s).map YH
 | []=>rfl
 |x :: L=>by
  rw[QF3,QF3,Zt,WU s L,List.find?_cons];rw[show(s==x.1)=(x.1==s)from BEq.comm];cases x.1==s<;>rfl

def WV:Hz:=fun k=>match k with
 |186=>some (M9,Pa,16)
 |208=>some (Qkd,Qke,21)
 |209=>some (Qkq,Qkr,48)
 |_=>none
theorem Kk:W5 Tryz.prog WV:=by
 intro k c rs N h;unfold WV at h;split at h
 ·cases h;exact Qjx
 ·cases h;exact Qkf
 ·cases h;exact Qxd
 ·cases h
def pKn:Option (AV×Ql)→Bool
 |some (.mp ks vs,_)=>ks==nK.map Prod.fst&&Bc vs nK
 |_=>false
theorem Ql0:pKn (JI Ev.XF WV (ZA Ev.XF WV 300) 186 [] [])=true:=by decide +kernel
theorem Ql1:Qr Tryz.prog 186 [] (.mp (nK.map Prod.fst) (nK.map YH)):=by
 have h:=Ql0;unfold pKn at h;split at h
 ·rename_i ks vs m' h1;rw[QFU,QFV]at h;rw[←h.1,←QlZ h.2];exact(Z1 Ev.JK Kk (WK Ev.JK Kk 300) _ _ _ _ _ h1).mono fun _ _ e=>e.1
 ·cases h
def pKi (n:Int):Option (AV×Ql)→Bool
 |some (.int .i64 k,_)=>k==n
 |_=>false
def pKb (b:Bool):Option (AV×Ql)→Bool
 |some (.bool k,_)=>k==b
 |_=>false
def KW:List Int:=[1,2,3,4,5,6]
theorem Pv:nK.all (fun x=>pKi x.2.1 (JI Ev.XF WV (ZA Ev.XF WV 300) 208 [.str x.1] []))=true:=by decide +kernel
theorem Pw:nK.all (fun x=>KW.all fun t=>pKb (x.2.2.contains t) (JI Ev.XF WV (ZA Ev.XF WV 300) 209 [.str x.1,.int .i64 t] []))=true:=by decide +kernel
theorem Px:nK.all (fun x=>KW.all fun t=>(bits .and .i64 ((DT x.2.2).fdiv (2 ^ (min t.toNat IntKind.i64.bits))) 1==0) == !(x.2.2.contains t))=true:=by decide +kernel
theorem Ql2:nK.all (fun x=>decide (x.2.1≠0))=true:=by decide

theorem Wj {s:List UInt8}{x:List UInt8×Int×List Int}(h:nK.find? (fun x=>x.1==s)=some x):x∈nK∧x.1=s∧XI s=x.2.1∧x.2.1≠0∧∀t,CX s t=x.2.2.contains t:=by
 have h1:=QG8 h;have h2:x.1=s:=by simpa using QG9 h
 have e:Ba s=some x.2:=by unfold Ba;rw[h];rfl
 refine⟨h1,h2,?_,?_,fun t=>?_⟩
 ·unfold XI;rw[e];rfl
 ·simpa using QFK.1 Ql2 x h1
 ·unfold CX;rw[e];rfl
theorem Wk {s:List UInt8}(h:nK.find? (fun x=>x.1==s)=none):XI s=0:=by
 have e:Ba s=none:=by unfold Ba;rw[h];rfl
 unfold XI;rw[e];rfl

theorem Qy3 (s:List UInt8):Qr Tryz.prog 217 [.str s] (.int .i64 (XI s)):=by
 have hm:=WU s nK;refine QkD.fn (by simp) ?_;simp only[Qa,seval];refine aC Ql1 ?_;cases hf:nK.find? (fun x=>x.1==s)with
 |none=>
  rw[hf]at hm;simp only[X3,hm,Option.map_none,Wk hf,Qa,seval]
 |some x=>
  rw[hf]at hm;obtain⟨_,_,hk,_⟩:=Wj hf;have hg:AV.gr (.agg [.int .i64 x.2.1,.int .i64 (DT x.2.2)])=true:=rfl;simp only[X3,hm,QFX,YH,hg,hk,Qa,seval]

section
variable {M:Nat}(n:SN)(hn:n.ok M)(hM:M+8≤maxLen)

theorem Ys (n:SN):n.cells=[.str n.name,.int .i64 n.val.kd,.int .u64 (n.val.bits:Nat),.str n.val.text,.list (n.val.list.map V.av),.list (n.val.pairs.map V.pav),.list (n.val.slots.map V.sav),.list (n.val.raws.map R.av)]:=by
 rw[SN.cells,V.eta]

include hn in
theorem Qy4:Qr Tryz.prog 187 [.agg n.cells] (.bool (HH n)):=by
 have hv:=hn.val;have n1:=hv.nl;have n2:=hv.np;have n3:=hv.ns;have n4:=hv.nr;have hf:=Pq (XI n.name) n.val.kd n.val.bits n.val.text (n.val.list.map V.av) (n.val.pairs.map V.pav) (n.val.slots.map V.sav) (n.val.raws.map R.av) (by simp;omega) (by simp;omega) (by simp;omega) (by simp;omega);have he:HH n=(XI n.name != 0&&XR (XI n.name) n.val.kd n.val.bits n.val.text (n.val.list.map V.av) (n.val.pairs.map V.pav) (n.val.slots.map V.sav) (n.val.raws.map R.av)):=rfl;simp only[vo]at hf;rw[Ys,he];refine QjB.fn (by simp) ?_;simp only[eE,seval];refine aC (Qy3 n.name) ?_;cases h0:(XI n.name != 0)
 ·simp only[h0,QGP,Qa,seval]
 ·simp only[h0,QG0,eE,seval];refine aC hf ?_;simp only[Qa,seval]

include hn in
theorem Qy5 (t:Int)(ht:t∈KW)(last:List UInt8)(ok:Bool):Qr Tryz.prog 145 [.agg n.cells,.int .i64 t,.str last,.bool ok] (.int .i64 (JM t (if ok=true then some last else none) n)):=by
 have hr:=Qy4 n hn;have hm:=WU n.name nK;have t1:decide (t<1)=false:=by simp[KW]at ht;exact QHf (by omega)
 have t2:decide (t > 6)=false:=by simp[KW]at ht;exact QHf (by omega)
 have t3:(0≤t)=True:=by simp[KW]at ht;simp;omega
 have hrt:HH n=(XI n.name != 0&&n.val.fitk (XI n.name)):=rfl;rw[Ys]at hr ⊢;unfold JM;refine Qhk.fn (by simp) ?_;simp only[eE,seval];refine aC Ql1 ?_;cases hf:nK.find? (fun x=>x.1==n.name)with
 |none=>
  rw[hf]at hm;rw[QFF (Wk hf)];simp only[hm,Option.map_none,eE,seval]
 |some x=>
  rw[hf]at hm;obtain⟨hx,_,hk,h0,htg⟩:=Wj hf;have hg:AV.gr (.agg [.int .i64 x.2.1,.int .i64 (DT x.2.2)])=true:=rfl;have hb:(bits .and .i64 ((DT x.2.2).fdiv (2 ^ (min t.toNat IntKind.i64.bits))) 1==0)=!(x.2.2.contains t):=by simpa using QFK.1 (QFK.1 Px x hx) t ht
  have hb2:(bits .and .i64 ((DT x.2.2).fdiv (2 ^ (min t.toNat 64))) 1==0)=!(x.2.2.contains t):=hb;rw[QFE (by rw[hk];exact h0),htg t];have hrt':HH n=n.val.fitk (XI n.name):=by rw[hrt,hk];simp[h0]
  simp only[hm,QFX,YH,hg,t1,t2,t3,hb2,eE,seval];cases hc:x.2.2.contains t
  ·simp only[QGv,Qa,seval]
  ·simp only[QG1,QHj,eE,seval];refine aC hr ?_;rw[hrt'];cases hq:n.val.fitk (XI n.name)
   ·simp only[QGv,Qa,seval]
   ·simp only[QG1,QHj,Qa,seval];cases ok
    ·simp only[QFQ,Qa,seval]
    ·simp only[eE,seval];cases hl:Op.bytesLess n.name last
     ·simp only[Qy,hl,QFQ,eE,seval];by_cases he:n.name=last
      ·have b0:(n.name==last)=true:=by simp[he]
       simp only[b0,QFF he,Qa,seval]
      ·have b0:(n.name==last)=false:=by simp[he]
       simp only[b0,QFE he,Qa,seval]
     ·simp only[Qy,hl,Qa,seval]
end

def Zw (l:List SN):Nat→Option (List UInt8)
 |0=>none
 |i+1=>(l[i]?).map SN.name
theorem JN {l:List SN}{i:Nat}{x:SN}(h:l[i]? = some x):Zw l (i+1)=some x.name:=by
 rw[Zw,h];rfl
theorem DU {t:Int}{l:List SN}{i:Nat}{x:SN}(h:l[i]? = some x)(la:Option (List UInt8)):Wu t la (l.drop i)=if JM t la x=0 then Wu t (some x.name) (l.drop (i+1))else JM t la x:=by
 have hlt:i<l.length:=(QFz.1 h).1;rw[QGc hlt,show l[i]=x from(QFz.1 h).2];rfl

def KcI (l:List SN)(t:Int)(k:Nat)(st:St):Prop :=
 ∃f fr i la,st=⟨f,[fr],[]⟩∧k=l.length-i∧i≤l.length∧Wu t none l=Wu t (Zw l i) (l.drop i)∧f 5=.str la∧(i=0∨Zw l i=some la)∧f 1=.int .i64 t∧f 12=.list (l.map fun n=>.agg n.cells)∧f 13=.int .i64 (l.length:Nat)∧f 14=.int .i64 (i:Nat)∧∀s∈[7],(fr s).isRow=false

theorem y94 {M:Nat}(l:List SN)(hl:l.length≤maxLen)(hn:∀n∈l,n.ok M)(t:Int)(ht:t∈KW):Qr Tryz.prog 94 [.list (l.map fun n=>.agg n.cells),.int .i64 t] (.int .i64 (XZ l t)):=by
 unfold XZ;refine k94.fn (by simp) ?_;simp only[QGK,Qa,seval];by_cases h8:l.length > 8
 ·have d:decide ((l.length:Int) > 8)=true:=QHa (by omega);rw[QFF h8];simp only[d,Qa,seval]
 have d:decide ((l.length:Int) > 8)=false:=QHf (by omega);rw[QFE h8];simp only[d,Qa,seval];refine Qg (KcI l t) _ ⟨_,_,0,[],rfl,rfl,QFG _,rfl,(by rfl),.inl rfl,(by rfl),(by rfl),(by simp only[QGK,Qa,seval]),(by rfl),by simp<;>rfl⟩ ?_;rintro _ st ⟨f0,fr0,i,la,rfl,rfl,hi,hc,h50,hla,h10,h120,h130,h140,r7⟩;refine QD (a:=_) [7] r7 ?_;intro f fr hff hm hn7;have h1:f 1=.int .i64 t:=by rw[hff,h10]<;>rfl
 have h5:f 5=.str la:=by rw[hff,h50]<;>rfl
 have h12:f 12=.list (l.map fun n=>.agg n.cells):=by rw[hff,h120]<;>rfl
 have h13:f 13=.int .i64 (l.length:Nat):=by rw[hff,h130]<;>rfl
 have h14:f 14=.int .i64 (i:Nat):=by rw[hff,h140]<;>rfl
 have n7:=hn7 7 (by decide);clear hff hm hn7 h10 h50 h120 h130 h140 r7;simp only[h13,h14,Qa,seval];by_cases hlt:i<l.length
 ·obtain⟨x,hi'⟩:∃x,l[i]? = some x:=⟨l[i],QFA hlt⟩;have hg:(l.map fun n=>AV.agg n.cells)[i]? = some (.agg x.cells):=by simp[hi']
  have e1:=Qn i _ hlt hl;have ho:=Qy5 x (hn x (QFL hi')) t ht la (decide ((i:Int) > 0));have hx:(if decide ((i:Int) > 0)=true then some la else none)=Zw l i:=by
   rcases QGg i with h0|h0
   ·subst h0;rfl
   ·rw[QFF (QHa (by omega))];rcases hla with h|h
    ·omega
    ·exact h.symm
  rw[hx]at ho;rw[DU hi']at hc;rw[Ys]at hg ho;simp only[Qz hlt,Qj,QGM,Qe,hg,n7,h1,h5,h12,h14,eE,seval];refine aC ho ?_;by_cases hz:JM t (Zw l i) x=0
  ·have d0:(JM t (Zw l i) x != 0)=false:=by simp[hz]
   rw[QFF hz]at hc;simp only[d0,h14,e1,eE,seval];exact⟨l.length-(i+1),by omega,_,_,i+1,x.name,rfl,rfl,by omega,by rw[hc,JN hi'],(by rfl),.inr (JN hi'),(by exact h1),(by exact h12),(by exact h13),(by rfl),by simp<;>rfl⟩
  ·have d0:(JM t (Zw l i) x != 0)=true:=by simp[hz]
   rw[QFE hz]at hc;simp only[d0,hc,Qa,seval]
 ·rw[QF6 (by omega)]at hc;have hc':Wu t none l=0:=hc;simp only[QB hlt,hc',Qa,seval]

theorem Ql3 (s:List UInt8):Qr Tryz.prog 208 [.str s] (.int .i64 (XI s)):=by
 cases hf:nK.find? (fun x=>x.1==s)with
 |some x=>
  obtain⟨hx,hs,hk,_,_⟩:=Wj hf;have h:=QFK.1 Pv x hx;rw[hs]at h;rw[hk];unfold pKi at h;split at h
  ·rename_i k m' h1;rw[QFV]at h;subst h;exact(Z1 Ev.JK Kk (WK Ev.JK Kk 300) _ _ _ _ _ h1).mono fun _ _ e=>e.1
  ·cases h
 |none=>
  have hno:=QG6.1 hf;have hb:∀x∈nK,(s==x.1)=false:=fun x hx=>by
   have:=hno x hx;rw[BEq.comm]
   simpa using this
  simp only[nK,List.forall_mem_cons,QHk,false_implies,implies_true,and_true]at hb;obtain⟨b1,b2,b3,b4,b5,b6,b7,b8,b9,b10,b11,b12,b13⟩:=hb;rw[Wk hf];refine Qkf.fn (by simp) ?_;simp only[Qy,b1,b2,b3,b4,b5,b6,b7,b8,b9,b10,b11,b12,b13,Qa,seval]
theorem Qy6 (s:List UInt8)(hs:XI s≠0)(t:Int)(ht:t∈KW):Qr Tryz.prog 209 [.str s,.int .i64 t] (.bool (CX s t)):=by
 cases hf:nK.find? (fun x=>x.1==s)with
 |some x=>
  obtain⟨hx,hs,_,_,hk⟩:=Wj hf;have h:=QFK.1 (QFK.1 Pw x hx) t ht;rw[hs]at h;rw[hk t];unfold pKb at h;split at h
  ·rename_i k m' h1;rw[QFV]at h;subst h;exact(Z1 Ev.JK Kk (WK Ev.JK Kk 300) _ _ _ _ _ h1).mono fun _ _ e=>e.1
  ·cases h
 |none=>exact absurd (Wk hf) hs

theorem ED {n:V}{k:Int}(h:n.fitk k=true):n.kd=k:=by
 unfold V.fitk XR at h;simp only[QFU,QFV]at h;exact h.1.1.1.1.1.2
section
variable {M:Nat}(n:SN)(hn:n.ok M)(hM:M+8≤maxLen)
include hn hM in
theorem Qy7:Qr Tryz.prog 210 [.agg n.cells] (.bool (HH n)):=by
 have hf:=QlY (XI n.name) n.val.kd n.val.bits n.val.text (n.val.list.map V.av) (n.val.pairs.map V.pav) (n.val.slots.map V.sav) (n.val.raws.map R.av) (by have:=hn.val.text;omega);have he:HH n=(XI n.name != 0&&XR (XI n.name) n.val.kd n.val.bits n.val.text (n.val.list.map V.av) (n.val.pairs.map V.pav) (n.val.slots.map V.sav) (n.val.raws.map R.av)):=rfl;have hk:n.val.fitk (XI n.name)=XR (XI n.name) n.val.kd n.val.bits n.val.text (n.val.list.map V.av) (n.val.pairs.map V.pav) (n.val.slots.map V.sav) (n.val.raws.map R.av):=rfl;simp only[vo]at hf;rw[Ys,he,←hk];rw[←hk]at hf;refine Qxg.fn (by simp) ?_;simp only[eE,seval];refine aC (Ql3 n.name) ?_;cases h0:(XI n.name != 0)
 ·simp only[h0,QGP,Qa,seval]
 simp only[h0,QG0,eE,seval];cases a1:(n.val.kd==XI n.name)
 ·have e:n.val.fitk (XI n.name)=false:=by
   rw[QG5];intro h;rw[ED h]at a1;simp at a1
  simp only[e,Qa,seval]
 ·simp only[eE,seval];refine aC hf ?_;simp only[Qa,seval]
end

def ScI (l:List SN)(t:Int)(k:Nat)(st:St):Prop :=
 ∃f i,st=⟨f,[Qc],[]⟩∧k=l.length-i∧i≤l.length∧Wu t none l=Wu t (Zw l i) (l.drop i)∧f 0=.list (l.map fun n=>.agg n.cells)∧f 1=.int .i64 t∧f 5=.int .i64 (i:Nat)

theorem Qy8 {M:Nat}(hM:M+8≤maxLen)(l:List SN)(hl:l.length≤maxLen)(hn:∀n∈l,n.ok M)(t:Int)(ht:t∈KW):Qr Tryz.prog 175 [.list (l.map fun n=>.agg n.cells),.int .i64 t] (.int .i64 (XZ l t)):=by
 unfold XZ;refine Qws.fn (by simp) ?_;simp only[QGK,Qa,seval];by_cases h8:l.length > 8
 ·have d:decide ((l.length:Int) > 8)=true:=QHa (by omega);rw[QFF h8];simp only[d,Qa,seval]
 have d:decide ((l.length:Int) > 8)=false:=QHf (by omega);rw[QFE h8];simp only[d,Qa,seval];refine Qg (ScI l t) _ ⟨_,0,rfl,rfl,QFG _,rfl,(by rfl),(by rfl),(by rfl)⟩ ?_;rintro _ st ⟨f,i,rfl,rfl,hi,hc,h0,h1,h5⟩;simp only[QGK,h0,h5,Qa,seval];by_cases hlt:i<l.length
 case neg=>
  rw[QF6 (by omega)]at hc;have hc':Wu t none l=0:=hc;simp only[QB hlt,hc',Qa,seval]
 obtain⟨x,hi'⟩:∃x,l[i]? = some x:=⟨l[i],QFA hlt⟩;have hx:=hn x (QFL hi');have hg:(l.map fun n=>AV.agg n.cells)[i]? = some (.agg x.cells):=by simp[hi']
 have e1:=Qn i _ hlt hl;have hr:=Qy7 x hx hM;have hrt:HH x=(XI x.name != 0&&x.val.fitk (XI x.name)):=rfl;rw[DU hi']at hc;rw[Ys]at hg hr;simp only[Qz hlt,Qj,QGM,Qe,hg,h0,h5,eE,seval];refine aC (Ql3 x.name) ?_;by_cases hk:XI x.name=0
 ·have b0:(XI x.name==0)=true:=by simp[hk]
  have hz:JM t (Zw l i) x=8:=by unfold JM;rw[QFF hk]
  rw[hz,QFE (by decide)]at hc;simp only[b0,hc,Qa,seval]
 have b0:(XI x.name==0)=false:=by simp[hk]
 simp only[b0,Qj,QGM,Qe,hg,h0,h1,h5,eE,seval];refine aC (Qy6 x.name hk t ht) ?_;cases a1:CX x.name t
 ·have hz:JM t (Zw l i) x=1:=by unfold JM;rw[QFE hk,QFF a1]
  rw[hz,QFE (by decide)]at hc;simp only[QGv,hc,Qa,seval]
 simp only[QG1,Qj,QGM,Qe,hg,h0,h5,eE,seval];refine aC hr ?_;have hrt':HH x=x.val.fitk (XI x.name):=by rw[hrt];simp[hk]
 rw[hrt'];cases a2:x.val.fitk (XI x.name)
 ·have hz:JM t (Zw l i) x=12:=by unfold JM;rw[QFE hk,QFE (by rw[a1];decide),QFF a2]
  rw[hz,QFE (by decide)]at hc;simp only[QGv,hc,Qa,seval]
 have hz:JM t (Zw l i) x=match Zw l i with
   |none=>0
   |some s=>if Op.bytesLess x.name s=true then 11 else if x.name=s then 9 else 0:=by
  unfold JM;rw[QFE hk,QFE (by rw[a1];decide),QFE (by rw[a2];decide)]<;>cases Zw l i<;>rfl
 cases i with
 |zero=>
  have c1:decide (((0:Nat):Int) > 0)=false:=rfl;have hz':JM t (Zw l 0) x=0:=hz;rw[QFF hz']at hc;simp only[QG1,h5,Qa,seval];exact⟨l.length-(0+1),by omega,_,0+1,rfl,rfl,by omega,by rw[hc,JN hi'],(by exact h0),(by exact h1),(by rfl)⟩
 |succ j=>
  obtain⟨p,hj⟩:∃p,l[j]? = some p:=⟨l[j],QFA (by omega)⟩;have hgj:(l.map fun n=>AV.agg n.cells)[j]? = some (.agg p.cells):=by simp[hj]
  have e2:=ZV j _ hlt hl;have c1:decide (((j+1:Nat):Int) > 0)=true:=QHa (by omega);rw[JN hj]at hz hc;dsimp only at hz;rw[Ys]at hgj;simp only[QG1,c1,e2,Qj,QGM,Qe,hg,hgj,Qy,h0,h5,eE,seval];cases a3:Op.bytesLess x.name p.name
  ·rw[a3,QFE (by decide)]at hz;by_cases a4:x.name=p.name
   ·have b4:(x.name==p.name)=true:=by simp[a4]
    rw[QFF a4]at hz;rw[hz,QFE (by decide)]at hc;simp only[b4,c1,e2,Qj,QGM,Qe,hg,hgj,Qy,hc,h0,h5,eE,seval]
   ·have b4:(x.name==p.name)=false:=by simp[a4]
    rw[QFE a4]at hz;rw[QFF hz]at hc;simp only[b4,c1,e2,Qj,QGM,Qe,hg,hgj,Qy,h0,h5,e1,eE,seval];exact⟨l.length-(j+1+1),by omega,_,j+1+1,rfl,rfl,by omega,by rw[hc,JN hi'],(by exact h0),(by exact h1),(by rfl)⟩
  ·rw[a3,QFF rfl]at hz;rw[hz,QFE (by decide)]at hc;simp only[hc,Qa,seval]

def JO (S:SC)(n:List UInt8):Int:=QM (fun m:SM=>m.name==n) S.msgs 0
def Xc (S:SC)(F:List Bool)(m:SM):Bool:=(XX m).any fun n=>decide (JO S n≥0) && !(F[(JO S n).toNat]?.getD false)
def JT (S:SC)(F:List Bool)(i:Nat):List Bool:=match S.msgs[i]? with
 |none=>F
 |some m=>if F[i]? = some false∧Xc S F m=false then F.set i true else F
def Q4 (S:SC)(F:List Bool):Nat→List Bool
 |0=>F
 |i+1=>JT S (Q4 S F i) i
def ZC (S:SC):Nat→List Bool→List Bool
 |0,F=>F
 |k+1,F=>if Q4 S F S.msgs.length=F then F else ZC S k (Q4 S F S.msgs.length)
def QL (S:SC):List Bool:=ZC S S.msgs.length (List.replicate S.msgs.length false)

theorem EE (S:SC)(F:List Bool)(i:Nat):(JT S F i).length=F.length:=by
 unfold JT;split
 ·rfl
 ·split
  ·exact List.length_set ..
  ·rfl
theorem J0 (S:SC)(F:List Bool):∀i,(Q4 S F i).length=F.length
 |0=>rfl
 |i+1=>by rw[Q4,EE,J0 S F i]
theorem YI (S:SC):∀(k:Nat) (F:List Bool),(ZC S k F).length=F.length
 |0,_=>rfl
 |k+1,F=>by
  rw[ZC];split
  ·rfl
  ·rw[YI S k,J0]

def Wx (F:List Bool):Nat:=F.countP id
theorem Bd {F:List Bool}{i:Nat}(h:F[i]? = some false):Wx (F.set i true)=Wx F+1:=by
 induction F generalizing i with
 |nil=>cases h
 |cons b F ih=>
  cases i with
  |zero=>
   simp only[QGp,QFY]at h;subst h;simp[Wx]
  |succ i=>
   simp only[QGu]at h;have:=ih h;unfold Wx at this ⊢;rw[List.set_cons_succ,List.countP_cons,List.countP_cons,this];omega
theorem Ql4 (F:List Bool):Wx F≤F.length:=List.countP_le_length
theorem Hg (S:SC)(F:List Bool)(i:Nat):JT S F i=F∨Wx (JT S F i)=Wx F+1:=by
 unfold JT;split
 ·exact .inl rfl
 ·split
  ·rename_i h;exact .inr (Bd h.1)
  ·exact .inl rfl
theorem Km (S:SC)(F:List Bool):∀i,Q4 S F i=F∨Wx F<Wx (Q4 S F i)
 |0=>.inl rfl
 |i+1=>by
  rw[Q4];rcases Km S F i with h|h
  ·rw[h];rcases Hg S F i with g|g
   ·exact .inl g
   ·exact .inr (by omega)
  ·rcases Hg S (Q4 S F i) i with g|g
   ·exact .inr (by rw[g];exact h)
   ·exact .inr (by omega)
theorem Wl (S:SC):∀(k:Nat) (F:List Bool),F.length-Wx F≤k→Q4 S (ZC S k F) S.msgs.length=ZC S k F
 |0,F,h=>by
  rw[ZC];rcases Km S F S.msgs.length with g|g
  ·exact g
  ·have h1:=Ql4 (Q4 S F S.msgs.length);rw[J0]at h1;omega
 |k+1,F,h=>by
  rw[ZC];split
  ·rename_i e;exact e
  ·rename_i e;refine Wl S k _ ?_;rcases Km S F S.msgs.length with g|g
   ·exact absurd g e
   ·rw[J0];omega

theorem WW (S:SC):∀(k:Nat) (F:List Bool),∃j,j≤k∧ZC S k F=Nat.repeat (fun F=>Q4 S F S.msgs.length) j F∧(j<k→Q4 S (ZC S k F) S.msgs.length=ZC S k F)
 |0,F=>⟨0,QFx _,rfl,fun h=>by omega⟩
 |k+1,F=>by
  by_cases e:Q4 S F S.msgs.length=F
  ·exact⟨0,QFG _,by rw[ZC,QFF e];rfl,fun _=>by rw[ZC,QFF e];exact e⟩
  ·obtain⟨j,h1,h2,h3⟩:=WW S k (Q4 S F S.msgs.length);have hrep:∀(j:Nat) (F:List Bool),Nat.repeat (fun F=>Q4 S F S.msgs.length) (j+1) F=Nat.repeat (fun F=>Q4 S F S.msgs.length) j (Q4 S F S.msgs.length):=by
    intro j
    induction j with
    |zero=>intro F;rfl
    |succ j ih=>intro F;show Q4 S (Nat.repeat _ (j+1) F) _=_;rw[ih F];rfl
   refine⟨j+1,by omega,by rw[ZC,QFE e,h2,hrep],fun hj=>?_⟩;rw[ZC,QFE e];exact h3 (by omega)

def WX (S:SC)(F:List Bool)(X:List (List UInt8)):Prop:=F.length=S.msgs.length∧∀(i:Nat) (m:SM),S.msgs[i]? = some m→(X.contains m.name=true↔F[i]? = some true)
def Sy (S:SC):Prop:=∀(i j:Nat) (m n:SM),S.msgs[i]? = some m→S.msgs[j]? = some n→m.name=n.name→i=j

section
variable {S:SC}(hD:Sy S)
include hD
theorem C1 {i:Nat}{m:SM}(h:S.msgs[i]? = some m):JO S m.name=(i:Int):=by
 unfold JO;rcases Xr (fun x:SM=>x.name==m.name) S.msgs 0 with⟨_,hn⟩|⟨k,o,h1,h2,h3⟩
 ·have:=QG6.1 hn m (QFL h);simp at this
 ·have hn:o.name=m.name:=by simpa using QG9 h3
  have:=hD k i o m h2 h hn;rw[h1];omega
theorem EG {i:Nat}{m:SM}(h:S.msgs[i]? = some m):S.msgs.find? (fun x=>x.name==m.name)=some m:=by
 rcases Xr (fun x:SM=>x.name==m.name) S.msgs 0 with⟨_,hn⟩|⟨k,o,h1,h2,h3⟩
 ·have:=QG6.1 hn m (QFL h);simp at this
 ·have hn:o.name=m.name:=by simpa using QG9 h3
  have:=hD k i o m h2 h hn;subst this;rw[h2]at h;cases h;exact h3
theorem Be {F:List Bool}{X:List (List UInt8)}(h:WX S F X)(m:SM):(XX m).any (fun n=>QZ S n && !X.contains n)=Xc S F m:=by
 unfold Xc;congr 1
 funext n;cases hm:QZ S n with
 |false=>
  have:¬JO S n≥0:=by
   unfold JO;rcases Xr (fun x:SM=>x.name==n) S.msgs 0 with⟨h1,_⟩|⟨k,o,_,h2,h3⟩
   ·rw[h1];decide
   ·unfold QZ at hm;have:=List.any_eq_false.1 hm o (QFL h2);exact absurd (QG9 h3) this
  rw[QHf this];rfl
 |true=>
  unfold QZ at hm;obtain⟨x,hx,hxn⟩:=QG7.1 hm;obtain⟨i,hi,rfl⟩:=List.getElem_of_mem hx;have hxi:S.msgs[i]? = some S.msgs[i]:=QFA hi;have hxn:S.msgs[i].name=n:=by simpa using hxn
  subst hxn;rw[C1 hD hxi,QHa (by omega),QGM];obtain⟨hl,h2⟩:=h;have h3:=h2 i _ hxi;have hF:F[i]? = some (F[i]'(by omega)):=QFA (by omega);rw[hF]at h3 ⊢;simp only[QFY,QGx]at h3 ⊢;cases hb:F[i]'(by omega)<;>cases hc:X.contains S.msgs[i].name<;>simp_all
theorem EH {F:List Bool}{X:List (List UInt8)}(h:WX S F X){i:Nat}{m:SM}(hm:S.msgs[i]? = some m):WX S (JT S F i) (Zl S X m):=by
 have hne:=Be hD h m;unfold Zl JT;rw[hm,EG hD hm];dsimp only;rw[hne];obtain⟨hl,h2⟩:=h;have h3:=h2 i m hm;have hi:i<S.msgs.length:=(QFz.1 hm).1;have hF:F[i]? = some (F[i]'(by omega)):=QFA (by omega);cases hs:Xc S F m with
 |true=>
  rw[QFF (show true=true from rfl),QFE (fun h:F[i]? = some false∧true=false=>by cases h.2)];exact⟨hl,h2⟩
 |false=>
  rw[QFE (show ¬(false=true)by decide)];by_cases hc:X.contains m.name=true
  ·have:=h3.1 hc;rw[QFF hc,QFE (fun h:F[i]? = some false∧false=false=>by rw[this]at h;cases h.1)];exact⟨hl,h2⟩
  ·have hf:F[i]? = some false:=by
    cases hb:F[i]'(by omega)with
    |false=>rw[hF,hb]
    |true=>exact absurd (h3.2 (by rw[hF,hb])) hc
   rw[QFE hc,QFF (show F[i]? = some false∧false=false from⟨hf,rfl⟩)];refine⟨by rw[List.length_set];exact hl,fun j n hn=>?_⟩;have h4:=h2 j n hn;rw[List.getElem?_set];by_cases hij:i=j
   ·subst hij;rw[hm]at hn;cases hn;rw[QFF rfl,QFF (by omega)];simp
   ·rw[QFE hij,←h4];have hnn:n.name≠m.name:=fun e=>hij (hD i j m n hm hn e.symm)
    simp only[QHl,List.mem_append,List.mem_singleton];exact⟨fun h=>h.resolve_right hnn,.inl⟩
theorem DV {F:List Bool}{X:List (List UInt8)}(h:WX S F X):∀i,i≤S.msgs.length→WX S (Q4 S F i) ((S.msgs.take i).foldl (Zl S) X)
 |0,_=>by simpa [Q4]using h
 |i+1,hi=>by
  have ih:=DV h i (by omega);have hm:S.msgs[i]? = some (S.msgs[i]'(by omega)):=QFA (by omega);rw[Q4,QGU,hm,List.foldl_append];exact EH hD ih hm
theorem C2 {F:List Bool}{X:List (List UInt8)}(h:WX S F X):WX S (Q4 S F S.msgs.length) (YG S X):=by
 have:=DV hD h S.msgs.length (QFx _)
 rwa [QGS]at this
theorem DW {F:List Bool}{X:List (List UInt8)}(h:WX S F X):∀(k:Nat),WX S (Nat.repeat (fun F=>Q4 S F S.msgs.length) k F) (Nat.repeat (YG S) k X)
 |0=>h
 |k+1=>C2 hD (DW h k)
theorem Ql5:WX S (QL S) (Wi S):=by
 have h0:WX S (List.replicate S.msgs.length false) []:=by
  refine⟨QGN,fun i m hm=>?_⟩;have hi:=(QFz.1 hm).1;rw[List.getElem?_replicate,QFF hi];simp
 obtain⟨j,h1,h2,h3⟩:=WW S S.msgs.length (List.replicate S.msgs.length false);have hfix:Q4 S (QL S) S.msgs.length=QL S:=Wl S _ _ (by rw[QGN];omega);have hX:∀k,Wh S k=Nat.repeat (YG S) k []:=by
  intro k
  induction k with
  |zero=>rfl
  |succ k ih=>rw[Wh,ih];rfl
 have hstay:∀d,Nat.repeat (fun F=>Q4 S F S.msgs.length) d (QL S)=QL S:=by
  intro d
  induction d with
  |zero=>rfl
  |succ d ih=>show Q4 S (Nat.repeat _ d (QL S)) _=_;rw[ih,hfix]
 have hadd:∀d (F:List Bool),Nat.repeat (fun F=>Q4 S F S.msgs.length) (d+j) F=Nat.repeat (fun F=>Q4 S F S.msgs.length) d (Nat.repeat (fun F=>Q4 S F S.msgs.length) j F):=by
  intro d
  induction d with
  |zero=>intro F;rw[QFW];rfl
  |succ d ih=>intro F;rw[show d+1+j=(d+j)+1 by omega];show Q4 S (Nat.repeat _ (d+j) F) _=_;rw[ih F];rfl
 have:=DW hD h0 (S.msgs.length+1);rw[←hX,show S.msgs.length+1=(S.msgs.length+1-j)+j by omega,hadd,←h2,show ZC S S.msgs.length (List.replicate S.msgs.length false)=QL S from rfl,hstay]at this;rw[show(S.msgs.length+1-j)+j=S.msgs.length+1 by omega]at this;exact this
theorem C3 (m:SM):UA S m=Xc S (QL S) m:=Be hD (Ql5 hD) m
end

end Go.Proofs.YtaiflhahcglpgaaGreatDoor.Va

namespace Go.Proofs.YtaiflhahcglpgaaGreatDoor.Va
open Go Am Rc Bt Br Up

def _root_.Go.Proofs.YtaiflhahcglpgaaGreatDoor.Br.V.oth (v:V):Bool:=Va.oth v.kd v.bits v.text (v.list.map V.av) (v.pairs.map V.pav) (v.slots.map V.sav) (v.raws.map R.av)
def _root_.Go.Proofs.YtaiflhahcglpgaaGreatDoor.Br.V.one (P:PL)(k tg:Int)(v:V):Int:=Qy2 P k tg v.kd v.bits v.text (v.list.map V.av) (v.pairs.map V.pav) (v.slots.map V.sav) (v.raws.map R.av)

section
variable (m:PG→V→Int)(P:PL)
end

mutual
def _root_.Go.Proofs.YtaiflhahcglpgaaGreatDoor.Br.V.cnt:V→Nat
 |.mk _ _ _ l p s r=>1+r.length+Ql6 l+Ql7 p+Ql8 s
def Ql6:List V→Nat
 | []=>0
 |x :: l=>x.cnt+Ql6 l
def Ql7:List (V×V)→Nat
 | []=>0
 |(a,b) :: l=>a.cnt+b.cnt+Ql7 l
def Ql8:List (Int×V)→Nat
 | []=>0
 |(_,a) :: l=>a.cnt+Ql8 l
end

inductive Thin:V→Prop
 |mk {v:V} (n:v.list.length+2*v.pairs.length+v.slots.length≤1099511627776) (list:∀x∈v.list,Thin x) (keys:∀x∈v.pairs,Thin x.1) (vals:∀x∈v.pairs,Thin x.2) (slots:∀x∈v.slots,Thin x.2):Thin v

open So

section sorting
variable {α:Type}{lt:α→α→Bool}
end sorting

theorem YJ:∀ {a b c:List UInt8},Op.bytesLess a b=true→Op.bytesLess b c=true→Op.bytesLess a c=true
 |a,b,[],_,h=>by cases b<;>simp[Op.bytesLess]at h
 | [],_,_ :: _,_,_=>by simp[Op.bytesLess]
 |x :: a,[],_ :: _,h,_=>by simp[Op.bytesLess]at h
 |x :: a,y :: b,z :: c,h,k=>by
  simp only[Op.bytesLess,QGm,QFU,QGH,QFV]at h k ⊢;rcases h with h|⟨h1,h2⟩<;>rcases k with k|⟨k1,k2⟩
  ·exact .inl (UInt8.lt_trans h k)
  ·subst k1;exact .inl h
  ·subst h1;exact .inl k
  ·subst h1 k1;exact .inr ⟨rfl,YJ h2 k2⟩
theorem HK:∀ {a b:List UInt8},Op.bytesLess a b=false→Op.bytesLess b a=false→a=b
 | [],[],_,_=>rfl
 | [],_ :: _,h,_=>by simp[Op.bytesLess]at h
 |_ :: _,[],_,h=>by simp[Op.bytesLess]at h
 |x :: a,y :: b,h,k=>by
  simp only[Op.bytesLess,QGi,QHi,QHb,QHc]at h k;have e:x=y:=by
   rcases Nat.lt_trichotomy x.toNat y.toNat with g|g|g
   ·exact absurd (UInt8.lt_iff_toNat_lt.2 g) h.1
   ·exact UInt8.toNat_inj.1 g
   ·exact absurd (UInt8.lt_iff_toNat_lt.2 g) k.1
  subst e;rw[HK (h.2.resolve_left fun g=>g rfl) (k.2.resolve_left fun g=>g rfl)]
theorem J7:∀a:List UInt8,Op.bytesLess a a=false
 | []=>rfl
 |x :: a=>by simp[Op.bytesLess,J7 a]

def kl (k:Int)(a b:V):Bool :=
 if Kt k=true then Op.bytesLess a.text b.text else if (k==2||k==3)=true then decide (IntKind.i64.wrap (a.bits:Int)<IntKind.i64.wrap (b.bits:Int))else decide ((a.bits:Int)<(b.bits:Int))
section
variable (nm:PG→V→V)(P:PL)
end

theorem J1 {α β:Type}(f:α→β)(lt:β→β→Bool)(l:List α):Q8 (l.map f) lt=Q8 l (fun x y=>lt (f x) (f y)):=by
 unfold Q8;rw[QGK];refine Uu fun i hi=>?_
 cases i with
 |zero=>rfl
 |succ k=>
  rw[Zj (x:=f (l[k]'(by omega))) (y:=f l[k+1]) (by rw[QGI,QFA (by omega)];rfl) (by rw[QGI,QFA hi];rfl)];rw[Zj (QFA (by omega:k<l.length)) (QFA hi)]
theorem DX {α β:Type}(f:α→β)(nm:β→List UInt8)(l:List α):Jg (l.map f) nm=Jg l (fun x=>nm (f x)):=by
 unfold Jg;rw[QGK];refine Uu fun i hi=>?_
 rw[Kj (x:=f l[i]) (by rw[QGI,QFA hi];rfl),Kj (QFA hi),←List.map_take,List.all_map];rfl

theorem C4 {α:Type}{f g:α→Bool}:∀ {l:List α},(∀x∈l,f x=g x)→l.any f=l.any g
 | [],_=>rfl
 |x :: l,h=>by rw[List.any_cons,List.any_cons,h x (by simp),C4 fun y hy=>h y (by simp[hy])]

structure Sok (S:SC):Prop where
 lm:S.msgs.length≤64∧S.enums.length≤64∧S.servs.length≤64
 om:Q8 S.msgs (ZP SM.name)=true
 oe:Q8 S.enums (ZP SE.name)=true
 ap:∀e∈S.enums,∀m∈S.msgs,m.name≠e.name
 ms:∀m∈S.msgs,Hb S m=true
 es:∀e∈S.enums,Hc e=true
theorem DY {S:SC}(h:Z3 S=true):Sok S:=by
 unfold Z3 at h;simp only[QFU,QFK]at h;obtain⟨⟨⟨⟨⟨h1,h2⟩,h3⟩,h4⟩,h5⟩,_⟩:=h;unfold Pt at h1;unfold Ps at h2;unfold Js at h3;simp only[QFU,QGH]at h1 h2 h3;refine⟨⟨h1.1.1,h1.1.2,h1.2⟩,h2.1.1,h2.1.2,fun e he m hm hn=>?_,h4,h5⟩;have:=h3.1.1;rw[QGl,List.any_eq_false]at this;refine this e he (QG7.2 ⟨m,hm,?_⟩);simp[hn]

structure Mok (S:SC)(m:SM):Prop where
 name:Xe m.name=true
 len:m.fields.length≤64
 flds:∀i,i<m.fields.length→WS S m i=true
 nc:UA S m=false
theorem Jn {S:SC}{m:SM}(h:Hb S m=true):Mok S m:=by
 unfold Hb at h;simp only[QFU,QGH,QGl]at h;obtain⟨⟨⟨⟨⟨⟨⟨⟨h1,h2⟩,_⟩,_⟩,h3⟩,_⟩,_⟩,_⟩,h4⟩:=h;exact⟨h1,h2,Qq.1 h3,h4⟩
structure Fok (S:SC)(m:SM)(i:Nat)(f:SF):Prop where
 num:1≤f.num∧f.num≤65535
 up:∀j y,i=j+1→m.fields[j]? = some y→y.num<f.num
 name:Q7 f.name=true
 twice:((m.fields.take i).any fun x=>x.name==f.name)=false
 card:Wv f=true
 typ:Ji S f=true
 uni:Z2 m i=true
 KG:KG S f=true
 notes:XZ f.notes 2=0
theorem Ql9 {S:SC}{m:SM}{i:Nat}{f:SF}(hf:m.fields[i]? = some f)(h:WS S m i=true):Fok S m i f:=by
 unfold WS at h;rw[hf]at h;simp only[QFU,QGH,QGl,QFV]at h;obtain⟨⟨⟨⟨⟨⟨⟨⟨⟨⟨⟨h1,h2⟩,h3⟩,h4⟩,h5⟩,_⟩,_⟩,h6⟩,h7⟩,h8⟩,h9⟩,h10⟩:=h;refine⟨⟨h1,h2⟩,fun j y hj hy=>?_,h4,h5,h6,h7,h8,h9,h10⟩;subst hj;dsimp only at h3;rw[hy]at h3
 simpa using h3
theorem JP {S:SC}{m:SM}(hm:Mok S m){i:Nat}{f:SF}(hf:m.fields[i]? = some f):Fok S m i f:=Ql9 hf (hm.flds i (QFz.1 hf).1)

theorem Bf {t:Int}:∀ {l:List SN} {last:Option (List UInt8)},Wu t last l=0→∀n∈l,XI n.name≠0∧n.val.fitk (XI n.name)=true
 |n :: l,last,h,x,hx=>by
  rw[Wu]at h;split at h
  ·rename_i h1;rcases QGF.1 hx with rfl|hx
   ·unfold JM at h1;split at h1
    ·cases h1
    ·rename_i h2;split at h1
     ·cases h1
     ·split at h1
      ·cases h1
      ·rename_i h3;exact⟨h2,by simpa using h3⟩
   ·exact Bf h x hx
  ·rename_i h1;exact absurd h h1
theorem EI {l:List SN}{t:Int}(h:XZ l t=0):∀n∈l,XI n.name≠0∧n.val.fitk (XI n.name)=true:=by
 unfold XZ at h;split at h
 ·cases h
 ·exact Bf h
theorem Py:XI alias=7:=by decide
theorem KI {l:List SN}{t:Int}(h:XZ l t=0){v:V}(hv:Xk l=some v):v.fitk 7=true:=by
 unfold Xk at hv;cases hf:l.find? (fun n=>n.name==alias)with
 |none=>rw[hf]at hv;cases hv
 |some n=>
  rw[hf]at hv;cases hv;have hn:n.name=alias:=by simpa using QG9 hf
  have:=(EI h n (QG8 hf)).2
  rwa [hn,Py]at this
theorem HL {v:V}(h:v.fitk 7=true):ZR v.text=true∧v.text.length≤4096:=by
 unfold V.fitk XR at h;simp only[QFU,QGH,QGm]at h;refine⟨?_,by omega⟩;rcases h.2 with h|h
 ·exact absurd h (by decide)
 ·exact h

theorem Hh {S:SC}(hS:Q8 S.msgs (ZP SM.name)=true):Sy S:=by
 have hs:∀i (hi:i+1<S.msgs.length),Op.bytesLess S.msgs[i].name S.msgs[i+1].name=true:=by
  intro i hi;have h:=hS;unfold Q8 at h;have:=Qq.1 h (i+1) hi;rw[Zj (QFA (by omega:i<S.msgs.length)) (QFA hi)]at this;exact this
 have hp:∀(i j:Nat) (hi:i<S.msgs.length) (hj:j<S.msgs.length),i<j→Op.bytesLess S.msgs[i].name S.msgs[j].name=true:=by
  intro i j hi hj hij;obtain⟨d,rfl⟩:∃d,j=i+1+d:=⟨j-(i+1),by omega⟩;clear hij
  induction d with
  |zero=>exact hs i (by omega)
  |succ d ih=>exact YJ (ih (by omega)) (hs (i+1+d) (by omega))
 intro i j m n hm hn e;obtain⟨hi,rfl⟩:=QFz.1 hm;obtain⟨hj,rfl⟩:=QFz.1 hn;rcases Nat.lt_trichotomy i j with c|c|c
 ·have:=hp i j hi hj c;rw[e,J7]at this;cases this
 ·exact c
 ·have:=hp j i hj hi c;rw[e,J7]at this;cases this

section
variable {S:SC}(hS:Sok S)
include hS
theorem DZ:Sy S:=Hh hS.om

theorem EJ:∀b∈QL S,b=true:=by
 have hfix:Q4 S (QL S) S.msgs.length=QL S:=Wl S _ _ (by rw[QGN];omega);have hlen:(QL S).length=S.msgs.length:=by unfold QL;rw[YI,QGN]
 have hD:=DZ hS
 -- a step that changes something changes the count
 have hst:∀i,i≤S.msgs.length→Q4 S (QL S) i=QL S:=by
  intro i hi;have mono:∀i d,Wx (Q4 S (QL S) i)≤Wx (Q4 S (QL S) (i+d)):=by
   intro i d
   induction d with
   |zero=>exact QFx _
   |succ d ih=>
    rw[show i+(d+1)=(i+d)+1 by omega,Q4];rcases Hg S (Q4 S (QL S) (i+d)) (i+d)with g|g
    ·rw[g];exact ih
    ·omega
  rcases Km S (QL S) i with g|g
  ·exact g
  ·have:=mono i (S.msgs.length-i);rw[show i+(S.msgs.length-i)=S.msgs.length by omega,hfix]at this;omega
 intro b hb;obtain⟨i,hi,rfl⟩:=List.getElem_of_mem hb;have hm:S.msgs[i]? = some (S.msgs[i]'(by omega)):=QFA (by omega);have h1:=hst (i+1) (by omega);rw[Q4,hst i (by omega)]at h1;unfold JT at h1;rw[hm]at h1;have hc:=(Jn (hS.ms _ (List.getElem_mem (by omega:i<S.msgs.length)))).nc;rw[C3 hD]at hc;cases hF:(QL S)[i]with
 |true=>rfl
 |false=>
  change (if (QL S)[i]? = some false∧Xc S (QL S) (S.msgs[i]'(by omega))=false then(QL S).set i true else QL S)=QL S at h1
  rw[QFF ⟨by rw[QFA hi,hF],hc⟩]at h1;have:=congrArg (fun l:List Bool=>l[i]?) h1;rw[List.getElem?_set_self hi,QFA hi,hF]at this;cases this

theorem Hi {m:SM}(hm:m∈S.msgs){f:SF}(hf:f∈m.fields)(hk:f.kind=10):∃(j:Nat) (n:SM),S.msgs[j]? = some n∧n.name=f.tname∧Jw S f=(j:Int)∧JO S f.tname=(j:Int)∧f.card≠3:=by
 obtain⟨i,hi⟩:=QFJ.1 hf;have ht:=(JP (Jn (hS.ms m hm)) hi).typ;unfold Ji at ht;rw[QFE (by omega),QFE (by omega),QFF hk]at ht;simp only[QFU,QFZ]at ht;obtain⟨h1,h2⟩:=ht;unfold QZ at h1;obtain⟨x,hx,hxn⟩:=QG7.1 h1;have hxn:x.name=f.tname:=by simpa using hxn
 obtain⟨j,hj⟩:=QFJ.1 hx;have:=C1 (DZ hS) hj;rw[hxn]at this;refine⟨j,x,hj,hxn,?_,this,h2⟩;unfold Jw;rw[QFF hk];exact this
theorem D0 {m:SM}(hm:m∈S.msgs){f:SF}(hf:f∈m.fields)(hk:f.kind=9):∃(j:Nat) (n:SE),S.enums[j]? = some n∧n.name=f.tname∧Jw S f=(j:Int):=by
 obtain⟨i,hi⟩:=QFJ.1 hf;have ht:=(JP (Jn (hS.ms m hm)) hi).typ;unfold Ji at ht;rw[QFE (by omega),QFF hk]at ht;unfold U9 at ht;obtain⟨x,hx,hxn⟩:=QG7.1 ht;unfold Jw;rw[QFE (by omega),QFF hk];rcases Xr (fun m:SE=>m.name==f.tname) S.enums 0 with⟨_,hn⟩|⟨k,o,h1,h2,h3⟩
 ·exact absurd hxn (QG6.1 hn x hx)
 ·exact⟨k,o,h2,by simpa using QG9 h3,by rw[h1];omega⟩

theorem Qma:fin (ZB S)=true:=by
 have hD:=DZ hS;have hG:(ZB S).progs=S.msgs.map (Xy S):=rfl
 -- what a program needs
 have hneed:∀(F:List Bool),F.length=S.msgs.length→∀m∈S.msgs,(Xy S m).ops.any (Z5 F)=Xc S F m:=by
  intro F _ m hm;unfold Xc XX;rw[List.any_map,List.any_filter];show(m.fields.map (Zm S (unl [] m.fields))).any (Z5 F)=_;rw[List.any_map];refine C4 fun f hf=>?_
  show Z5 F (Zm S (unl [] m.fields) f)=_;unfold Z5;show(f.card==1&&f.kind==10 && !(F[(Jw S f).toNat]?.getD false))=_;by_cases hc:f.card=1∧f.kind=10
  ·obtain⟨j,n,h1,h2,h3,h4,_⟩:=Hi hS hm hf hc.2;simp only[Function.comp_apply,hc.1,hc.2,beq_self_eq_true,QG0,h3,h4];rw[QHa (by omega:(j:Int)≥0),QG0]
  ·have:(f.card==1&&f.kind==10)=false:=by
    rw[QHi,QHc,QHc];omega
   rw[this];rfl
 have hstp:∀(F:List Bool) (i:Nat),F.length=S.msgs.length→HI (ZB S).progs F→Ww (ZB S).progs F i=JT S F i:=by
  intro F i hl hk;unfold JT;cases hm:S.msgs[i]? with
  |none=>
   unfold Ww;rw[hG,QGI,hm];rfl
  |some m=>
   have hi:=(QFz.1 hm).1;have hg:(ZB S).progs[i]? = some (Xy S m):=by rw[hG,QGI,hm];rfl
   have hb:F[i]? = some (F[i]'(by omega)):=QFA (by omega);rw[CZ hk hg hb,hneed F hl m (QFL hm)];dsimp only;cases hF:F[i]'(by omega)with
   |true=>
    rw[QFE (fun h=>by rw[hb,hF]at h;cases h.1),QG2,←hF];exact List.set_getElem_self _
   |false=>
    cases hs:Xc S F m with
    |true=>
     rw[QFE (fun h=>by cases h.2)];show F.set i false=F;rw[←hF];exact List.set_getElem_self _
    |false=>rw[QFF ⟨by rw[hb,hF],rfl⟩];rfl
 have hrnd:∀(F:List Bool),F.length=S.msgs.length→HI (ZB S).progs F→∀i,KH (ZB S).progs F i=Q4 S F i:=by
  intro F hl hk i
  induction i with
  |zero=>rfl
  |succ i ih=>rw[KH,Q4,←ih,hstp _ i (by rw[ih,J0,hl]) (W9 hk i)]
 have hits:∀k,Qd (ZB S).progs k=Nat.repeat (fun F=>Q4 S F S.msgs.length) k (List.replicate S.msgs.length false):=by
  intro k
  induction k with
  |zero=>rw[Qd,hG,QGK];rfl
  |succ k ih=>
   have hpl:(ZB S).progs.length=S.msgs.length:=by rw[hG,QGK]
   rw[Qd,hrnd _ (by rw[W8,hpl]) (Hf _ k),ih,hpl];rfl
 obtain⟨j,h1,h2,h3⟩:=WW S S.msgs.length (List.replicate S.msgs.length false);have hfix:Q4 S (QL S) S.msgs.length=QL S:=Wl S _ _ (by rw[QGN];omega);have hstay:∀d,Nat.repeat (fun F=>Q4 S F S.msgs.length) d (QL S)=QL S:=by
  intro d
  induction d with
  |zero=>rfl
  |succ d ih=>show Q4 S (Nat.repeat _ d (QL S)) _=_;rw[ih,hfix]
 have hadd:∀d (F:List Bool),Nat.repeat (fun F=>Q4 S F S.msgs.length) (d+j) F=Nat.repeat (fun F=>Q4 S F S.msgs.length) d (Nat.repeat (fun F=>Q4 S F S.msgs.length) j F):=by
  intro d
  induction d with
  |zero=>intro F;rw[QFW];rfl
  |succ d ih=>intro F;rw[show d+1+j=(d+j)+1 by omega];show Q4 S (Nat.repeat _ (d+j) F) _=_;rw[ih F];rfl
 have hkey:Nat.repeat (fun F=>Q4 S F S.msgs.length) S.msgs.length (List.replicate S.msgs.length false)=QL S:=by
  have e1:=hadd (S.msgs.length-j) (List.replicate S.msgs.length false);rw[Nat.sub_add_cancel h1,←h2,show ZC S S.msgs.length (List.replicate S.msgs.length false)=QL S from rfl,hstay]at e1;exact e1
 unfold fin;rw[show(ZB S).progs.length=S.msgs.length by rw[hG,QGK],hits,hkey,QFK];exact EJ hS
end

structure Eok (e:SE):Prop where
 name:Xe e.name=true
 len:1≤e.items.length∧e.items.length≤64
 free:e.free.length≤16
 itms:∀i,i<e.items.length→WT e i=true
 spn:Ha 0 2147483647 e.free=true
theorem Ku {e:SE}(h:Hc e=true):Eok e:=by
 unfold Hc at h;simp only[QFU,QGH]at h;obtain⟨⟨⟨⟨⟨⟨h1,h2⟩,h3⟩,h4⟩,h5⟩,h6⟩,_⟩:=h;exact⟨h1,⟨h2,h3⟩,h4,Qq.1 h5,h6⟩
structure Iok (e:SE)(i:Nat)(x:SI):Prop where
 num:0≤x.num∧x.num≤2147483647
 fst:i=0→x.num=0
 up:∀j y,i=j+1→e.items[j]? = some y→y.num<x.num
 name:Q7 x.name=true
 twice:((e.items.take i).any fun y=>y.name==x.name)=false
 kept:kept e.free x.num=false
 notes:XZ x.notes 4=0
theorem Kv {e:SE}(he:Eok e){i:Nat}{x:SI}(hx:e.items[i]? = some x):Iok e i x:=by
 have h:=he.itms i (QFz.1 hx).1;unfold WT at h;rw[hx]at h;simp only[QFU,QGH,QGl,QFV]at h;obtain⟨⟨⟨⟨⟨⟨h1,h2⟩,h3⟩,h4⟩,h5⟩,h6⟩,h7⟩:=h;refine⟨⟨h1,h2⟩,fun h0=>?_,fun j y hj hy=>?_,h4,h5,h6,h7⟩
 ·subst h0
  simpa using h3
 ·subst hj;dsimp only at h3;rw[hy]at h3
  simpa using h3

theorem Qmb {S:SC}(hS:Sok S):Ux (ZB S)=true:=by
 unfold Ux;simp only[QFU,QGH,QFK];refine⟨⟨⟨?_,?_⟩,fun g hg=>?_⟩,fun e he=>?_⟩
 ·show(S.msgs.map (Xy S)).length≤64;rw[QGK];exact hS.lm.1
 ·show(S.enums.map X0).length≤64;rw[QGK];exact hS.lm.2.1
 ·obtain⟨m,hm,rfl⟩:=QGG.1 hg;unfold WM;show decide ((m.fields.map _).length≤64)=true;rw[QGK];exact QHa (Jn (hS.ms m hm)).len
 ·obtain⟨x,hx,rfl⟩:=QGG.1 he;have:=Ku (hS.es x hx);unfold U3;show(decide (1≤(x.items.map Z4).length)&&decide ((x.items.map Z4).length≤64)&&decide (x.free.length≤16))=true;rw[QGK,QHa this.len.1,QHa this.len.2,QHa this.free];rfl
theorem Qmc {S:SC}(hS:Sok S):F3 (ZB S)=true:=by
 unfold F3;simp only[QFU,QFK];refine⟨fun g hg=>?_,fun e he=>?_⟩
 ·obtain⟨m,hm,rfl⟩:=QGG.1 hg;have hk:=Jn (hS.ms m hm);unfold U4;simp only[QFU,QFK];refine⟨hk.name,fun o ho=>?_⟩;obtain⟨f,hf,rfl⟩:=QGG.1 ho;obtain⟨i,hi⟩:=QFJ.1 hf;exact(JP hk hi).name
 ·obtain⟨x,hx,rfl⟩:=QGG.1 he;have hk:=Ku (hS.es x hx);unfold DE;simp only[QFU,QFK];refine⟨hk.name,fun o ho=>?_⟩;obtain⟨f,hf,rfl⟩:=QGG.1 ho;obtain⟨i,hi⟩:=QFJ.1 hf;exact(Kv hk hi).name
theorem Qmd {S:SC}(hS:Sok S):F4 (ZB S)=true:=by
 unfold F4;simp only[QFU,QFK];refine⟨⟨⟨?_,?_⟩,fun g hg=>?_⟩,fun e he=>?_⟩
 ·show Q8 (S.msgs.map (Xy S)) _=true;rw[J1];exact hS.om
 ·show Q8 (S.enums.map X0) _=true;rw[J1];exact hS.oe
 ·obtain⟨m,hm,rfl⟩:=QGG.1 hg;have hk:=Jn (hS.ms m hm);unfold U5;show Q8 (m.fields.map _) _=true;rw[J1];unfold Q8;rw[Qq];intro i hi;cases i with
  |zero=>rfl
  |succ k=>
   have h1:m.fields[k]? = some (m.fields[k]'(by omega)):=QFA (by omega);have h2:m.fields[k+1]? = some m.fields[k+1]:=QFA hi;rw[Zj h1 h2];exact QHa ((JP hk h2).up k _ rfl h1)
 ·obtain⟨x,hx,rfl⟩:=QGG.1 he;have hk:=Ku (hS.es x hx);unfold DG;show Q8 (x.items.map Z4) _=true;rw[J1];unfold Q8;rw[Qq];intro i hi;cases i with
  |zero=>rfl
  |succ k=>
   have h1:x.items[k]? = some (x.items[k]'(by omega)):=QFA (by omega);have h2:x.items[k+1]? = some x.items[k+1]:=QFA hi;rw[Zj h1 h2];exact QHa ((Kv hk h2).up k _ rfl h1)
theorem Qme {S:SC}(hS:Sok S):F5 (ZB S)=true:=by
 unfold F5;simp only[QFU,QFK];refine⟨fun g hg=>?_,fun e he=>?_⟩
 ·obtain⟨m,hm,rfl⟩:=QGG.1 hg;have hk:=Jn (hS.ms m hm);unfold YE;simp only[QFU,QFK];refine⟨fun e he=>?_,?_⟩
  ·obtain⟨x,hx,rfl⟩:=QGG.1 he;have:(X0 x).name≠(Xy S m).name:=fun h=>hS.ap x hx m hm h.symm
   simpa using this
  ·show Jg (m.fields.map _) _=true;rw[DX];unfold Jg;rw[Qq];intro i hi;have h2:m.fields[i]? = some m.fields[i]:=QFA hi;rw[Kj h2,KV,QGl];exact(JP hk h2).twice
 ·obtain⟨x,hx,rfl⟩:=QGG.1 he;have hk:=Ku (hS.es x hx);unfold DH;show Jg (x.items.map Z4) _=true;rw[DX];unfold Jg;rw[Qq];intro i hi;have h2:x.items[i]? = some x.items[i]:=QFA hi;rw[Kj h2,KV,QGl];exact(Kv hk h2).twice
theorem Qmf {S:SC}(hS:Sok S):F6 (ZB S)=true:=by
 unfold F6;simp only[QFU,QFK];refine⟨fun g hg o ho=>?_,fun e he=>?_⟩
 ·obtain⟨m,hm,rfl⟩:=QGG.1 hg;obtain⟨f,hf,rfl⟩:=QGG.1 ho;obtain⟨i,hi⟩:=QFJ.1 hf;have:=(JP (Jn (hS.ms m hm)) hi).num;unfold WO;show(decide (f.num≥1)&&decide (f.num≤65535))=true;rw[QHa this.1,QHa this.2];rfl
 ·obtain⟨x,hx,rfl⟩:=QGG.1 he;have hk:=Ku (hS.es x hx);have hsp:=hk.spn;unfold Ha at hsp;simp only[QFU]at hsp;unfold WP;simp only[QFU,QFK];refine⟨⟨⟨fun y hy=>QFK.1 hsp.1 y hy,hsp.2⟩,?_⟩,fun y hy=>?_⟩
  ·unfold Pg;show(match x.items.map Z4 with
    | []=>true
    |x :: _=>x.num==0)=true
   cases hi:x.items with
   |nil=>rfl
   |cons a l=>
    have:=(Kv hk (i:=0) (x:=a) (by rw[hi];rfl)).fst rfl;show(a.num==0)=true;rw[this];rfl
  ·obtain⟨z,hz,rfl⟩:=QGG.1 hy;obtain⟨i,hi⟩:=QFJ.1 hz;have h1:=Kv hk hi;unfold U6;show(decide (z.num≤2147483647) && !kept x.free z.num)=true;rw[QHa h1.num.2,h1.kept];rfl

theorem Ya:∀(l:List SF) (us:List (List UInt8)),∃r,unl us l=us++r
 | [],us=>⟨[],by simp[unl]⟩
 |f :: l,us=>by
  rw[unl];split
  ·exact Ya l us
  ·obtain⟨r,h⟩:=Ya l (us++[f.union]);exact⟨f.union :: r,by rw[h];simp⟩
theorem KX:∀(l:List SF) (us:List (List UInt8)) (s:List UInt8),s∈unl us l↔s∈us∨(s≠[]∧∃f∈l,f.union=s)
 | [],us,s=>by simp[unl]
 |f :: l,us,s=>by
  rw[unl];split
  ·rename_i h;rw[KX l us s]
   constructor
   ·rintro(h1|⟨h1,g,hg,h2⟩)
    ·exact .inl h1
    ·exact .inr ⟨h1,g,by simp[hg],h2⟩
   ·rintro(h1|⟨h1,g,hg,h2⟩)
    ·exact .inl h1
    ·rcases QGF.1 hg with rfl|hg
     ·rcases h with h|h
      ·exact absurd (h2.symm.trans h) h1
      ·rw[h2]at h;exact .inl (by simpa using h)
     ·exact .inr ⟨h1,g,hg,h2⟩
  ·rename_i h;simp only[not_or]at h;rw[KX l _ s];simp only[List.mem_append,List.mem_singleton]
   constructor
   ·rintro((h1|h1)|⟨h1,g,hg,h2⟩)
    ·exact .inl h1
    ·exact .inr ⟨by rw[h1];exact h.1,f,by simp,h1.symm⟩
    ·exact .inr ⟨h1,g,by simp[hg],h2⟩
   ·rintro(h1|⟨h1,g,hg,h2⟩)
    ·exact .inl (.inl h1)
    ·rcases QGF.1 hg with rfl|hg
     ·exact .inl (.inr h2.symm)
     ·exact .inr ⟨h1,g,hg,h2⟩
theorem KY:∀(a b:List SF) (us:List (List UInt8)),unl us (a++b)=unl (unl us a) b
 | [],b,us=>rfl
 |f :: a,b,us=>by rw[QFS,unl,unl,KY a b]
theorem Hj {us r:List (List UInt8)}{s:List UInt8}(h:s∈us):Zv (us++r) s=Zv us s∧0≤Zv us s∧Zv us s<(us.length:Int):=by
 unfold Zv;rcases Xr (fun u=>u==s) us 0 with⟨_,hn⟩|⟨k,o,h1,h2,h3⟩
 ·exact absurd (by simp) (QG6.1 hn s h)
 ·have hk:=(QFz.1 h2).1;have happ:∀(l:List (List UInt8)) (i:Nat),s∈l→QM (fun u=>u==s) (l++r) i=QM (fun u=>u==s) l i:=by
   intro l
   induction l with
   |nil=>intro i h;cases h
   |cons x l ih=>
    intro i h;rw[QFS,QM,QM];split
    ·rfl
    ·rename_i hx;exact ih _ ((QGF.1 h).resolve_left fun e=>hx (by simp[e]))
  refine⟨happ us 0 h,?_,?_⟩
  ·rw[h1];omega
  ·rw[h1];omega
theorem EK {us r:List (List UInt8)}{s:List UInt8}(h:s∉us):Zv (us++s :: r) s=(us.length:Int):=by
 unfold Zv;have:∀(l:List (List UInt8)) (i:Nat),s∉l→QM (fun u=>u==s) (l++s :: r) i=((i+l.length:Nat):Int):=by
  intro l
  induction l with
  |nil=>
   intro i _;rw[QFT,QM,QFF (by simp)];rfl
  |cons x l ih=>
   intro i h;simp only[QGF,not_or]at h;rw[QFS,QM,QFE (by simpa using fun e=>h.1 e.symm),ih (i+1) h.2,QFM];congr 1
   omega
 have:=this us 0 h
 simpa using this

def Xp (us:List (List UInt8))(f:SF):Int:=if f.union=[]then -1 else Zv us f.union

theorem D1 {S:SC}{m:SM}(hu:∀i,i<m.fields.length→Z2 m i=true):∀(b a:List SF),m.fields=a++b→Ze (b.map (Zm S (unl [] m.fields))) ((unl [] a).length:Int) (match a.getLast? with
   |none=>-1
   |some f=>Xp (unl [] m.fields) f)=some ((unl [] m.fields).length:Int)
 | [],a,h=>by
  rw[QGq]at h;rw[QGo,Ze,h]
 |f :: b,a,h=>by
  have h2:m.fields=(a++[f])++b:=by rw[h];simp
  have ih:=D1 (S:=S) hu b (a++[f]) h2;rw[List.getLast?_concat]at ih
  change Ze (b.map (Zm S (unl [] m.fields))) ((unl [] (a++[f])).length:Int) (Xp (unl [] m.fields) f)=_ at ih
  have hal:m.fields[a.length]? = some f:=by rw[h];simp
  have hun:=hu a.length (QFz.1 hal).1;obtain⟨r,hr⟩:=Ya b (unl [] (a++[f]));have hfull:unl [] m.fields=unl [] (a++[f])++r:=by rw[h2,KY,hr]
  have hone:unl [] (a++[f])=if f.union=[]∨(unl [] a).contains f.union=true then unl [] a else unl [] a++[f.union]:=by rw[KY];rfl
  rw[QF3,Ze];show(if Xp (unl [] m.fields) f=((unl [] a).length:Int)then Ze (b.map _) (((unl [] a).length:Int)+1) ((unl [] a).length:Int)
   else if Xp (unl [] m.fields) f = -1∨Xp (unl [] m.fields) f=_ then Ze (b.map _) ((unl [] a).length:Int) (Xp (unl [] m.fields) f)else none)=_
  by_cases h0:f.union=[]
  ·have hf:Xp (unl [] m.fields) f = -1:=by unfold Xp;rw[QFF h0]
   rw[QFF (.inl h0)]at hone;rw[hone]at ih;rw[hf]at ih ⊢;rw[QFE (by omega),QFF (.inl rfl)];exact ih
  ·by_cases hc:(unl [] a).contains f.union=true
   ·rw[QFF (.inr hc)]at hone;have hmem:f.union∈unl [] a:=by simpa using hc
    obtain⟨i1,i2,i3⟩:=Hj (r:=r) hmem;have hf:Xp (unl [] m.fields) f=Zv (unl [] a) f.union:=by
     unfold Xp;rw[QFE h0,hfull,hone];exact i1
    rw[hone]at ih
    -- the field before has the same union
    have hprev:(match a.getLast? with
      |none=>-1
      |some g=>Xp (unl [] m.fields) g)=Xp (unl [] m.fields) f:=by
     have hex:=((KX a [] f.union).1 hmem).resolve_left (by simp);obtain⟨_,g,hg,hgu⟩:=hex;unfold Z2 at hun;rw[hal]at hun;simp only[QGm,QFV,QFU,QGl]at hun;have hun:=(hun.resolve_left h0).2;have htk:m.fields.take a.length=a:=by rw[h];simp
     have hany:((m.fields.take a.length).any fun x=>x.union==f.union)=true:=by
      rw[htk];exact QG7.2 ⟨g,hg,by simp[hgu]⟩
     rw[hany]at hun;have hun:=hun.resolve_left (by decide);cases hla:a.getLast? with
     |none=>
      rw[List.getLast?_eq_none_iff]at hla;rw[hla]at hg;cases hg
     |some y=>
      dsimp only;obtain⟨a',rfl⟩:=List.getLast?_eq_some_iff.1 hla;rw[QF7,List.length_singleton]at hun;dsimp only at hun;have hy:m.fields[a'.length]? = some y:=by rw[h];simp
      rw[hy]at hun;have hyu:y.union=f.union:=by simpa using hun
      unfold Xp;rw[hyu]
    rw[hprev,QFE (by rw[hf];omega),QFF (.inr rfl)];exact ih
   ·rw[QFE (not_or.2 ⟨h0,hc⟩)]at hone;have hnm:f.union∉unl [] a:=by simpa using hc
    have hf:Xp (unl [] m.fields) f=((unl [] a).length:Int):=by
     unfold Xp;rw[QFE h0,hfull,hone,QFR];exact EK hnm
    rw[hone,QF7,List.length_singleton,hf]at ih;rw[QFF hf];exact ih

theorem EL {S:SC}(hS:Sok S):args (ZB S)=true:=by
 unfold args;simp only[QFU,QFK];refine⟨fun g hg=>?_,fun e he=>?_⟩
 ·obtain⟨m,hm,rfl⟩:=QGG.1 hg;have hk:=Jn (hS.ms m hm);unfold WR;simp only[QFU,QFK];refine⟨?_,fun o ho=>?_⟩
  ·unfold KQ;have:=D1 (S:=S) (m:=m) (fun i hi=>(JP hk (QFA hi)).uni) m.fields [] rfl;show(match Ze (m.fields.map (Zm S (unl [] m.fields))) 0 (-1)with
    |some n=>(Xy S m).unions==n
    |none=>false)=true
   have e:Ze (m.fields.map (Zm S (unl [] m.fields))) 0 (-1)=some ((unl [] m.fields).length:Int):=this;rw[e];show(((unl [] m.fields).length:Int)==((unl [] m.fields).length:Int))=true;simp
  ·obtain⟨f,hf,rfl⟩:=QGG.1 ho;obtain⟨i,hi⟩:=QFJ.1 hf;have fo:=JP hk hi;have hc:=fo.card;unfold Wv at hc;simp only[QFU,QGH]at hc;obtain⟨⟨c1,c2⟩,c3⟩:=hc;refine⟨?_,?_⟩
   ·unfold KP;simp only[QFU,QGH];have hal:ZR (Zm S (unl [] m.fields) f).alias=true∧(Zm S (unl [] m.fields) f).alias.length≤4096:=by
     show ZR (((Xk f.notes).map V.text).getD [])=true∧(((Xk f.notes).map V.text).getD []).length≤4096;cases hv:Xk f.notes with
     |none=>exact⟨by decide,QFG _⟩
     |some v=>exact HL (KI fo.notes hv)
    refine⟨⟨⟨⟨⟨hal.1,by have:=hal.2;omega⟩,c1⟩,c2⟩,c3⟩,?_⟩;unfold F8;show(if f.kind=10 then decide (Jw S f≥0)&&decide (Jw S f<((S.msgs.map (Xy S)).length:Int))&&f.card != 3
     else if f.kind=9 then decide (Jw S f≥0)&&decide (Jw S f<((S.enums.map X0).length:Int))else WL f.kind&&Jw S f == -1)=true
    rw[QGK,QGK];by_cases GW:f.kind=10
    ·obtain⟨j,n,h1,_,h3,_,h5⟩:=Hi hS hm hf GW;have:=(QFz.1 h1).1;rw[QFF GW,h3,QHa (by omega:(j:Int)≥0),QHa (by omega:(j:Int)<(S.msgs.length:Int))]
     simpa using h5
    rw[QFE GW];by_cases k9:f.kind=9
    ·obtain⟨j,n,h1,_,h3⟩:=D0 hS hm hf k9;have:=(QFz.1 h1).1;rw[QFF k9,h3,QHa (by omega:(j:Int)≥0),QHa (by omega:(j:Int)<(S.enums.length:Int))];rfl
    ·have ht:=fo.typ;unfold Ji at ht;rw[QFE k9];by_cases k8:1≤f.kind∧f.kind≤8
     ·unfold Jw WL;rw[QFE GW,QFE k9,QHa (by omega:f.kind≥1),QHa (by omega:f.kind≤9)];rfl
     ·rw[QFE k8,QFE k9,QFE GW]at ht;cases ht
   ·unfold JL;show((if f.union=[]then(-1:Int)else Zv (unl [] m.fields) f.union) == -1||f.card==2)=true;by_cases h0:f.union=[]
    ·rw[QFF h0];rfl
    ·have hu:=fo.uni;unfold Z2 at hu;rw[hi]at hu;simp only[QGm,QFV,QFU]at hu;have:=(hu.resolve_left h0).1.1.1;rw[this,QGm];exact .inr rfl
 ·obtain⟨x,hx,rfl⟩:=QGG.1 he;have hk:=Ku (hS.es x hx);unfold DR;simp only[QFU,QFK];refine⟨rfl,fun y hy=>?_⟩;obtain⟨z,hz,rfl⟩:=QGG.1 hy;obtain⟨i,hi⟩:=QFJ.1 hz;have h1:=(Kv hk hi).notes;unfold Yr Z4;dsimp only;cases hv:Xk z.notes with
  |none=>rfl
  |some v=>
   have h2:=KI h1 hv;dsimp only;rw[V.eta];show(alias==alias&&XR 7 v.kd (Int.toNat (v.bits:Int)) v.text _ _ _ _)=true;rw[QGM];unfold V.fitk at h2
   simpa using h2

theorem QsH {S:SC}(h:Z3 S=true):ck (ZB S)=0:=by
 have hS:=DY h;unfold ck;rw[Qmb hS,Qmc hS,Qmd hS,Qme hS,Qmf hS,EL hS,Qma hS];rfl

end Go.Proofs.YtaiflhahcglpgaaGreatDoor.Va

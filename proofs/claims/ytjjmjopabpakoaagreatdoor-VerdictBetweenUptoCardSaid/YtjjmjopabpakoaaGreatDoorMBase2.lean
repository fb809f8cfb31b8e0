/- Parts of the proof, in order. -/
import Derived.Lib.IndexLaws
import Derived.Test.YtjjmjopabpakoaaGreatDoorMBase1

namespace Go.Proofs.YtjjmjopabpakoaaGreatDoor.Rc
open Go Am
abbrev QlW:IL:=[jf 2 2 0,jf 3 3 1,jg 4]
abbrev QlX:IL:=[jb 10 4 3,jb 11 0 10,jc 12 11,yo 13 12 1,ja 14 13,jm 15 4 3 14,jm 16 0 15 14,jt 17 16 14,yz 18 17 8 14,jk 19 14 18,ja 9 19]
abbrev QlY:IL:=[jb 20 4 3,jb 21 1 20,jc 22 21,MN 23 22,ja 4 23]
abbrev QlZ:IL:=[jb 25 4 3,jb 26 0 25,jc 27 26,jr 28 27 9,ja 24 28]
abbrev Ql0:IL:=[je 30 3 2,jb 31 4 3,jb 32 1 31,jc 33 32,jx 34 224 30 33,ja 29 34,jo 35 29 0,jo 36 29 1,ze 5 5,jh 5 5 35,ja 6 36]
abbrev Ql1:IL:=[ja 37 6,ja 4 37]
abbrev Ql2:IL:=[jb 39 4 3,jb 40 0 39,jc 41 40,jr 42 41 10,ja 38 42]
abbrev Ql3:IL:=[je 44 3 2,jb 45 4 3,jb 46 1 45,jc 47 46,jx 48 164 44 47,ja 43 48,jo 49 43 0,jo 50 43 1,zz 7 7,jh 5 7 49,ja 8 50]
abbrev Ql4:IL:=[ja 51 8,ja 52 51,jm 53 2 3 52,jt 54 53 52,yu 55 54 3 52,jk 56 52 55,ja 4 56]
abbrev Ql5:IL:=[jg 4]
abbrev Ql6:RC:=jQ QlW (.seq (.block 0 (jQ QlX (.cond (.t 9) (jQ QlY (.ret)) (jQ QlZ (.cond (.t 24) (jQ Ql0 (jQ Ql1 (.ret))) (jQ Ql2 (.cond (.t 38) (jQ Ql3 (jQ Ql4 (.ret))) (.skip)))))))) (jQ Ql5 (.ret)))
abbrev Ql7:List RR:=[.tmp 4]
theorem Ql8:CT 204 57 Ql6 Ql7:=ck Tryz.func204 Tryz.ntmps204 (by decide +kernel)
abbrev Ql9:IL:=[jf 2 2 0,jg 4]
abbrev Qma:IL:=[jb 7 1 2,jc 8 7,ja 9 1,jj 10 16 8 9,je 11 16 10,DH 5 5,jh 16 5 11]
abbrev Qmb:IL:=[jb 12 6 5,jc 13 12,MN 14 13]
abbrev Qmc:IL:=[jz 4]
abbrev Qmd:IL:=[jb 15 2 5,jc 16 15,ye 17 16 2,ja 18 17,ju 19 6 5 18,ya 20 19 18,yy 21 173 20 18,yj 22 21 18,jn 23 18 22,ja 24 23,ju 25 1 2 24,ya 26 25 24,⟨some 27,.val (.mkfn (.func 225) [] [(.t 5)]),(some (24,false))⟩,⟨some 28,.callF (.f 222) [(.t 26),(.t 27)],(some (24,false))⟩,jn 29 24 28]
abbrev Qme:IL:=[jg 4]
abbrev Qmf:IL:=[jb 30 1 2,jc 31 30,ja 32 1,MJ 33 16 31 32,Ua 34 226 5,zf 35 222 33 34,ja 6 35]
abbrev Qmg:IL:=[ja 36 6,jy 37 36,ja 38 37,ju 39 1 2 38,yt 40 0 2 39 38,jq 41 1 38,F5 42 41 1 38,zh 43 16 40 42 38,ju 44 6 43 38,zo 45 44 38,ju 46 6 5 38,yt 47 0 5 46 38,⟨some 48,.val (.bin .str .eql (.t 45) (.t 47)),(some (38,false))⟩,jn 49 38 48,ja 4 49]
abbrev Qmh:RC:=jQ Ql9 (jQ Qma (.seq (jQ Qmb (.cond (.t 14) (jQ Qmc (.ret)) (.skip))) (.seq (jQ Qmd (.cond (.t 29) (jQ Qme (.ret)) (.skip))) (jQ Qmf (jD Qmg (.ret))))))
abbrev Qmi:List RR:=[.tmp 4]
theorem Qmj:CT 205 50 Qmh Qmi:=ck Tryz.func205 Tryz.ntmps205 (by decide +kernel)
abbrev Qmk:IL:=[jf 2 2 0,jf 3 3 1,jg 4]
abbrev Qml:IL:=[jb 7 7 3,jc 8 7,jy 9 8]
abbrev Qmm:IL:=[jb 10 8 3,je 11 7 10,jv 12 227 11,ja 4 12]
abbrev Qmn:IL:=[jb 13 2 3,jw 14 0 3 13,ye 15 14 2,ja 16 15,ju 17 6 3 16,yt 18 0 3 17 16,⟨some 19,.val (.bin .str .neq (.t 18) (.c (.str []))),(some (16,false))⟩,jn 20 16 19,ja 21 20,ju 22 4 3 21,ju 23 0 22 21,yt 24 0 3 23 21,ju 25 8 3 21,zu 26 0 3 7 25 21,zl 27 184 24 26 21,yj 28 27 21,jn 29 21 28,ja 30 29,ju 31 8 3 30,zu 32 0 3 7 31 30,yy 33 186 32 30,⟨some 34,.val (.fld 1 none (.t 33)),(some (30,false))⟩,ju 35 8 3 30,ju 36 1 35 30,yt 37 0 3 36 30,Ub 38 34 37 30,jn 39 30 38]
abbrev Qmo:IL:=[jg 4]
abbrev Qmp:IL:=[jb 40 4 3,jb 41 0 40,jc 42 41,ye 43 42 9]
abbrev Qmq:IL:=[jz 4]
abbrev Qmr:IL:=[je 45 3 2,jb 46 4 3,jb 47 1 46,jc 48 47,jx 49 224 45 48,ja 44 49,jo 50 44 0,jo 51 44 1,ze 5 5,jh 5 5 50,ja 6 51]
abbrev Qms:IL:=[ja 52 6,ja 53 52,jm 54 2 5 53,jt 55 54 53,⟨some 56,.val (.mkfn (.func 228) [] [(.t 3)]),(some (53,true))⟩,⟨some 57,.callF (.f 211) [(.t 55),(.t 56)],(some (53,true))⟩,jk 58 53 57,ja 4 58]
abbrev Qmt:RC:=jQ Qmk (.seq (jQ Qml (.cond (.t 9) (jQ Qmm (.ret)) (.skip))) (.seq (jD Qmn (.cond (.t 39) (jQ Qmo (.ret)) (.skip))) (.seq (jQ Qmp (.cond (.t 43) (jQ Qmq (.ret)) (.skip))) (jQ Qmr (jQ Qms (.ret))))))
abbrev Qmu:List RR:=[.tmp 4]
theorem Qmv:CT 206 59 Qmt Qmu:=ck Tryz.func206 Tryz.ntmps206 (by decide +kernel)
abbrev Qmw:IL:=[jd 2 0]
abbrev Qmx:IL:=[ja 5 0,⟨some 6,.rngs 6 (.t 5),none⟩]
abbrev Qmy:IL:=[⟨some 7,.nxts (.t 6),none⟩,jo 8 7 0]
abbrev Qmz:IL:=[jo 9 7 1,jo 10 7 2,ja 3 9,ja 4 10]
abbrev QmA:IL:=[ja 11 0,ja 12 3,ja 13 4,yb 14 229 11 12 13]
abbrev QmB:IL:=[ja 15 3,ja 2 15]
abbrev QmC:RC:=jQ Qmy (.seq (jX 8 0) (.block 1 (jQ Qmz (jQ QmA (.cond (.t 14) (jQ QmB (.ret)) (.skip))))))
abbrev QmD:IL:=[jd 2 (-1)]
abbrev QmE:RC:=jQ Qmw (.seq (jQ Qmx (.block 0 (.loop QmC))) (jQ QmD (.ret)))
abbrev QmF:List RR:=[.tmp 2]
theorem QmG:CT 207 16 QmE QmF:=ck Tryz.func207 Tryz.ntmps207 (by decide +kernel)
abbrev QmH:IL:=[jd 4 0]
abbrev QmI:IL:=[ja 9 0,jl 10 1 9,zb 11 10 8]
abbrev QmJ:IL:=[jd 4 3]
abbrev QmK:IL:=[H9 5]
abbrev QmL:IL:=[ja 12 0,jl 13 1 12,jd 14 0]
abbrev QmM:IL:=[js 15 14 13]
abbrev QmN:IL:=[ja 16 14,jj 17 8 12 14,je 18 8 17,⟨some 7,.allocN 7 [.str [],.int .i64 0,.int .u64 0,.str [],.nils,.nils,.nils,.nils],none⟩,ja 6 16,jh 8 7 18]
abbrev QmO:IL:=[je 19 8 7,ja 20 1,ja 21 5,ja 22 6,zb 23 22 0,zq 24 230 19 20 21 23,ja 8 24]
abbrev QmP:IL:=[ja 25 8,ye 26 25 0]
abbrev QmQ:IL:=[ja 27 8,ja 4 27]
abbrev LO:IL:=[jb 28 0 7,jc 29 28,ja 5 29]
abbrev LP:IL:=[jp 30 14 1,ja 14 30]
abbrev QmR:RC:=.gho (.drop 7) (jQ QmM (.seq (jX 15 0) (.seq (.block 1 (jQ QmN (.seq (jQ QmO (jQ QmP (.cond (.t 26) (jQ QmQ (.ret)) (.skip)))) (.reg LO)))) (.reg LP))))
abbrev LQ:IL:=[jd 4 0]
abbrev QmS:RC:=jQ QmH (.seq (jQ QmI (.cond (.t 11) (jQ QmJ (.ret)) (.skip))) (jQ QmK (.seq (jQ QmL (.block 0 (.loop QmR))) (jQ LQ (.ret)))))
abbrev QmT:List RR:=[.tmp 4]
theorem QmU:CT 208 31 QmS QmT:=ck Tryz.func208 Tryz.ntmps208 (by decide +kernel)
abbrev QmV:IL:=[jg 4]
abbrev QmW:IL:=[je 8 3 1,ja 9 0,jx 10 164 8 9,ja 7 10,jo 11 7 0,jo 12 7 1,zz 5 5,jh 5 5 11,ja 6 12]
abbrev QmX:IL:=[ja 13 6,ja 14 13,jt 15 2 14,ji 16 0 14,⟨some 17,.val (.mget false (.bool false) (.t 15) (.t 16)),(some (14,true))⟩,yw 18 17 14,jk 19 14 18,ja 4 19]
abbrev QmY:RC:=jQ QmV (jQ QmW (jQ QmX (.ret)))
abbrev QmZ:List RR:=[.tmp 4]
theorem Qm0:CT 209 20 QmY QmZ:=ck Tryz.func209 Tryz.ntmps209 (by decide +kernel)
abbrev Qm1:IL:=[jg 2]
abbrev Qm2:IL:=[ja 6 0,⟨some 7,.rngs 7 (.t 6),none⟩]
abbrev Qm3:IL:=[⟨some 8,.nxts (.t 7),none⟩,jo 9 8 0]
abbrev Qm4:IL:=[jo 10 8 1,jo 11 8 2,ja 3 10,ja 4 11]
abbrev Qm5:IL:=[ja 12 4,jv 13 231 12,ja 5 13]
abbrev Qm6:IL:=[ja 14 5,jr 15 14 0,ja 16 15,jq 17 3 16,yi 18 17 0 16,jq 19 18 16,ji 20 5 19,yu 21 20 1 19,zg 22 19 21 16,jq 23 22 16,ji 24 5 23,yu 25 24 2 23,zg 26 23 25 16,jn 27 16 26]
abbrev Qm7:IL:=[jg 2]
abbrev Qm8:RC:=jQ Qm3 (.seq (jX 9 0) (.block 1 (jQ Qm4 (jQ Qm5 (jQ Qm6 (.cond (.t 27) (jQ Qm7 (.ret)) (.skip)))))))
abbrev Qm9:IL:=[ja 28 0,jl 29 0 28,yo 30 29 1,ja 31 30,ji 32 0 31,ys 33 0 32 31,yz 34 33 40 31,jk 35 31 34,ja 2 35]
abbrev Qna:RC:=jQ Qm1 (.seq (jQ Qm2 (.block 0 (.loop Qm8))) (jQ Qm9 (.ret)))
abbrev Qnb:List RR:=[.tmp 2]
theorem Qnc:CT 210 36 Qna Qnb:=ck Tryz.func210 Tryz.ntmps210 (by decide +kernel)
abbrev Qnd:IL:=[jg 4]
abbrev Qne:IL:=[ja 5 0,ja 6 1,zf 7 232 5 6,yo 8 7 0,ja 4 8]
abbrev Qnf:RC:=jQ Qnd (jQ Qne (.ret))
abbrev Qng:List RR:=[.tmp 4]
theorem Qnh:CT 211 9 Qnf Qng:=ck Tryz.func211 Tryz.ntmps211 (by decide +kernel)
abbrev Qni:IL:=[jg 4]
abbrev Qnj:IL:=[ja 5 0,ja 6 1,zf 7 233 5 6,yo 8 7 0,ja 4 8]
abbrev Qnk:RC:=jQ Qni (jQ Qnj (.ret))
abbrev Qnl:List RR:=[.tmp 4]
theorem Qnm:CT 213 9 Qnk Qnl:=ck Tryz.func213 Tryz.ntmps213 (by decide +kernel)
abbrev Qnn:IL:=[jf 2 2 0,jg 3]
abbrev Qno:IL:=[jb 4 0 2,jc 5 4,jc 6 1,F6 7 5 6,ja 8 7,jt 9 1 8,jm 10 1 2 8,jt 11 10 8,DJ 12 9 11 8,jk 13 8 12,ja 3 13]
abbrev Qnp:RC:=jQ Qnn (jQ Qno (.ret))
abbrev Qnq:List RR:=[.tmp 3]
theorem Qnr:CT 214 14 Qnp Qnq:=ck Tryz.func214 Tryz.ntmps214 (by decide +kernel)
abbrev Qns:IL:=[jd 4 0]
abbrev Qnt:IL:=[ja 5 0,jv 6 181 5,yr 7 6 0,ja 8 7,jq 9 1 8,yy 10 182 9 8,yj 11 10 8,jn 12 8 11]
abbrev Qnu:IL:=[jd 4 0]
abbrev Qnv:IL:=[ja 13 0,jv 14 181 13,ja 15 1,zx 16 15 1,⟨some 17,.val (.iaddr 9 (some 3) (.g 1 gl1) (.t 14)),none⟩,⟨some 18,.val (.iaddr 1 (some 9) (.t 17) (.t 16)),none⟩,jc 19 18,ja 4 19]
abbrev Qnw:RC:=jQ Qns (.seq (jQ Qnt (.cond (.t 12) (jQ Qnu (.ret)) (.skip))) (jQ Qnv (.ret)))
abbrev Qnx:List RR:=[.tmp 4]
theorem QMS:CT 215 20 Qnw Qnx:=ck Tryz.func215 Tryz.ntmps215 (by decide +kernel)
abbrev Qny:IL:=[jf 1 1 0,jg 2]
abbrev Qnz:IL:=[jb 3 3 1,jc 4 3,jl 5 1 4,jb 6 4 1,jc 7 6,jl 8 1 7,zs 9 5 8,jb 10 5 1,jc 11 10,jl 12 1 11,zs 13 9 12,jb 14 6 1,jc 15 14,jl 16 1 15,zs 17 13 16,zb 18 17 0]
abbrev QnA:IL:=[jg 2]
abbrev QnB:IL:=[jb 19 0 1,jc 20 19,jv 21 234 20]
abbrev QnC:IL:=[jb 22 1 1,jc 23 22,Ga 24 23 0,ja 2 24]
abbrev QnD:IL:=[jb 25 2 1,jc 26 25,MN 27 26,ja 2 27]
abbrev QnE:RC:=jQ Qny (.seq (jQ Qnz (.cond (.t 18) (jQ QnA (.ret)) (.skip))) (.seq (jQ QnB (.cond (.t 21) (jQ QnC (.ret)) (.skip))) (jQ QnD (.ret))))
abbrev QnF:List RR:=[.tmp 2]
theorem QnG:CT 216 28 QnE QnF:=ck Tryz.func216 Tryz.ntmps216 (by decide +kernel)
abbrev QnH:IL:=[jg 4]
abbrev QnI:IL:=[yv 5 4294967295]
abbrev QnJ:IL:=[ja 6 0]
abbrev QnK:IL:=[jr 8 6 1,ja 7 8]
abbrev QnL:IL:=[jr 10 6 2,ja 9 10]
abbrev QnM:IL:=[jr 12 6 9,ja 11 12]
abbrev QnN:IL:=[jr 14 6 4,ja 13 14]
abbrev QnO:IL:=[ja 15 1,⟨some 16,.val (.bin .num .leq (.t 15) (.c (.int .u64 1))),none⟩,ja 4 16]
abbrev QnP:IL:=[ja 17 1,⟨some 18,.val (.cvi .i64 (.t 17)),none⟩,yo 19 18 (-2147483648),ja 20 19,ji 21 1 20,⟨some 22,.val (.cvi .i64 (.t 21)),(some (20,true))⟩,yz 23 22 2147483647 20,jk 24 20 23,ja 4 24]
abbrev QnQ:IL:=[yv 5 2147483647]
abbrev LR:IL:=[ja 25 1,ja 26 5,F6 27 25 26,ja 4 27]
abbrev LS:IL:=[jz 4]
abbrev QnR:RC:=jQ QnH (jQ QnI (.seq (jQ QnJ (.block 0 (.seq (.block 4 (.seq (.block 3 (.seq (.block 2 (.seq (.block 1 (.seq (.seq (jQ QnK (.cond (.t 7) (.exit 1) (.skip))) (.seq (jQ QnL (.cond (.t 9) (.exit 2) (.skip))) (.seq (jQ QnM (.cond (.t 11) (.exit 3) (.skip))) (jQ QnN (.cond (.t 13) (.exit 4) (.skip)))))) (.exit 0))) (.seq (jQ QnO (.ret)) (.exit 0)))) (.seq (jQ QnP (.ret)) (.exit 0)))) (.reg QnQ))) (.seq (jQ LR (.ret)) (.exit 0))))) (jQ LS (.ret))))
abbrev QnS:List RR:=[.tmp 4]
theorem QnT:CT 217 28 QnR QnS:=ck Tryz.func217 Tryz.ntmps217 (by decide +kernel)
abbrev QnU:IL:=[jg 2]
abbrev QnV:IL:=[ja 3 0,jr 4 3 2,ja 5 4,jq 6 0 5,yi 7 6 3 5,jn 8 5 7,ja 2 8]
abbrev QnW:RC:=jQ QnU (jQ QnV (.ret))
abbrev QnX:List RR:=[.tmp 2]
theorem QMT:CT 218 9 QnW QnX:=ck Tryz.func218 Tryz.ntmps218 (by decide +kernel)
abbrev QnY:IL:=[jd 2 0]
abbrev QnZ:IL:=[ja 5 0,⟨some 6,.val (.bin .num .and (.t 5) (.c (.int .u64 9218868437227405312))),none⟩,ja 7 0,⟨some 8,.val (.bin .num .and (.t 7) (.c (.int .u64 4503599627370495))),none⟩,ja 3 6,ja 4 8]
abbrev Qn0:IL:=[ja 10 3,Ga 11 10 9218868437227405312,ja 12 11,ji 13 4 12,⟨some 14,.val (.bin .num .neq (.t 13) (.c (.int .u64 0))),(some (12,true))⟩,jk 15 12 14,ja 9 15]
abbrev Qn1:IL:=[jd 2 0]
abbrev Qn2:IL:=[ja 17 3,Ga 18 17 9218868437227405312,ja 16 18]
abbrev Qn3:IL:=[jd 2 1]
abbrev Qn4:IL:=[ja 20 3,Ga 21 20 0,ja 22 21,ji 23 4 22,⟨some 24,.val (.bin .num .eql (.t 23) (.c (.int .u64 0))),(some (22,true))⟩,jk 25 22 24,ja 19 25]
abbrev Qn5:IL:=[jd 2 2]
abbrev Qn6:IL:=[ja 27 3,Ga 28 27 0,ja 26 28]
abbrev Qn7:IL:=[jd 2 3]
abbrev LU:IL:=[jd 2 4]
abbrev Qn8:RC:=jQ QnY (.seq (jQ QnZ (.block 0 (jQ Qn0 (.cond (.t 9) (jQ Qn1 (.ret)) (jQ Qn2 (.cond (.t 16) (jQ Qn3 (.ret)) (jQ Qn4 (.cond (.t 19) (jQ Qn5 (.ret)) (jQ Qn6 (.cond (.t 26) (jQ Qn7 (.ret)) (.skip))))))))))) (jQ LU (.ret)))
abbrev Qn9:List RR:=[.tmp 2]
theorem Qoa:CT 219 29 Qn8 Qn9:=ck Tryz.func219 Tryz.ntmps219 (by decide +kernel)
abbrev Qob:IL:=[yf 8]
abbrev Qoc:IL:=[ja 12 3,jr 13 12 0]
abbrev Qod:IL:=[yf 8]
abbrev Qoe:IL:=[ja 14 1,MN 15 14]
abbrev Qof:IL:=[ja 16 0,ja 17 3,jx 18 235 16 17,ja 8 18]
abbrev Qog:IL:=[ja 19 3,yr 20 19 0]
abbrev Qoh:IL:=[ja 21 0,ja 22 1,jx 23 236 21 22,jp 24 23 1,ja 3 24]
abbrev Qoi:IL:=[ja 25 3,ja 26 0,jl 27 0 26,jp 28 27 1,⟨some 29,.val (.mnx false (.t 25) (.t 28)),none⟩,ja 3 29]
abbrev Qoj:IL:=[ja 30 3,⟨some 31,.mk 31 9 1 16 [.str []] (.t 30) (.t 30),none⟩,ja 9 31]
abbrev Qok:IL:=[ja 32 3,zx 33 32 1,ja 3 33]
abbrev LV:IL:=[jd 10 0]
abbrev LW:IL:=[ja 34 10,ja 35 3,js 36 34 35]
abbrev LX:IL:=[ja 37 0,ja 38 1,jx 39 237 37 38,ja 11 39]
abbrev LY:IL:=[ja 40 11,yr 41 40 0]
abbrev LZ:IL:=[ja 42 9,ja 43 10,ja 44 0,ja 45 11,ja 46 2,zs 47 45 46,⟨some 48,.val (.slc none (.t 44) none (some (.t 47)) none),none⟩,jj 49 1 42 43,jh 1 49 48]
abbrev L0:IL:=[ja 50 0,ja 51 11,ja 52 1,jl 53 0 52,zs 54 51 53,N6 55 50 54,ja 0 55]
abbrev L5:IL:=[ja 56 10,jp 57 56 1,ja 10 57]
abbrev Qol:RC:=.seq (jQ LW (jX 36 0)) (.block 1 (jQ LX (.seq (jQ LY (.cond (.t 41) (.exit 0) (.skip))) (jQ LZ (jQ L0 (.reg L5))))))
abbrev L6:IL:=[ja 58 9,ja 59 10,ja 60 0,jj 61 1 58 59,jh 1 61 60]
abbrev L7:IL:=[ja 62 9,ja 63 10,jp 64 63 1,MJ 65 1 62 64,ja 8 65]
abbrev Qom:RC:=jQ Qob (.seq (jQ Qoc (.cond (.t 13) (jQ Qod (.ret)) (.skip))) (.seq (jQ Qoe (.cond (.t 15) (jQ Qof (.ret)) (.skip))) (.seq (jQ Qog (.cond (.t 20) (.reg Qoh) (.skip))) (jQ Qoi (jQ Qoj (jQ Qok (jQ LV (.seq (.block 0 (.loop Qol)) (jQ L6 (jQ L7 (.ret)))))))))))
abbrev Qon:List RR:=[.tmp 8]
theorem Qoo:CT 221 66 Qom Qon:=ck Tryz.func221 Tryz.ntmps221 (by decide +kernel)
abbrev Qop:IL:=[jg 4]
abbrev Qoq:IL:=[ja 5 0,ja 6 1,zf 7 238 5 6,yo 8 7 0,ja 4 8]
abbrev Qor:RC:=jQ Qop (jQ Qoq (.ret))
abbrev Qos:List RR:=[.tmp 4]
theorem Qot:CT 222 9 Qor Qos:=ck Tryz.func222 Tryz.ntmps222 (by decide +kernel)
abbrev Qou:IL:=[jf 2 2 0,jf 3 3 1,ze 4 4,jg 5]
abbrev Qov:IL:=[jb 7 1 2,jc 8 7,Ua 9 239 3,zf 10 140 8 9,ja 6 10]
abbrev Qow:IL:=[ja 11 6,yr 12 11 0]
abbrev Qox:IL:=[⟨some 13,.val (.build [.str [],.bool false,.nils,.nils,.nils] []),none⟩,jh 5 4 13,jg 5]
abbrev Qoy:IL:=[jb 14 1 2,jc 15 14,ja 16 6,jj 17 5 15 16,je 18 5 17,jh 5 4 18,jz 5]
abbrev Qoz:RC:=jQ Qou (jQ Qov (.seq (jQ Qow (.cond (.t 12) (jQ Qox (.ret)) (.skip))) (jQ Qoy (.ret))))
abbrev QoA:List RR:=[.cell 4 (some 5),.tmp 5]
theorem QoB:CT 224 19 Qoz QoA:=ck Tryz.func224 Tryz.ntmps224 (by decide +kernel)
abbrev QoC:IL:=[jf 2 2 0,jg 3]
abbrev QoD:IL:=[jb 4 1 2,jc 5 4,jb 6 6 1,jc 7 6,ym 8 5 7,ja 3 8]
abbrev QoE:RC:=jQ QoC (jQ QoD (.ret))
abbrev QoF:List RR:=[.tmp 3]
theorem QoG:CT 225 9 QoE QoF:=ck Tryz.func225 Tryz.ntmps225 (by decide +kernel)
abbrev QoH:IL:=[jf 2 2 0,jg 3]
abbrev QoI:IL:=[jb 4 6 2,jc 5 4,jb 6 6 1,jc 7 6,ym 8 5 7,ja 3 8]
abbrev QoJ:RC:=jQ QoH (jQ QoI (.ret))
abbrev QoK:List RR:=[.tmp 3]
theorem QoL:CT 226 9 QoJ QoK:=ck Tryz.func226 Tryz.ntmps226 (by decide +kernel)
abbrev QoM:IL:=[jf 1 1 0,jg 2]
abbrev QoN:IL:=[jb 3 0 1,jc 4 3,jr 5 4 0,ja 6 5,jm 7 1 1 6,jt 8 7 6,⟨some 9,.val (.bin .num .eql (.t 8) (.c (.int .u64 0))),(some (6,true))⟩,jk 10 6 9,ja 11 10,jm 12 2 1 11,jt 13 12 11,⟨some 14,.val (.bin .str .eql (.t 13) (.c (.str []))),(some (11,true))⟩,jk 15 11 14,ja 16 15,jm 17 3 1 16,jt 18 17 16,ys 19 1 18 16,jm 20 4 1 16,jt 21 20 16,ys 22 1 21 16,Uf 23 19 22 16,jm 24 5 1 16,jt 25 24 16,ys 26 1 25 16,Uf 27 23 26 16,jm 28 6 1 16,jt 29 28 16,ys 30 1 29 16,Uf 31 27 30 16,yk 32 31 0 16,jk 33 16 32,ja 2 33]
abbrev QoO:RC:=jQ QoM (jQ QoN (.ret))
abbrev QoP:List RR:=[.tmp 2]
theorem QoQ:CT 227 34 QoO QoP:=ck Tryz.func227 Tryz.ntmps227 (by decide +kernel)
abbrev QoR:IL:=[jf 2 2 0,jg 3]
abbrev QoS:IL:=[jb 4 1 2,jc 5 4,UZ 6 5,jb 7 8 1,jb 8 1 7,jc 9 8,zt 10 6 9,ja 3 10]
abbrev QoT:RC:=jQ QoR (jQ QoS (.ret))
abbrev QoU:List RR:=[.tmp 3]
theorem QoV:CT 228 11 QoT QoU:=ck Tryz.func228 Tryz.ntmps228 (by decide +kernel)
abbrev QoW:IL:=[jg 6]
abbrev QoX:IL:=[ja 7 2,⟨some 8,.val (.bin .num .eql (.t 7) (.c (.int .i32 65533))),none⟩,ja 9 8,ji 10 0 9,ji 11 1 9,⟨some 12,.val (.slc none (.t 10) (some (.t 11)) none none),(some (9,true))⟩,⟨some 13,.call (.f 240) [(.t 12),(.c (.str [239,191,189]))],(some (9,true))⟩,yw 14 13 9,jk 15 9 14,ja 6 15]
abbrev QoY:RC:=jQ QoW (jQ QoX (.ret))
abbrev QoZ:List RR:=[.tmp 6]
theorem Qo0:CT 229 16 QoY QoZ:=ck Tryz.func229 Tryz.ntmps229 (by decide +kernel)
abbrev Qo1:IL:=[jf 4 4 0,jd 8 0]
abbrev Qo2:IL:=[⟨some 12,.call (.f 241) [],none⟩,jb 13 0 4,jw 14 0 4 13,⟨some 15,.val (.mgetp true (.agg [.int .i64 0,.int .i64 0]) (.t 12) (.t 14)),none⟩,ja 11 15,jo 16 11 0,jo 17 11 1,⟨some 9,.allocN 9 [.int .i64 0,.int .i64 0],none⟩,yn 0 9 2 9 16,ja 10 17]
abbrev Qo3:IL:=[ja 19 10,jy 20 19,ja 18 20]
abbrev Qo4:IL:=[jd 8 8]
abbrev Qo5:IL:=[ja 22 1,yr 23 22 1,ja 24 23,jq 25 1 24,YM 26 25 6 24,jn 27 24 26,ja 28 27,ju 29 1 9 28,ya 30 29 28,jq 31 1 28,⟨some 32,.val (.bin .num .shr (.t 30) (.t 31)),(some (28,false))⟩,⟨some 33,.val (.bin .num .and (.t 32) (.c (.int .i64 1))),(some (28,false))⟩,yi 34 33 0 28,jn 35 28 34,ja 21 35]
abbrev Qo6:IL:=[jd 8 1]
abbrev Qo7:IL:=[je 37 8 4,jv 38 242 37,jy 39 38,ja 36 39]
abbrev Qo8:IL:=[jd 8 12]
abbrev Qo9:IL:=[ja 41 3,ja 42 41,jm 43 0 4 42,jt 44 43 42,ji 45 2 42,⟨some 46,.val (.bin .str .lss (.t 44) (.t 45)),(some (42,true))⟩,jk 47 42 46,ja 40 47]
abbrev Qpa:IL:=[jd 8 11]
abbrev L8:IL:=[ja 49 3,ja 50 49,jm 51 0 4 50,jt 52 51 50,ji 53 2 50,DK 54 52 53 50,jk 55 50 54,ja 48 55]
abbrev L9:IL:=[jd 8 9]
abbrev Qaa:IL:=[jd 8 0]
abbrev Qpb:RC:=jQ Qo1 (jD Qo2 (.seq (.block 0 (jQ Qo3 (.cond (.t 18) (jQ Qo4 (.ret)) (jQ Qo5 (.cond (.t 21) (jQ Qo6 (.ret)) (jQ Qo7 (.cond (.t 36) (jQ Qo8 (.ret)) (jQ Qo9 (.cond (.t 40) (jQ Qpa (.ret)) (jQ L8 (.cond (.t 48) (jQ L9 (.ret)) (.skip)))))))))))) (jQ Qaa (.ret))))
abbrev Qpc:List RR:=[.tmp 8]
theorem Qpd:CT 230 56 Qpb Qpc:=ck Tryz.func230 Tryz.ntmps230 (by decide +kernel)
abbrev Qpe:IL:=[jd 2 0]
abbrev Qpf:IL:=[ja 4 0,⟨some 5,.val (.bin .num .geq (.t 4) (.c (.int .i32 97))),none⟩,ja 6 5,ji 7 0 6,⟨some 8,.val (.bin .num .leq (.t 7) (.c (.int .i32 122))),(some (6,true))⟩,jk 9 6 8,ja 3 9]
abbrev Qpg:IL:=[jd 2 1]
abbrev Qph:IL:=[ja 11 0,⟨some 12,.val (.bin .num .geq (.t 11) (.c (.int .i32 65))),none⟩,ja 13 12,ji 14 0 13,⟨some 15,.val (.bin .num .leq (.t 14) (.c (.int .i32 90))),(some (13,true))⟩,jk 16 13 15,ja 10 16]
abbrev Qpi:IL:=[jd 2 2]
abbrev Qpj:IL:=[ja 18 0,⟨some 19,.val (.bin .num .geq (.t 18) (.c (.int .i32 48))),none⟩,ja 20 19,ji 21 0 20,⟨some 22,.val (.bin .num .leq (.t 21) (.c (.int .i32 57))),(some (20,true))⟩,jk 23 20 22,ja 17 23]
abbrev Qpk:IL:=[jd 2 3]
abbrev Qpl:IL:=[ja 25 0,⟨some 26,.val (.bin .num .eql (.t 25) (.c (.int .i32 95))),none⟩,ja 24 26]
abbrev Qpm:IL:=[jd 2 4]
abbrev Qpn:IL:=[jd 2 0]
abbrev Qpo:RC:=jQ Qpe (.seq (.block 0 (jQ Qpf (.cond (.t 3) (jQ Qpg (.ret)) (jQ Qph (.cond (.t 10) (jQ Qpi (.ret)) (jQ Qpj (.cond (.t 17) (jQ Qpk (.ret)) (jQ Qpl (.cond (.t 24) (jQ Qpm (.ret)) (.skip)))))))))) (jQ Qpn (.ret)))
abbrev Qpp:List RR:=[.tmp 2]
theorem Qpq:CT 231 27 Qpo Qpp:=ck Tryz.func231 Tryz.ntmps231 (by decide +kernel)
abbrev Qpr:IL:=[jd 4 0]
abbrev Qps:IL:=[ja 6 0,jl 7 1 6,jd 8 0]
abbrev Qpt:IL:=[js 9 8 7]
abbrev Qpu:IL:=[ja 10 8,ja 5 10]
abbrev Qpv:IL:=[ja 11 1,ja 12 0,ja 13 5,jj 14 3 12 13,je 15 3 14,H8 16 11 15]
abbrev Qpw:IL:=[ja 17 5,ja 4 17]
abbrev Qpx:IL:=[jp 18 8 1,ja 8 18]
abbrev Qpy:RC:=jQ Qpt (.seq (jX 9 0) (.seq (.block 1 (jQ Qpu (jQ Qpv (.cond (.t 16) (jQ Qpw (.ret)) (.skip))))) (.reg Qpx)))
abbrev Qpz:IL:=[jd 4 (-1)]
abbrev QpA:RC:=jQ Qpr (.seq (jQ Qps (.block 0 (.loop Qpy))) (jQ Qpz (.ret)))
abbrev QpB:List RR:=[.tmp 4]
theorem QpC:CT 232 19 QpA QpB:=ck Tryz.func232 Tryz.ntmps232 (by decide +kernel)
abbrev QpD:IL:=[jd 4 0]
abbrev QpE:IL:=[ja 6 0,jl 7 1 6,jd 8 0]
abbrev QpF:IL:=[js 9 8 7]
abbrev QpG:IL:=[ja 10 8,ja 5 10]
abbrev QpH:IL:=[ja 11 1,ja 12 0,ja 13 5,jj 14 2 12 13,je 15 2 14,H8 16 11 15]
abbrev QpI:IL:=[ja 17 5,ja 4 17]
abbrev QpJ:IL:=[jp 18 8 1,ja 8 18]
abbrev QpK:RC:=jQ QpF (.seq (jX 9 0) (.seq (.block 1 (jQ QpG (jQ QpH (.cond (.t 16) (jQ QpI (.ret)) (.skip))))) (.reg QpJ)))
abbrev QpL:IL:=[jd 4 (-1)]
abbrev QpM:RC:=jQ QpD (.seq (jQ QpE (.block 0 (.loop QpK))) (jQ QpL (.ret)))
abbrev QpN:List RR:=[.tmp 4]
theorem QpO:CT 233 19 QpM QpN:=ck Tryz.func233 Tryz.ntmps233 (by decide +kernel)
abbrev QpP:IL:=[jg 2]
abbrev QpQ:IL:=[ja 3 0,jr 4 3 7,ja 5 4,jq 6 0 5,yi 7 6 8 5,jn 8 5 7,ja 2 8]
abbrev QpR:RC:=jQ QpP (jQ QpQ (.ret))
abbrev QpS:List RR:=[.tmp 2]
theorem QpT:CT 234 9 QpR QpS:=ck Tryz.func234 Tryz.ntmps234 (by decide +kernel)
abbrev QpU:IL:=[yf 4]
abbrev QpV:IL:=[ja 10 0,jv 11 243 10,ja 5 11]
abbrev QpW:IL:=[ja 12 1,yr 13 12 0,ja 14 13,jq 15 1 14,jq 16 5 14,DI 17 15 16 14,jn 18 14 17]
abbrev QpX:IL:=[ja 19 5,ja 1 19]
abbrev QpY:IL:=[ja 20 1,⟨some 21,.mk 21 9 1 16 [.str []] (.t 20) (.t 20),none⟩,ja 6 21]
abbrev QpZ:IL:=[jd 7 0]
abbrev Qp0:IL:=[ja 22 7,ja 23 1,zx 24 23 1,js 25 22 24]
abbrev Qp1:IL:=[ja 29 0,jv 30 244 29,ja 28 30,jo 31 28 0,jo 32 28 1,ja 8 31,ja 9 32]
abbrev Qp2:IL:=[ja 33 6,ja 34 7,ja 35 0,ja 36 9,⟨some 37,.val (.slc none (.t 35) none (some (.t 36)) none),none⟩,jj 38 1 33 34,jh 1 38 37]
abbrev Qab:IL:=[ja 39 0,ja 40 9,N6 41 39 40,ja 0 41]
abbrev Qp3:IL:=[ja 26 7,jp 27 26 1,ja 7 27]
abbrev Qp4:RC:=.seq (jQ Qp0 (jX 25 0)) (.seq (.block 1 (jQ Qp1 (jQ Qp2 (.reg Qab)))) (.reg Qp3))
abbrev Qac:IL:=[ja 42 1,zb 43 42 0]
abbrev Qad:IL:=[ja 44 6,ja 45 1,zx 46 45 1,ja 47 0,jj 48 1 44 46,jh 1 48 47]
abbrev Qae:IL:=[ja 49 6,ja 4 49]
abbrev Qp5:RC:=jQ QpU (jQ QpV (.seq (jQ QpW (.cond (.t 18) (.reg QpX) (.skip))) (jQ QpY (.seq (jQ QpZ (.block 0 (.loop Qp4))) (.seq (jQ Qac (.cond (.t 43) (.reg Qad) (.skip))) (jQ Qae (.ret)))))))
abbrev Qp6:List RR:=[.tmp 4]
theorem QMU:CT 235 50 Qp5 Qp6:=ck Tryz.func235 Tryz.ntmps235 (by decide +kernel)
abbrev Qp7:IL:=[jd 4 0]
abbrev Qp8:IL:=[ja 7 1,jl 8 0 7,jr 9 8 0]
abbrev Qp9:IL:=[ja 10 0,jv 11 243 10,jp 12 11 1,ja 4 12]
abbrev Qqa:IL:=[ja 13 1,jl 14 0 13,jr 15 14 1]
abbrev Qqb:IL:=[ja 16 0,ja 17 1,U0 18 17 0,⟨some 19,.xb true 245 (.t 16) (.t 18),none⟩,ja 4 19]
abbrev Qqc:IL:=[jd 5 0]
abbrev Qqd:IL:=[ja 20 0,ja 21 1,jx 22 237 20 21,ja 6 22]
abbrev Qqe:IL:=[ja 23 6,jr 24 23 (-1)]
abbrev Qqf:IL:=[ja 25 5,ja 4 25]
abbrev Qqg:IL:=[ja 26 5,jp 27 26 1,ja 5 27]
abbrev Qaf:IL:=[ja 28 0,ja 29 6,ja 30 1,jl 31 0 30,zs 32 29 31,N6 33 28 32,ja 0 33]
abbrev Qqh:RC:=.block 1 (jQ Qqd (.seq (jQ Qqe (.cond (.t 24) (jQ Qqf (.ret)) (.skip))) (jQ Qqg (.reg Qaf))))
abbrev Qqi:RC:=jQ Qp7 (.seq (jQ Qp8 (.cond (.t 9) (jQ Qp9 (.ret)) (.skip))) (.seq (jQ Qqa (.cond (.t 15) (jQ Qqb (.ret)) (.skip))) (jQ Qqc (.block 0 (.loop Qqh)))))
abbrev Qqj:List RR:=[.tmp 4]
theorem Qqk:CT 236 34 Qqi Qqj:=ck Tryz.func236 Tryz.ntmps236 (by decide +kernel)
abbrev Qql:IL:=[jd 4 0]
abbrev Qqm:IL:=[ja 5 0,ja 6 1,jx 7 246 5 6,ja 4 7]
abbrev Qqn:RC:=jQ Qql (jQ Qqm (.ret))
abbrev Qqo:List RR:=[.tmp 4]
theorem Qqp:CT 237 8 Qqn Qqo:=ck Tryz.func237 Tryz.ntmps237 (by decide +kernel)
abbrev Qqq:IL:=[jd 4 0]
abbrev Qqr:IL:=[ja 6 0,jl 7 1 6,jd 8 0]
abbrev Qqs:IL:=[js 9 8 7]
abbrev Qqt:IL:=[ja 10 8,ja 5 10]
abbrev Qqu:IL:=[ja 11 1,ja 12 0,ja 13 5,jj 14 16 12 13,je 15 16 14,H8 16 11 15]
abbrev Qqv:IL:=[ja 17 5,ja 4 17]
abbrev Qqw:IL:=[jp 18 8 1,ja 8 18]
abbrev Qqx:RC:=jQ Qqs (.seq (jX 9 0) (.seq (.block 1 (jQ Qqt (jQ Qqu (.cond (.t 16) (jQ Qqv (.ret)) (.skip))))) (.reg Qqw)))
abbrev Qqy:IL:=[jd 4 (-1)]
abbrev Qqz:RC:=jQ Qqq (.seq (jQ Qqr (.block 0 (.loop Qqx))) (jQ Qqy (.ret)))
abbrev QqA:List RR:=[.tmp 4]
theorem QqB:CT 238 19 Qqz QqA:=ck Tryz.func238 Tryz.ntmps238 (by decide +kernel)
abbrev QqC:IL:=[jf 2 2 0,jg 3]
abbrev QqD:IL:=[jb 4 0 2,jc 5 4,jc 6 1,ym 7 5 6,ja 3 7]
abbrev QqE:RC:=jQ QqC (jQ QqD (.ret))
abbrev QqF:List RR:=[.tmp 3]
theorem QqG:CT 239 8 QqE QqF:=ck Tryz.func239 Tryz.ntmps239 (by decide +kernel)
abbrev QqH:IL:=[jg 4]
abbrev QqI:IL:=[ja 5 0,ja 6 1,jx 7 247 5 6,ja 4 7]
abbrev QqJ:RC:=jQ QqH (jQ QqI (.ret))
abbrev QqK:List RR:=[.tmp 4]
theorem QqL:CT 240 8 QqJ QqK:=ck Tryz.func240 Tryz.ntmps240 (by decide +kernel)
abbrev QqM:IL:=[⟨some 0,.val (.mov (.c (.nilm))),none⟩]
abbrev QqN:IL:=[⟨some 1,.mkm 1,none⟩,⟨some 2,.val (.build [.int .i64 0,.int .i64 0] [(0,1,(.c (.int .i64 1))),(1,1,(.c (.int .i64 126)))]),none⟩,⟨none,.mput (.t 1) (.c (.str [100,101,112,114,101,99,97,116,101,100])) (.t 2),none⟩,⟨some 3,.val (.build [.int .i64 0,.int .i64 0] [(0,1,(.c (.int .i64 7))),(1,1,(.c (.int .i64 126)))]),none⟩,⟨none,.mput (.t 1) (.c (.str [100,111,99])) (.t 3),none⟩,⟨some 4,.val (.build [.int .i64 0,.int .i64 0] [(0,1,(.c (.int .i64 7))),(1,1,(.c (.int .i64 84)))]),none⟩,⟨none,.mput (.t 1) (.c (.str [97,108,105,97,115])) (.t 4),none⟩,⟨some 5,.val (.build [.int .i64 0,.int .i64 0] [(0,1,(.c (.int .i64 4))),(1,1,(.c (.int .i64 84)))]),none⟩,⟨none,.mput (.t 1) (.c (.str [115,105,110,99,101])) (.t 5),none⟩,⟨some 6,.val (.build [.int .i64 0,.int .i64 0] [(0,1,(.c (.int .i64 4))),(1,1,(.c (.int .i64 84)))]),none⟩,⟨none,.mput (.t 1) (.c (.str [117,110,116,105,108])) (.t 6),none⟩,⟨some 7,.val (.build [.int .i64 0,.int .i64 0] [(0,1,(.c (.int .i64 3))),(1,1,(.c (.int .i64 4)))]),none⟩,⟨none,.mput (.t 1) (.c (.str [109,105,110])) (.t 7),none⟩,⟨some 8,.val (.build [.int .i64 0,.int .i64 0] [(0,1,(.c (.int .i64 3))),(1,1,(.c (.int .i64 4)))]),none⟩,⟨none,.mput (.t 1) (.c (.str [109,97,120])) (.t 8),none⟩,⟨some 9,.val (.build [.int .i64 0,.int .i64 0] [(0,1,(.c (.int .i64 4))),(1,1,(.c (.int .i64 4)))]),none⟩,⟨none,.mput (.t 1) (.c (.str [108,101,110,103,116,104])) (.t 9),none⟩,⟨some 10,.val (.build [.int .i64 0,.int .i64 0] [(0,1,(.c (.int .i64 1))),(1,1,(.c (.int .i64 4)))]),none⟩,⟨none,.mput (.t 1) (.c (.str [115,101,99,114,101,116])) (.t 10),none⟩,⟨some 11,.val (.build [.int .i64 0,.int .i64 0] [(0,1,(.c (.int .i64 1))),(1,1,(.c (.int .i64 64)))]),none⟩,⟨none,.mput (.t 1) (.c (.str [105,100,101,109,112,111,116,101,110,116])) (.t 11),none⟩,⟨some 12,.val (.build [.int .i64 0,.int .i64 0] [(0,1,(.c (.int .i64 4))),(1,1,(.c (.int .i64 64)))]),none⟩,⟨none,.mput (.t 1) (.c (.str [116,105,109,101,111,117,116])) (.t 12),none⟩,⟨some 13,.val (.build [.int .i64 0,.int .i64 0] [(0,1,(.c (.int .i64 7))),(1,1,(.c (.int .i64 64)))]),none⟩,⟨none,.mput (.t 1) (.c (.str [114,111,117,116,101])) (.t 13),none⟩,⟨some 14,.val (.build [.int .i64 0,.int .i64 0] [(0,1,(.c (.int .i64 7))),(1,1,(.c (.int .i64 34)))]),none⟩,⟨none,.mput (.t 1) (.c (.str [111,119,110,101,114])) (.t 14),none⟩,ja 15 1,ja 0 15]
abbrev TH:RC:=jQ QqM (jQ QqN (.ret))
abbrev TI:List RR:=[.tmp 0]
theorem QqO:CT 241 16 TH TI:=ck Tryz.func241 Tryz.ntmps241 (by decide +kernel)
abbrev QqP:IL:=[jf 1 1 0,jg 2]
abbrev QqQ:IL:=[jb 4 0 1,jc 5 4,jv 6 248 5,ja 3 6]
abbrev QqR:IL:=[ja 7 3,ye 8 7 0,ja 9 8,ji 10 3 9,jm 11 1 1 9,zy 12 7 11 9,Ue 13 184 10 12 9,jk 14 9 13,ja 2 14]
abbrev QqS:RC:=jQ QqP (jQ QqQ (jQ QqR (.ret)))
abbrev QqT:List RR:=[.tmp 2]
theorem QqU:CT 242 15 QqS QqT:=ck Tryz.func242 Tryz.ntmps242 (by decide +kernel)
abbrev QqV:IL:=[jd 2 0]
abbrev QqW:IL:=[ja 3 0,⟨some 4,.rngs 4 (.t 3),none⟩]
abbrev QqX:IL:=[⟨some 5,.nxts (.t 4),none⟩,jo 6 5 0]
abbrev QqY:IL:=[ja 7 2,jp 8 7 1,ja 2 8]
abbrev QqZ:RC:=jQ QqX (.seq (jX 6 0) (.block 1 (.reg QqY)))
abbrev Qq0:IL:=[ja 9 2,ja 2 9]
abbrev Qq1:RC:=jQ QqV (.seq (jQ QqW (.block 0 (.loop QqZ))) (jQ Qq0 (.ret)))
abbrev Qq2:List RR:=[.tmp 2]
theorem QMV:CT 243 10 Qq1 Qq2:=ck Tryz.func243 Tryz.ntmps243 (by decide +kernel)
abbrev Qq3:IL:=[F7 2 0,jd 3 0]
abbrev Qq4:IL:=[ja 4 0,MK 5 4,ja 6 5,ji 7 0 6,⟨some 8,.val (.idx (.t 7) (.c (.int .i64 0))),(some (6,true))⟩,⟨some 9,.val (.bin .num .lss (.t 8) (.c (.int .u8 128))),(some (6,true))⟩,jk 10 6 9]
abbrev Qq5:IL:=[ja 11 0,U0 12 11 0,YN 13 12,ja 2 13,jd 3 1]
abbrev Qq6:IL:=[ja 15 0,jv 16 249 15,ja 14 16,jo 17 14 0,jo 18 14 1,ja 2 17,ja 3 18]
abbrev Qq7:RC:=jQ Qq3 (.seq (jQ Qq4 (.cond (.t 10) (jQ Qq5 (.ret)) (.reg Qq6))) (.ret))
abbrev Qq8:List RR:=[.tmp 2,.tmp 3]
theorem QMW:CT 244 19 Qq7 Qq8:=ck Tryz.func244 Tryz.ntmps244 (by decide +kernel)
def PW:IL:=[jd 4 0]
def PX:IL:=[ja 14 1,jl 15 0 14,ja 5 15]
def PY:IL:=[ja 17 5,jr 18 17 0,ja 19 18,jq 20 1 19,jq 21 0 19,⟨some 22,.val (.bin .str .eql (.t 20) (.t 21)),(some (19,false))⟩,jn 23 19 22,ja 16 23]
def PZ:IL:=[jd 4 0]
def P0:IL:=[ja 25 5,jr 26 25 1,ja 24 26]
def P1:IL:=[ja 27 0,ja 28 1,U0 29 28 0,jx 30 250 27 29,ja 4 30]
def P2:IL:=[ja 32 5,ja 33 0,jl 34 0 33,⟨some 35,.val (.bin .num .geq (.t 32) (.t 34)),none⟩,ja 31 35]
def P3:IL:=[jd 4 (-1)]
def P4:IL:=[ja 45 0,ja 46 1,jx 47 251 45 46,ja 4 47]
def Qag:IL:=[ja 48 1,U0 49 48 0,ja 6 49]
def Qah:IL:=[ja 50 1,U0 51 50 1,ja 7 51]
def Qai:IL:=[jd 8 0]
def Qaj:IL:=[ja 52 0,jl 53 0 52,ja 54 5,⟨some 55,.val (.bin .num .sub (.t 53) (.t 54)),none⟩,jp 56 55 1,ja 9 56]
def Qak:IL:=[jd 10 0]
def Qal:IL:=[ja 57 8,ja 58 9,js 59 57 58]
def Qam:IL:=[ja 60 0,ja 61 8,U1 62 60 61,ja 63 6,⟨some 64,.val (.bin .num .neq (.t 62) (.t 63)),none⟩]
def Qan:IL:=[ja 65 0,ja 66 8,jp 67 66 1,ja 68 9,⟨some 69,.val (.slc none (.t 65) (some (.t 67)) (some (.t 68)) none),none⟩,ja 70 6,jx 71 250 69 70,ja 11 71]
def Qao:IL:=[ja 72 11,yr 73 72 0]
def Qap:IL:=[jd 4 (-1)]
def Qaq:IL:=[ja 74 8,ja 75 11,jp 76 75 1,zs 77 74 76,ja 8 77]
def Qar:IL:=[ja 78 0,ja 79 8,jp 80 79 1,U1 81 78 80,ja 82 7,zt 83 81 82,ja 84 83,ji 85 0 84,ji 86 8 84,ji 87 8 84,ji 88 5 84,Uf 89 87 88 84,⟨some 90,.val (.slc none (.t 85) (some (.t 86)) (some (.t 89)) none),(some (84,true))⟩,ji 91 1 84,DK 92 90 91 84,jk 93 84 92]
def Qas:IL:=[ja 94 8,ja 4 94]
def Qat:IL:=[ja 95 8,jp 96 95 1,ja 8 96]
def Qau:IL:=[ja 97 10,jp 98 97 1,ja 10 98]
def Qav:IL:=[ja 108 0,ja 109 8,N6 110 108 109,ja 111 1,jx 112 251 110 111,ja 12 112]
def Qaw:IL:=[ja 113 12,yo 114 113 0]
def Qax:IL:=[ja 115 12,ja 116 8,zs 117 115 116,ja 4 117]
def Qay:IL:=[jd 4 (-1)]
def Qaz:IL:=[ja 133 0,ja 134 8,N6 135 133 134,ja 136 1,jx 137 253 135 136,ja 13 137]
def QaA:IL:=[ja 138 13,yr 139 138 0]
def QaB:IL:=[jd 4 (-1)]
def QaC:IL:=[ja 140 8,ja 141 13,zs 142 140 141,ja 4 142]
def Qq9:RC:=.seq (jQ Qal (jX 59 1)) (.block 2 (.seq (jQ Qam (.cond (.t 64) (jQ Qan (.seq (jQ Qao (.cond (.t 73) (jQ Qap (.ret)) (.skip))) (.reg Qaq))) (.skip))) (.seq (jQ Qar (.cond (.t 93) (jQ Qas (.ret)) (.skip))) (jQ Qat (jQ Qau (.seq (.no) (.cond (.t 107) (jQ Qav (.seq (jQ Qaw (.cond (.t 114) (jQ Qax (.ret)) (.skip))) (jQ Qay (.ret)))) (.seq (.no) (.cond (.t 132) (jQ Qaz (.seq (jQ QaA (.cond (.t 139) (jQ QaB (.ret)) (.skip))) (jQ QaC (.ret)))) (.skip))))))))))
def QaD:IL:=[jd 4 (-1)]
def CJ:RC:=jQ PW (jQ PX (.seq (.block 0 (jQ PY (.cond (.t 16) (jQ PZ (.ret)) (jQ P0 (.cond (.t 24) (jQ P1 (.ret)) (jQ P2 (.cond (.t 31) (jQ P3 (.ret)) (.seq (.no) (.cond (.t 36) (jQ P4 (.ret)) (.skip)))))))))) (jQ Qag (jQ Qah (jQ Qai (jQ Qaj (jQ Qak (.seq (.block 1 (.loop Qq9)) (jQ QaD (.ret))))))))))
def TJ:List RR:=[.tmp 4]
theorem Qra:CT 246 143 CJ TJ:=ck Tryz.func246 Tryz.ntmps246 (by decide +kernel)
abbrev Qrb:IL:=[jg 4]
abbrev Qrc:IL:=[ja 5 0,jl 6 0 5,ja 7 1,jl 8 0 7,⟨some 9,.val (.bin .num .geq (.t 6) (.t 8)),none⟩,ja 10 9,ji 11 0 10,ji 12 1 10,ys 13 0 12 10,⟨some 14,.val (.slc none (.t 11) none (some (.t 13)) none),(some (10,true))⟩,ji 15 1 10,DK 16 14 15 10,jk 17 10 16,ja 4 17]
abbrev Qrd:RC:=jQ Qrb (jQ Qrc (.ret))
abbrev Qre:List RR:=[.tmp 4]
theorem Qrf:CT 247 18 Qrd Qre:=ck Tryz.func247 Tryz.ntmps247 (by decide +kernel)
abbrev Qrg:IL:=[jd 2 0]
abbrev Qrh:IL:=[⟨some 3,.call (.f 241) [],none⟩,ja 4 0,⟨some 5,.val (.mget false (.agg [.int .i64 0,.int .i64 0]) (.t 3) (.t 4)),none⟩,⟨some 6,.val (.fld 0 none (.t 5)),none⟩,ja 2 6]
abbrev Qri:RC:=jQ Qrg (jQ Qrh (.ret))
abbrev Qrj:List RR:=[.tmp 2]
theorem Qrk:CT 248 7 Qri Qrj:=ck Tryz.func248 Tryz.ntmps248 (by decide +kernel)
abbrev Qrl:IL:=[F7 2 0,jd 3 0]
abbrev Qrm:IL:=[ja 13 0,jl 14 0 13,ja 4 14]
abbrev Qrn:IL:=[ja 15 4,yr 16 15 1]
abbrev Qro:IL:=[F7 2 65533,jd 3 0]
abbrev Qrp:IL:=[ja 17 0,U0 18 17 0,ja 5 18]
abbrev Qrq:IL:=[ja 22 6,N7 23 22 240]
abbrev Qrr:IL:=[ja 24 6,YN 25 24,F8 26 25 31,⟨some 27,.val (.bin .num .shr (.t 26) (.c (.int .u64 31))),none⟩,ja 7 27]
abbrev Qrs:IL:=[ja 28 0,U0 29 28 0,YN 30 29,ja 31 7,⟨some 32,.val (.bin .num .andNot (.t 30) (.t 31)),none⟩,ja 33 7,⟨some 34,.val (.bin .num .and (.c (.int .i32 65533)) (.t 33)),none⟩,F9 35 32 34,ja 2 35,jd 3 1]
abbrev Qrt:IL:=[ja 36 6,U2 37 36 7,⟨some 38,.val (.cvi .i64 (.t 37)),none⟩,ja 8 38]
abbrev QaE:IL:=[ja 43 4,ja 44 8,js 45 43 44]
abbrev QaF:IL:=[F7 2 65533,jd 3 1]
abbrev QaG:IL:=[ja 46 0,U0 47 46 1,ja 10 47]
abbrev QaH:IL:=[ja 48 10,jb 49 0 9,jc 50 49,js 51 48 50,ja 52 51,ju 53 1 9 52,ya 54 53 52,jq 55 10 52,⟨some 56,.val (.bin .num .lss (.t 54) (.t 55)),(some (52,false))⟩,jn 57 52 56]
abbrev QaI:IL:=[F7 2 65533,jd 3 1]
abbrev QaJ:IL:=[ja 58 8,Ud 59 58 2]
abbrev QaK:IL:=[ja 60 5,U2 61 60 31,YN 62 61,F8 63 62 6,ja 64 10,U2 65 64 63,YN 66 65,F9 67 63 66,ja 2 67,jd 3 2]
abbrev QaL:IL:=[ja 68 0,U0 69 68 2,ja 11 69]
abbrev QaM:IL:=[ja 70 11,⟨some 71,.val (.bin .num .lss (.t 70) (.c (.int .u8 128))),none⟩,ja 72 71,jq 73 11 72,⟨some 74,.val (.bin .num .lss (.c (.int .u8 191)) (.t 73)),(some (72,false))⟩,jn 75 72 74]
abbrev QaN:IL:=[F7 2 65533,jd 3 1]
abbrev QaO:IL:=[ja 76 8,Ud 77 76 3]
abbrev QaP:IL:=[ja 78 5,U2 79 78 15,YN 80 79,F8 81 80 12,ja 82 10,U2 83 82 63,YN 84 83,F8 85 84 6,F9 86 81 85,ja 87 11,U2 88 87 63,YN 89 88,F9 90 86 89,ja 2 90,jd 3 3]
abbrev QaQ:IL:=[ja 91 0,U0 92 91 3,ja 12 92]
abbrev QaR:IL:=[ja 93 12,⟨some 94,.val (.bin .num .lss (.t 93) (.c (.int .u8 128))),none⟩,ja 95 94,jq 96 12 95,⟨some 97,.val (.bin .num .lss (.c (.int .u8 191)) (.t 96)),(some (95,false))⟩,jn 98 95 97]
abbrev QaS:IL:=[F7 2 65533,jd 3 1]
abbrev QaT:IL:=[ja 99 5,U2 100 99 7,YN 101 100,F8 102 101 18,ja 103 10,U2 104 103 63,YN 105 104,F8 106 105 12,F9 107 102 106,ja 108 11,U2 109 108 63,YN 110 109,F8 111 110 6,F9 112 107 111,ja 113 12,U2 114 113 63,YN 115 114,F9 116 112 115,ja 2 116,jd 3 4]
abbrev Qru:RC:=jQ Qrl (jQ Qrm (.seq (jQ Qrn (.cond (.t 16) (jQ Qro (.ret)) (.skip))) (jQ Qrp (.seq (.no) (.seq (jQ Qrq (.cond (.t 23) (jQ Qrr (jQ Qrs (.ret))) (.skip))) (jQ Qrt (.seq (.no) (.seq (jQ QaE (.cond (.t 45) (jQ QaF (.ret)) (.skip))) (jQ QaG (.seq (jQ QaH (.cond (.t 57) (jQ QaI (.ret)) (.skip))) (.seq (jQ QaJ (.cond (.t 59) (jQ QaK (.ret)) (.skip))) (jQ QaL (.seq (jQ QaM (.cond (.t 75) (jQ QaN (.ret)) (.skip))) (.seq (jQ QaO (.cond (.t 77) (jQ QaP (.ret)) (.skip))) (jQ QaQ (.seq (jQ QaR (.cond (.t 98) (jQ QaS (.ret)) (.skip))) (jQ QaT (.ret))))))))))))))))))
abbrev Qrv:List RR:=[.tmp 2,.tmp 3]
theorem QMX:CT 249 117 Qru Qrv:=ck Tryz.func249 Tryz.ntmps249 (by decide +kernel)
abbrev Qrw:IL:=[jd 4 0]
abbrev Qrx:IL:=[ja 5 0,ja 6 1,⟨some 7,.xb false 254 (.t 5) (.t 6),none⟩,ja 4 7]
abbrev Qry:RC:=jQ Qrw (jQ Qrx (.ret))
abbrev Qrz:List RR:=[.tmp 4]
theorem QrA:CT 250 8 Qry Qrz:=ck Tryz.func250 Tryz.ntmps250 (by decide +kernel)
abbrev QrB:IL:=[jd 2 0]
abbrev QrC:IL:=[ja 3 0,jp 4 3 16,⟨some 5,.val (.bin .num .quo (.t 4) (.c (.int .i64 8))),none⟩,ja 2 5]
abbrev QrD:RC:=jQ QrB (jQ QrC (.ret))
abbrev QrE:List RR:=[.tmp 2]
theorem QMY:CT 252 6 QrD QrE:=ck Tryz.func252 Tryz.ntmps252 (by decide +kernel)
abbrev QrF:IL:=[jd 4 0]
abbrev QrG:IL:=[ja 12 1,jv 13 255 12,ja 11 13,jo 14 11 0,jo 15 11 1,ja 5 14,ja 6 15]
abbrev QrH:IL:=[ja 16 1,jl 17 0 16,ja 7 17]
abbrev QrI:IL:=[N8 8 0]
abbrev QrJ:IL:=[jd 9 0]
abbrev QrK:IL:=[ja 18 9,ja 19 7,js 20 18 19]
abbrev QrL:IL:=[ja 23 8,⟨some 24,.val (.bin .num .mul (.t 23) (.c (.int .u32 16777619))),none⟩,ja 25 0,ja 26 9,U1 27 25 26,⟨some 28,.val (.cvi .u32 (.t 27)),none⟩,zs 29 24 28,ja 8 29]
abbrev QrM:IL:=[ja 21 9,jp 22 21 1,ja 9 22]
abbrev QrN:RC:=.seq (jQ QrK (jX 20 0)) (.seq (.block 1 (.reg QrL)) (.reg QrM))
abbrev QrO:IL:=[ja 30 8,ja 31 5,zt 32 30 31,ja 33 32,ji 34 0 33,ji 35 7 33,⟨some 36,.val (.slc none (.t 34) none (some (.t 35)) none),(some (33,true))⟩,ji 37 1 33,DK 38 36 37 33,jk 39 33 38]
abbrev QrP:IL:=[jd 4 0]
abbrev QaU:IL:=[ja 40 7,ja 10 40]
abbrev QaV:IL:=[ja 41 10,ja 42 0,jl 43 0 42,js 44 41 43]
abbrev QaW:IL:=[ja 45 8,⟨some 46,.val (.bin .num .mul (.t 45) (.c (.int .u32 16777619))),none⟩,ja 8 46]
abbrev QaX:IL:=[ja 47 8,ja 48 0,ja 49 10,U1 50 48 49,⟨some 51,.val (.cvi .u32 (.t 50)),none⟩,zs 52 47 51,ja 8 52]
abbrev QaY:IL:=[ja 53 8,ja 54 6,ja 55 0,ja 56 10,ja 57 7,⟨some 58,.val (.bin .num .sub (.t 56) (.t 57)),none⟩,U1 59 55 58,⟨some 60,.val (.cvi .u32 (.t 59)),none⟩,⟨some 61,.val (.bin .num .mul (.t 54) (.t 60)),none⟩,⟨some 62,.val (.bin .num .sub (.t 53) (.t 61)),none⟩,ja 8 62]
abbrev QaZ:IL:=[ja 63 10,jp 64 63 1,ja 10 64]
abbrev Qa0:IL:=[ja 65 8,ja 66 5,zt 67 65 66,ja 68 67,ji 69 0 68,ji 70 10 68,ji 71 7 68,⟨some 72,.val (.bin .num .sub (.t 70) (.t 71)),(some (68,true))⟩,ji 73 10 68,⟨some 74,.val (.slc none (.t 69) (some (.t 72)) (some (.t 73)) none),(some (68,true))⟩,ji 75 1 68,DK 76 74 75 68,jk 77 68 76]
abbrev Qa1:IL:=[ja 78 10,ja 79 7,⟨some 80,.val (.bin .num .sub (.t 78) (.t 79)),none⟩,ja 4 80]
abbrev QrQ:RC:=.seq (jQ QaV (jX 44 2)) (.block 3 (jQ QaW (jQ QaX (jQ QaY (jQ QaZ (jQ Qa0 (.cond (.t 77) (jQ Qa1 (.ret)) (.skip))))))))
abbrev Qa2:IL:=[jd 4 (-1)]
abbrev QrR:RC:=jQ QrF (jQ QrG (jQ QrH (jQ QrI (.seq (jQ QrJ (.block 0 (.loop QrN))) (.seq (jQ QrO (.cond (.t 39) (jQ QrP (.ret)) (.skip))) (.seq (jQ QaU (.block 2 (.loop QrQ))) (jQ Qa2 (.ret))))))))
abbrev QrS:List RR:=[.tmp 4]
theorem QMZ:CT 253 81 QrR QrS:=ck Tryz.func253 Tryz.ntmps253 (by decide +kernel)
abbrev QrT:IL:=[N8 2 0,N8 3 0]
abbrev QrU:IL:=[N8 4 0]
abbrev QrV:IL:=[jd 5 0]
abbrev QrW:IL:=[ja 9 5,ja 10 0,jl 11 0 10,js 12 9 11]
abbrev QrX:IL:=[ja 15 4,⟨some 16,.val (.bin .num .mul (.t 15) (.c (.int .u32 16777619))),none⟩,ja 17 0,ja 18 5,U1 19 17 18,⟨some 20,.val (.cvi .u32 (.t 19)),none⟩,zs 21 16 20,ja 4 21]
abbrev QrY:IL:=[ja 13 5,jp 14 13 1,ja 5 14]
abbrev QrZ:RC:=.seq (jQ QrW (jX 12 0)) (.seq (.block 1 (.reg QrX)) (.reg QrY))
abbrev Qr0:IL:=[N8 6 1,N8 7 16777619]
abbrev Qr1:IL:=[ja 22 0,jl 23 0 22,ja 8 23]
abbrev Qr2:IL:=[ja 24 8,zb 25 24 0]
abbrev Qa3:IL:=[ja 28 8,⟨some 29,.val (.bin .num .and (.t 28) (.c (.int .i64 1))),none⟩,ye 30 29 0]
abbrev Qa4:IL:=[ja 31 6,ja 32 7,⟨some 33,.val (.bin .num .mul (.t 31) (.t 32)),none⟩,ja 6 33]
abbrev Qa5:IL:=[ja 34 7,ja 35 7,⟨some 36,.val (.bin .num .mul (.t 34) (.t 35)),none⟩,ja 7 36]
abbrev Qr3:IL:=[ja 26 8,⟨some 27,.val (.bin .num .shr (.t 26) (.c (.int .u64 1))),none⟩,ja 8 27]
abbrev Qr4:RC:=.seq (jQ Qr2 (jX 25 2)) (.seq (.block 3 (.seq (jQ Qa3 (.cond (.t 30) (.reg Qa4) (.skip))) (.reg Qa5))) (.reg Qr3))
abbrev Qa6:IL:=[ja 37 4,ja 38 6,ja 2 37,ja 3 38]
abbrev Qr5:RC:=jQ QrT (jQ QrU (.seq (jQ QrV (.block 0 (.loop QrZ))) (jQ Qr0 (.seq (jQ Qr1 (.block 2 (.loop Qr4))) (jQ Qa6 (.ret))))))
abbrev Qr6:List RR:=[.tmp 2,.tmp 3]
theorem QM0:CT 255 39 Qr5 Qr6:=ck Tryz.func255 Tryz.ntmps255 (by decide +kernel)
abbrev QDq:IL:=[jg 2]
abbrev QDr:IL:=[ja 3 0,jv 4 129 3,yr 5 4 0,ja 2 5]
abbrev r96:RC:=jQ QDq (jQ QDr (.ret))
abbrev o96:List RR:=[.tmp 2]
theorem k96:CT 96 6 r96 o96:=ck Tryz.func96 Tryz.ntmps96 (by decide +kernel)
abbrev Qr7:IL:=[jf 3 3 1,jg 4]
abbrev Qr8:IL:=[ja 6 0,jv 7 154 6,jy 8 7,ja 9 8,ju 10 0 3 9,ya 11 10 9,jq 12 0 9,Ub 13 11 12 9,jn 14 9 13,ja 15 14,yl 16 7 3 15,yy 17 155 16 15,yj 18 17 15,jn 19 15 18]
abbrev Qr9:IL:=[jg 4]
abbrev Qsa:IL:=[ja 20 0,jv 21 156 20]
abbrev Qsb:IL:=[jb 22 1 3,jc 23 22,Ga 24 23 0,ja 25 24,jm 26 2 3 25,jt 27 26 25,ys 28 0 27 25,yz 29 28 4096 25,jk 30 25 29,ja 31 30,ji 32 0 31,yk 33 32 8 31,ji 34 33 31,ju 35 2 3 34,ya 36 35 34,yy 37 96 36 34,F4 38 34 37 31,jk 39 31 38,ja 4 39]
abbrev Qsc:IL:=[jb 40 2 3,jc 41 40,MK 42 41]
abbrev Qsd:IL:=[jg 4]
abbrev Qse:IL:=[ja 43 0]
abbrev Qsf:IL:=[jr 45 43 1,ja 44 45]
abbrev Qsg:IL:=[jb 46 1 3,jc 47 46,⟨some 48,.val (.bin .num .leq (.t 47) (.c (.int .u64 1))),none⟩,ja 4 48]
abbrev Qa7:IL:=[jr 50 43 2,ja 49 50]
abbrev Qa8:IL:=[jb 51 1 3,jc 52 51,⟨some 53,.val (.cvi .i64 (.t 52)),none⟩,ja 5 53]
abbrev Qa9:IL:=[ja 54 5,yo 55 54 (-2147483648),ja 56 55,ji 57 5 56,yz 58 57 2147483647 56,jk 59 56 58,ja 4 59]
abbrev Qba:IL:=[jr 61 43 4,ja 60 61]
abbrev Qbb:IL:=[jb 62 1 3,jc 63 62,⟨some 64,.val (.bin .num .lss (.t 63) (.c (.int .u64 4294967296))),none⟩,ja 4 64]
abbrev Qbc:IL:=[jr 66 43 9,ja 65 66]
abbrev Qbd:IL:=[jb 67 1 3,jc 68 67,⟨some 69,.val (.bin .num .lss (.t 68) (.c (.int .u64 2147483648))),none⟩,ja 4 69]
abbrev Qbe:IL:=[jz 4]
abbrev Qsh:RC:=jQ Qr7 (.seq (jQ Qr8 (.cond (.t 19) (jQ Qr9 (.ret)) (.skip))) (.seq (jQ Qsa (.cond (.t 21) (jQ Qsb (.ret)) (.skip))) (.seq (jQ Qsc (.cond (.t 42) (jQ Qsd (.ret)) (.skip))) (.seq (jQ Qse (.block 0 (jQ Qsf (.cond (.t 44) (jQ Qsg (.ret)) (jQ Qa7 (.cond (.t 49) (jQ Qa8 (jQ Qa9 (.ret))) (jQ Qba (.cond (.t 60) (jQ Qbb (.ret)) (jQ Qbc (.cond (.t 65) (jQ Qbd (.ret)) (.skip))))))))))) (jQ Qbe (.ret))))))
abbrev Qsi:List RR:=[.tmp 4]
theorem Qsj:CT 126 70 Qsh Qsi:=ck Tryz.func126 Tryz.ntmps126 (by decide +kernel)
abbrev Qsk:IL:=[jf 1 1 0,zk 2 2]
abbrev Qsl:IL:=[jb 3 0 1,jc 4 3,jr 5 4 6,ja 6 5,jm 7 1 1 6,jt 8 7 6,zm 9 157 8 6,yk 10 9 0 6,jk 11 6 10]
abbrev Qsm:IL:=[jb 12 1 1,⟨none,.store 1 (.t 12) (.c (.int .u64 9221120237041090560)),none⟩]
abbrev Qsn:IL:=[je 13 7 1,jh 7 2 13]
abbrev Qso:RC:=jQ Qsk (.seq (jQ Qsl (.cond (.t 11) (.reg Qsm) (.skip))) (jQ Qsn (.ret)))
abbrev Qsp:List RR:=[.cell 2 (some 7)]
theorem Qsq:CT 127 14 Qso Qsp:=ck Tryz.func127 Tryz.ntmps127 (by decide +kernel)
abbrev Qsr:IL:=[jd 2 0]
abbrev Qss:IL:=[jd 3 0]
abbrev Qst:IL:=[ja 5 3,ja 6 0,jl 7 0 6,js 8 5 7]
abbrev Qsu:IL:=[ja 9 0,ja 10 3,jx 11 161 9 10,ja 4 11]
abbrev Qsv:IL:=[ja 12 4,jr 13 12 0]
abbrev Qsw:IL:=[ja 14 3,ja 2 14]
abbrev Qsx:IL:=[ja 15 3,ja 16 4,zs 17 15 16,ja 3 17]
abbrev Qsy:RC:=.seq (jQ Qst (jX 8 0)) (.block 1 (jQ Qsu (.seq (jQ Qsv (.cond (.t 13) (jQ Qsw (.ret)) (.skip))) (.reg Qsx))))
abbrev Qsz:IL:=[jd 2 (-1)]
abbrev QsA:RC:=jQ Qsr (.seq (jQ Qss (.block 0 (.loop Qsy))) (jQ Qsz (.ret)))
abbrev QsB:List RR:=[.tmp 2]
theorem QsC:CT 129 18 QsA QsB:=ck Tryz.func129 Tryz.ntmps129 (by decide +kernel)
abbrev QsD:IL:=[jg 2]
abbrev QsE:IL:=[ja 3 0,yo 4 3 1,ja 5 4,ji 6 0 5,yz 7 6 9 5,jk 8 5 7,ja 2 8]
abbrev QsF:RC:=jQ QsD (jQ QsE (.ret))
abbrev QsG:List RR:=[.tmp 2]
theorem QsH:CT 154 9 QsF QsG:=ck Tryz.func154 Tryz.ntmps154 (by decide +kernel)
abbrev QsI:IL:=[jf 1 1 0,jg 2]
abbrev QsJ:IL:=[jb 3 3 1,jc 4 3,jl 5 1 4,jr 6 5 0,ja 7 6,jm 8 4 1 7,jt 9 8 7,ys 10 1 9 7,yk 11 10 0 7,jk 12 7 11,ja 13 12,jm 14 5 1 13,jt 15 14 13,ys 16 1 15 13,yk 17 16 0 13,jk 18 13 17,ja 19 18,jm 20 6 1 19,jt 21 20 19,ys 22 1 21 19,yk 23 22 0 19,jk 24 19 23,ja 2 24]
abbrev QsK:RC:=jQ QsI (jQ QsJ (.ret))
abbrev QsL:List RR:=[.tmp 2]
theorem QsM:CT 155 25 QsK QsL:=ck Tryz.func155 Tryz.ntmps155 (by decide +kernel)
abbrev QsN:IL:=[jg 2]
abbrev QsO:IL:=[ja 3 0,jr 4 3 7,ja 5 4,jq 6 0 5,yi 7 6 8 5,jn 8 5 7,ja 2 8]
abbrev QsP:RC:=jQ QsN (jQ QsO (.ret))
abbrev QsQ:List RR:=[.tmp 2]
theorem QsR:CT 156 9 QsP QsQ:=ck Tryz.func156 Tryz.ntmps156 (by decide +kernel)
abbrev QsS:IL:=[jd 2 0]
abbrev QsT:IL:=[ja 4 0,⟨some 5,.val (.bin .num .rem (.t 4) (.c (.int .u64 9223372036854775808))),none⟩,ja 3 5]
abbrev QsU:IL:=[ja 7 3,⟨some 8,.val (.bin .num .gtr (.t 7) (.c (.int .u64 9218868437227405312))),none⟩,ja 6 8]
abbrev QsV:IL:=[jd 2 0]
abbrev QsW:IL:=[ja 10 3,Ga 11 10 9218868437227405312,ja 9 11]
abbrev QsX:IL:=[jd 2 1]
abbrev QsY:IL:=[ja 13 3,Ga 14 13 0,ja 12 14]
abbrev QsZ:IL:=[jd 2 2]
abbrev Qs0:IL:=[ja 16 3,⟨some 17,.val (.bin .num .lss (.t 16) (.c (.int .u64 4503599627370496))),none⟩,ja 15 17]
abbrev Qs1:IL:=[jd 2 3]
abbrev Qbf:IL:=[jd 2 4]
abbrev Qs2:RC:=jQ QsS (jQ QsT (.seq (.block 0 (jQ QsU (.cond (.t 6) (jQ QsV (.ret)) (jQ QsW (.cond (.t 9) (jQ QsX (.ret)) (jQ QsY (.cond (.t 12) (jQ QsZ (.ret)) (jQ Qs0 (.cond (.t 15) (jQ Qs1 (.ret)) (.skip)))))))))) (jQ Qbf (.ret))))
abbrev Qs3:List RR:=[.tmp 2]
theorem Qs4:CT 157 18 Qs2 Qs3:=ck Tryz.func157 Tryz.ntmps157 (by decide +kernel)
def P5:IL:=[jd 4 0]
def P6:IL:=[ja 6 0,ja 7 1,U1 8 6 7,ja 5 8]
def P7:IL:=[ja 10 5,⟨some 11,.val (.bin .num .lss (.t 10) (.c (.int .u8 128))),none⟩,ja 9 11]
def P8:IL:=[jd 4 1]
def Bp:IL:=[ja 13 5,N7 14 13 194,ja 15 14,ji 16 5 15,MO 17 16 223 15,jk 18 15 17,ja 19 18,ji 20 0 19,ji 21 1 19,Ug 22 21 1 19,Ba 23 194 20 22 1 19,jk 24 19 23,ja 12 24]
def P9:IL:=[jd 4 2]
def Bq:IL:=[ja 26 5,MP 27 26 224,ja 28 27,ji 29 0 28,ji 30 1 28,Ug 31 30 1 28,⟨some 32,.call (.f 195) [(.t 29),(.t 31),(.c (.int .u8 160)),(.c (.int .u8 191))],(some (28,true))⟩,jk 33 28 32,ja 34 33,ji 35 0 34,ji 36 1 34,Ug 37 36 2 34,Ba 38 194 35 37 1 34,jk 39 34 38,ja 25 39]
def Ra:IL:=[jd 4 3]
def Bs:IL:=[ja 41 5,MP 42 41 237,ja 43 42,ji 44 0 43,ji 45 1 43,Ug 46 45 1 43,⟨some 47,.call (.f 195) [(.t 44),(.t 46),(.c (.int .u8 128)),(.c (.int .u8 159))],(some (43,true))⟩,jk 48 43 47,ja 49 48,ji 50 0 49,ji 51 1 49,Ug 52 51 2 49,Ba 53 194 50 52 1 49,jk 54 49 53,ja 40 54]
def Rb:IL:=[jd 4 3]
def GT:IL:=[ja 56 5,N7 57 56 225,ja 58 57,ji 59 5 58,MO 60 59 239 58,jk 61 58 60,ja 62 61,ji 63 5 62,⟨some 64,.val (.bin .num .neq (.t 63) (.c (.int .u8 237))),(some (62,true))⟩,jk 65 62 64,ja 66 65,ji 67 0 66,ji 68 1 66,Ug 69 68 1 66,Ba 70 194 67 69 2 66,jk 71 66 70,ja 55 71]
def Vr:IL:=[jd 4 3]
def GU:IL:=[ja 73 5,MP 74 73 240,ja 75 74,ji 76 0 75,ji 77 1 75,Ug 78 77 1 75,⟨some 79,.call (.f 195) [(.t 76),(.t 78),(.c (.int .u8 144)),(.c (.int .u8 191))],(some (75,true))⟩,jk 80 75 79,ja 81 80,ji 82 0 81,ji 83 1 81,Ug 84 83 2 81,Ba 85 194 82 84 2 81,jk 86 81 85,ja 72 86]
def Vs:IL:=[jd 4 4]
def GV:IL:=[ja 88 5,N7 89 88 241,ja 90 89,ji 91 5 90,MO 92 91 243 90,jk 93 90 92,ja 94 93,ji 95 0 94,ji 96 1 94,Ug 97 96 1 94,Ba 98 194 95 97 3 94,jk 99 94 98,ja 87 99]
def Vt:IL:=[jd 4 4]
def GW:IL:=[ja 101 5,MP 102 101 244,ja 103 102,ji 104 0 103,ji 105 1 103,Ug 106 105 1 103,⟨some 107,.call (.f 195) [(.t 104),(.t 106),(.c (.int .u8 128)),(.c (.int .u8 143))],(some (103,true))⟩,jk 108 103 107,ja 109 108,ji 110 0 109,ji 111 1 109,Ug 112 111 2 109,Ba 113 194 110 112 2 109,jk 114 109 113,ja 100 114]
def Vu:IL:=[jd 4 4]
def Vv:IL:=[jd 4 0]
def TK:RC:=jQ P5 (jQ P6 (.seq (.block 0 (jQ P7 (.cond (.t 9) (jQ P8 (.ret)) (jQ Bp (.cond (.t 12) (jQ P9 (.ret)) (jQ Bq (.cond (.t 25) (jQ Ra (.ret)) (jQ Bs (.cond (.t 40) (jQ Rb (.ret)) (jQ GT (.cond (.t 55) (jQ Vr (.ret)) (jQ GU (.cond (.t 72) (jQ Vs (.ret)) (jQ GV (.cond (.t 87) (jQ Vt (.ret)) (jQ GW (.cond (.t 100) (jQ Vu (.ret)) (.skip)))))))))))))))))) (jQ Vv (.ret))))
def TL:List RR:=[.tmp 4]
theorem Qs5:CT 161 115 TK TL:=ck Tryz.func161 Tryz.ntmps161 (by decide +kernel)
abbrev Qs6:IL:=[jg 6]
abbrev Qs7:IL:=[jd 7 0]
abbrev Qs8:IL:=[ja 8 7,ja 9 2,js 10 8 9]
abbrev Qs9:IL:=[ja 13 0,ja 14 1,ja 15 7,zs 16 14 15,⟨some 17,.call (.f 195) [(.t 13),(.t 16),(.c (.int .u8 128)),(.c (.int .u8 191))],none⟩,jy 18 17]
abbrev Qta:IL:=[jg 6]
abbrev Qtb:IL:=[ja 11 7,jp 12 11 1,ja 7 12]
abbrev Qtc:RC:=.seq (jQ Qs8 (jX 10 0)) (.seq (.block 1 (jQ Qs9 (.cond (.t 18) (jQ Qta (.ret)) (.skip)))) (.reg Qtb))
abbrev Qtd:IL:=[jz 6]
abbrev Qte:RC:=jQ Qs6 (.seq (jQ Qs7 (.block 0 (.loop Qtc))) (jQ Qtd (.ret)))
abbrev Qtf:List RR:=[.tmp 6]
theorem Qtg:CT 194 19 Qte Qtf:=ck Tryz.func194 Tryz.ntmps194 (by decide +kernel)
abbrev Qth:IL:=[jg 8]
abbrev Qti:IL:=[ja 9 1,ja 10 0,jl 11 0 10,js 12 9 11,ja 13 12,ji 14 0 13,ji 15 1 13,MQ 16 14 15 13,ji 17 2 13,⟨some 18,.val (.bin .num .geq (.t 16) (.t 17)),(some (13,true))⟩,jk 19 13 18,ja 20 19,ji 21 0 20,ji 22 1 20,MQ 23 21 22 20,ji 24 3 20,DJ 25 23 24 20,jk 26 20 25,ja 8 26]
abbrev Qtj:RC:=jQ Qth (jQ Qti (.ret))
abbrev Qtk:List RR:=[.tmp 8]
theorem Qtl:CT 195 27 Qtj Qtk:=ck Tryz.func195 Tryz.ntmps195 (by decide +kernel)
abbrev Qtm:IL:=[jd 6 0]
abbrev Qtn:IL:=[ja 8 0,ja 9 1,jx 10 187 8 9,ja 7 10]
abbrev Qto:IL:=[ja 11 7,jr 12 11 0,ja 13 12,jq 14 7 13,jq 15 0 13,jq 16 2 13,zl 17 187 15 16 13,Ub 18 14 17 13,jn 19 13 18]
abbrev Qtp:IL:=[jd 6 0]
abbrev Qtq:IL:=[ja 20 1,ja 21 2,zt 22 20 21,ja 23 22,jq 24 1 23,yi 25 24 7 23,jn 26 23 25]
abbrev Qtr:IL:=[jd 6 2]
abbrev Qts:IL:=[ja 27 1,jr 28 27 8,ja 29 28,jq 30 1 29,jq 31 2 29,zl 32 188 30 31 29,yj 33 32 29,jn 34 29 33]
abbrev Qtt:IL:=[jd 6 1]
abbrev Qtu:IL:=[jd 6 2]
abbrev Qtv:RC:=jQ Qtm (jQ Qtn (.seq (jQ Qto (.cond (.t 19) (jQ Qtp (.ret)) (.skip))) (.seq (jQ Qtq (.cond (.t 26) (jQ Qtr (.ret)) (.skip))) (.seq (jQ Qts (.cond (.t 34) (jQ Qtt (.ret)) (.skip))) (jQ Qtu (.ret))))))
abbrev Qtw:List RR:=[.tmp 6]
theorem QM1:CT 148 35 Qtv Qtw:=ck Tryz.func148 Tryz.ntmps148 (by decide +kernel)
abbrev Qtx:IL:=[zk 6 6,jg 7]
abbrev Qty:IL:=[ja 8 0,jv 9 189 8,jy 10 9,ja 11 10,jq 12 1 11,yy 13 190 12 11,yj 14 13 11,jn 15 11 14,ja 16 15,jq 17 2 16,yy 18 190 17 16,yj 19 18 16,jn 20 16 19]
abbrev Qtz:IL:=[zn 21,jh 7 6 21,jg 7]
abbrev QtA:IL:=[ja 22 0,ja 23 1,ja 24 2,yb 25 148 22 23 24]
abbrev QtB:IL:=[jr 27 25 0,ja 26 27]
abbrev QtC:IL:=[ja 28 1,jv 29 191 28,jh 7 6 29,jz 7]
abbrev QtD:IL:=[jr 31 25 2,ja 30 31]
abbrev QtE:IL:=[zn 32,jh 7 6 32,jg 7]
abbrev QtF:IL:=[ja 33 1,jr 34 33 8]
abbrev QtG:IL:=[ja 35 1,⟨some 36,.val (.build [.int .i64 0,.int .u64 0,.str [],.nils,.nils,.nils,.nils] [(0,1,(.t 35)),(2,1,(.c (.str [255])))]),none⟩,jh 7 6 36,jz 7]
abbrev Qbg:IL:=[ja 37 1,jv 38 192 37,ja 39 2,jv 40 192 39,⟨some 41,.val (.bin .num .gtr (.t 38) (.t 40)),none⟩]
abbrev Qbh:IL:=[ja 42 1,ja 43 2,jv 44 192 43,⟨some 45,.val (.bin .num .add (.t 44) (.c (.int .u64 1))),none⟩,⟨some 46,.val (.build [.int .i64 0,.int .u64 0,.str [],.nils,.nils,.nils,.nils] [(0,1,(.t 42)),(1,1,(.t 45))]),none⟩,jh 7 6 46,jz 7]
abbrev Qbi:IL:=[ja 47 1,⟨some 48,.val (.build [.int .i64 0,.int .u64 0,.str [],.nils,.nils,.nils,.nils] [(0,1,(.t 47)),(1,1,(.c (.int .u64 18446744073709551615)))]),none⟩,jh 7 6 48,jz 7]
abbrev QtH:RC:=jQ Qtx (.seq (jQ Qty (.cond (.t 20) (jQ Qtz (.ret)) (.skip))) (.seq (jQ QtA (.block 0 (jQ QtB (.cond (.t 26) (jQ QtC (.ret)) (jQ QtD (.cond (.t 30) (jQ QtE (.ret)) (.skip))))))) (.seq (jQ QtF (.cond (.t 34) (jQ QtG (.ret)) (.skip))) (.seq (jQ Qbg (.cond (.t 41) (jQ Qbh (.ret)) (.skip))) (jQ Qbi (.ret))))))
abbrev QtI:List RR:=[.cell 6 (some 7),.tmp 7]
theorem QM2:CT 149 49 QtH QtI:=ck Tryz.func149 Tryz.ntmps149 (by decide +kernel)
abbrev QtJ:IL:=[jf 7 7 3,zk 8 8,jd 9 0]
abbrev QtK:IL:=[ja 12 0,jv 13 189 12,jy 14 13,ja 15 14,jq 16 1 15,yy 17 190 16 15,yj 18 17 15,jn 19 15 18,ja 20 19,jq 21 2 20,yy 22 190 21 20,yj 23 22 20,jn 24 20 23,ja 25 24,ju 26 0 7 25,ya 27 26 25,jq 28 1 25,Ub 29 27 28 25,jn 30 25 29,ja 31 30,jq 32 1 31,yl 33 7 7 31,zl 34 126 32 33 31,yj 35 34 31,jn 36 31 35]
abbrev QtL:IL:=[zn 37,jh 7 8 37,jd 9 1]
abbrev QtM:IL:=[ja 38 0,ja 39 1,ja 40 2,yb 41 148 38 39 40,jr 42 41 0]
abbrev QtN:IL:=[ja 43 0,jr 44 43 1]
abbrev QtO:IL:=[zn 45,jh 7 8 45,jd 9 13]
abbrev QtP:IL:=[zn 46,jh 7 8 46,jd 9 12]
abbrev QtQ:IL:=[ja 47 2,jb 48 1 7,jc 49 48,jb 50 2 7,jc 51 50,⟨some 52,.val (.build [.int .i64 0,.int .u64 0,.str [],.nils,.nils,.nils,.nils] [(0,1,(.t 47)),(1,1,(.t 49)),(2,1,(.t 51))]),none⟩,zk 10 10,jh 7 10 52]
abbrev QtR:IL:=[ja 53 1,jr 54 53 6]
abbrev QtS:IL:=[je 55 7 10,jv 56 127 55,jh 7 8 56,jd 9 0]
abbrev Qbj:IL:=[ja 57 1,jr 58 57 7,ja 59 58,jq 60 1 59,yi 61 60 8 59,jn 62 59 61]
abbrev Qbk:IL:=[ja 63 2,je 64 7 10,jx 65 126 63 64,jy 66 65]
abbrev Qbl:IL:=[zn 67,jh 7 8 67,jd 9 7]
abbrev Qbm:IL:=[je 68 7 10,jh 7 8 68,jd 9 0]
abbrev Qbn:IL:=[ja 69 1,jv 70 193 69,ja 71 70,jm 72 1 7 71,jt 73 72 71,⟨some 74,.val (.bin .num .geq (.t 73) (.c (.int .u64 9223372036854775808))),(some (71,true))⟩,jk 75 71 74,ja 11 75]
abbrev Qbo:IL:=[ja 76 11,ja 77 76,ji 78 2 77,zm 79 193 78 77,yw 80 79 77,jk 81 77 80,ja 82 81,jq 83 11 82,yj 84 83 82,jq 85 84 82,jm 86 1 7 85,zj 87 0 7 86 85,ji 88 2 85,zm 89 192 88 85,⟨some 90,.val (.bin .num .gtr (.t 87) (.t 89)),(some (85,true))⟩,zg 91 85 90 82,jn 92 82 91,ja 93 92,jq 94 2 93,zu 95 0 10 7 10 93,zl 96 126 94 95 93,yj 97 96 93,jn 98 93 97]
abbrev Qbp:IL:=[zn 99,jh 7 8 99,jd 9 6]
abbrev Qbq:IL:=[je 100 7 10,jh 7 8 100,jd 9 0]
abbrev QtT:RC:=jQ QtJ (.seq (jQ QtK (.cond (.t 36) (jQ QtL (.ret)) (.skip))) (.seq (jQ QtM (.cond (.t 42) (.seq (jQ QtN (.cond (.t 44) (jQ QtO (.ret)) (.skip))) (jQ QtP (.ret))) (.skip))) (jQ QtQ (.seq (jQ QtR (.cond (.t 54) (jQ QtS (.ret)) (.skip))) (.seq (jQ Qbj (.cond (.t 62) (.seq (jQ Qbk (.cond (.t 66) (jQ Qbl (.ret)) (.skip))) (jQ Qbm (.ret))) (.skip))) (jQ Qbn (.seq (jD Qbo (.cond (.t 98) (jQ Qbp (.ret)) (.skip))) (jQ Qbq (.ret)))))))))
abbrev QtU:List RR:=[.cell 8 (some 7),.tmp 9]
theorem QM3:CT 150 101 QtT QtU:=ck Tryz.func150 Tryz.ntmps150 (by decide +kernel)
abbrev QtV:IL:=[jg 2]
abbrev QtW:IL:=[ja 3 0,jr 4 3 1,ja 5 4,jq 6 0 5,yi 7 6 2 5,jn 8 5 7,ja 9 8,jq 10 0 9,yi 11 10 4 9,jn 12 9 11,ja 2 12]
abbrev QtX:RC:=jQ QtV (jQ QtW (.ret))
abbrev QtY:List RR:=[.tmp 2]
theorem QM4:CT 189 13 QtX QtY:=ck Tryz.func189 Tryz.ntmps189 (by decide +kernel)
abbrev QtZ:IL:=[jg 2]
abbrev Qt0:IL:=[ja 3 0,yo 4 3 1,ja 5 4,ji 6 0 5,yz 7 6 9 5,jk 8 5 7,ja 2 8]
abbrev Qt1:RC:=jQ QtZ (jQ Qt0 (.ret))
abbrev Qt2:List RR:=[.tmp 2]
theorem QM5:CT 190 9 Qt1 Qt2:=ck Tryz.func190 Tryz.ntmps190 (by decide +kernel)
abbrev Qt3:IL:=[zk 2 2]
abbrev Qt4:IL:=[ja 3 0,jv 4 154 3,jy 5 4]
abbrev Qt5:IL:=[zn 6,jh 7 2 6]
abbrev Qt6:IL:=[ja 7 0,⟨some 8,.val (.build [.int .i64 0,.int .u64 0,.str [],.nils,.nils,.nils,.nils] [(0,1,(.t 7))]),none⟩,jh 7 2 8]
abbrev Qt7:RC:=jQ Qt3 (.seq (jQ Qt4 (.cond (.t 5) (jQ Qt5 (.ret)) (.skip))) (jQ Qt6 (.ret)))
abbrev Qt8:List RR:=[.cell 2 (some 7)]
theorem QM6:CT 191 9 Qt7 Qt8:=ck Tryz.func191 Tryz.ntmps191 (by decide +kernel)
abbrev Qt9:IL:=[jg 2]
abbrev Qua:IL:=[ja 3 0,jr 4 3 2,ja 5 4,jq 6 0 5,yi 7 6 3 5,jn 8 5 7,ja 9 8,jq 10 0 9,yi 11 10 4 9,jn 12 9 11,ja 13 12,jq 14 0 13,yi 15 14 5 13,jn 16 13 15,ja 2 16]
abbrev Qub:RC:=jQ Qt9 (jQ Qua (.ret))
abbrev Quc:List RR:=[.tmp 2]
theorem QM7:CT 220 17 Qub Quc:=ck Tryz.func220 Tryz.ntmps220 (by decide +kernel)
abbrev Qud:IL:=[jg 2]
abbrev Que:IL:=[ja 3 0,jr 4 3 2,ja 5 4,jq 6 0 5,yi 7 6 3 5,jn 8 5 7,ja 2 8]
abbrev Quf:RC:=jQ Qud (jQ Que (.ret))
abbrev Qug:List RR:=[.tmp 2]
theorem QM8:CT 193 9 Quf Qug:=ck Tryz.func193 Tryz.ntmps193 (by decide +kernel)
abbrev Quh:IL:=[jg 4]
abbrev Qui:IL:=[ja 5 0,jv 6 192 5,ja 7 1,jv 8 192 7,F6 9 6 8,ja 10 9,ji 11 0 10,zm 12 193 11 10,yw 13 12 10,ji 14 13 10,jq 15 1 14,yy 16 193 15 14,F4 17 14 16 10,jk 18 10 17,ja 4 18]
abbrev Quj:RC:=jQ Quh (jQ Qui (.ret))
abbrev Quk:List RR:=[.tmp 4]
theorem QM9:CT 188 19 Quj Quk:=ck Tryz.func188 Tryz.ntmps188 (by decide +kernel)
abbrev Qul:IL:=[yv 2 0]
abbrev Qum:IL:=[ja 3 0]
abbrev Qun:IL:=[jr 5 3 1,ja 4 5]
abbrev Quo:IL:=[yv 2 1]
abbrev Qup:IL:=[jr 7 3 2,ja 6 7]
abbrev Quq:IL:=[jr 8 3 9,ja 6 8]
abbrev Qur:IL:=[yv 2 2147483647]
abbrev Qus:IL:=[jr 10 3 4,ja 9 10]
abbrev Qut:IL:=[yv 2 4294967295]
abbrev Quu:IL:=[jr 12 3 3,ja 11 12]
abbrev Qbr:IL:=[yv 2 9223372036854775807]
abbrev Qbs:IL:=[yv 2 18446744073709551615]
abbrev Quv:RC:=jQ Qul (.seq (jQ Qum (.block 0 (jQ Qun (.cond (.t 4) (jQ Quo (.ret)) (.seq (jQ Qup (.cond (.t 6) (.skip) (.reg Quq))) (.cond (.t 6) (jQ Qur (.ret)) (jQ Qus (.cond (.t 9) (jQ Qut (.ret)) (jQ Quu (.cond (.t 11) (jQ Qbr (.ret)) (.skip))))))))))) (jQ Qbs (.ret)))
abbrev Quw:List RR:=[.tmp 2]
theorem QNa:CT 192 13 Quv Quw:=ck Tryz.func192 Tryz.ntmps192 (by decide +kernel)
abbrev Qux:IL:=[jd 4 0]
abbrev Quy:IL:=[ja 5 0,jv 6 189 5,jy 7 6,ja 8 7,jq 9 1 8,yy 10 190 9 8,yj 11 10 8,jn 12 8 11]
abbrev Quz:IL:=[jd 4 0]
abbrev QuA:IL:=[ja 13 1,jr 14 13 8,ja 15 14,ji 16 0 15,yu 17 16 4 15,jk 18 15 17]
abbrev QuB:IL:=[jd 4 7]
abbrev QuC:IL:=[ja 19 0,jr 20 19 1]
abbrev QuD:IL:=[ja 21 1,jr 22 21 4,ja 23 22,jq 24 1 23,yi 25 24 5 23,jn 26 23 25,ja 27 26,jq 28 1 27,yi 29 28 9 27,jn 30 27 29]
abbrev QuE:IL:=[jd 4 1]
abbrev QuF:IL:=[ja 31 1,jr 32 31 3]
abbrev QuG:IL:=[jd 4 2]
abbrev Qbt:IL:=[ja 33 1,ja 4 33]
abbrev Qbu:IL:=[ja 34 1,jv 35 220 34,ja 36 35,jq 37 1 36,yi 38 37 9 36,jq 39 38 36,ji 40 0 39,yk 41 40 2 39,zg 42 39 41 36,jn 43 36 42]
abbrev Qbv:IL:=[jd 4 2]
abbrev Qbw:IL:=[ja 44 1,ja 4 44]
abbrev QuH:RC:=jQ Qux (.seq (jQ Quy (.cond (.t 12) (jQ Quz (.ret)) (.skip))) (.seq (jQ QuA (.cond (.t 18) (jQ QuB (.ret)) (.skip))) (.seq (jQ QuC (.cond (.t 20) (.seq (jQ QuD (.cond (.t 30) (jQ QuE (.ret)) (.skip))) (.seq (jQ QuF (.cond (.t 32) (jQ QuG (.ret)) (.skip))) (jQ Qbt (.ret)))) (.skip))) (.seq (jQ Qbu (.cond (.t 43) (jQ Qbv (.ret)) (.skip))) (jQ Qbw (.ret))))))
abbrev QuI:List RR:=[.tmp 4]
theorem QNb:CT 187 45 QuH QuI:=ck Tryz.func187 Tryz.ntmps187 (by decide +kernel)
abbrev QDs:IL:=[jf 1 1 0,jg 2]
abbrev QDt:IL:=[je 3 3 1,jv 4 26 3,jl 5 1 4,jr 6 5 0,ja 2 6]
abbrev r16:RC:=jQ QDs (jQ QDt (.ret))
abbrev o16:List RR:=[.tmp 2]
theorem k16:CT 16 7 r16 o16:=ck Tryz.func16 Tryz.ntmps16 (by decide +kernel)
def Ee:IL:=[jf 1 1 0,yf 2]
def Ef:IL:=[⟨some 13,.val (.build [.str [],.nils] []),none⟩,⟨some 3,.allocN 3 [.str [],.nils],none⟩,jh 2 3 13]
def Eg:IL:=[jd 4 1]
def Eh:IL:=[ja 14 4,Ud 15 14 3]
def Ei:IL:=[je 18 3 1,ja 19 4,jx 20 49 18 19,ja 5 20]
def Ej:IL:=[ja 21 5,jl 22 1 21,zb 23 22 64,zi 24 50 3 23 (-1) 3]
def Ek:IL:=[ja 25 5,jv 26 51 25,jy 27 26,zi 28 50 3 27 (-1) 11]
def Em:IL:=[ja 16 4,jp 17 16 1,ja 4 17]
def CL:RC:=.seq (jQ Eh (jX 15 0)) (.seq (.block 1 (jQ Ei (jQ Ej (.reg Ek)))) (.reg Em))
def Eo:IL:=[je 29 3 1,N4 30 49 29 1,ja 6 30]
def Ep:IL:=[je 31 3 1,N4 32 49 31 2,ja 7 32]
def Rd:IL:=[je 33 3 1,N4 34 49 33 3,ja 8 34]
def Re:IL:=[ja 35 6,ja 36 7,jx 37 52 35 36,ja 38 37,jq 39 6 38,jq 40 8 38,zl 41 52 39 40 38,jn 42 38 41,ja 43 42,jq 44 7 43,jq 45 8 43,zl 46 52 44 45 43,jn 47 43 46,zi 48 50 3 47 (-1) 9]
def Bu:IL:=[je 49 3 1,jv 50 53 49,ja 9 50]
def Bv:IL:=[jd 10 0]
def Rf:IL:=[ja 51 10,jb 52 0 1,jc 53 52,jl 54 1 53,js 55 51 54]
def Rg:IL:=[jb 58 1 3,jw 59 0 3 58,yc 60 0 1 3 1,jb 61 0 1,jw 62 0 1 61,ja 63 10,jj 64 5 62 63,yq 65 5 64,ja 66 9,yb 67 54 60 65 66,yd 68 3 32 154 59 67,jb 69 1 3,yn 0 3 1 69 68]
def Rh:IL:=[ja 56 10,jp 57 56 1,ja 10 57]
def Ff:RC:=.seq (jQ Rf (jX 55 2)) (.seq (.block 3 (.draw Rg)) (.reg Rh))
def Bw:IL:=[jd 11 0]
def Ri:IL:=[ja 70 11,jb 71 1 1,jc 72 71,jl 73 1 72,js 74 70 73]
def Rj:IL:=[jb 77 1 3,jw 78 0 3 77,jb 79 1 1,jw 80 0 1 79,ja 81 11,jj 82 5 80 81,yq 83 5 82,jv 84 55 83,yd 85 3 32 154 78 84,jb 86 1 3,yn 0 3 1 86 85]
def Rk:IL:=[ja 75 11,jp 76 75 1,ja 11 76]
def Fg:RC:=.seq (jQ Ri (jX 74 4)) (.seq (.block 5 (.draw Rj)) (.reg Rk))
def Bx:IL:=[jd 12 0]
def Rl:IL:=[ja 87 12,jb 88 2 1,jc 89 88,jl 90 1 89,js 91 87 90]
def Rm:IL:=[jb 94 1 3,jw 95 0 3 94,yc 96 0 1 3 1,jb 97 2 1,jw 98 0 1 97,ja 99 12,jj 100 3 98 99,yq 101 3 100,jx 102 56 96 101,yd 103 3 32 154 95 102,jb 104 1 3,yn 0 3 1 104 103]
def Rn:IL:=[ja 92 12,jp 93 92 1,ja 12 93]
def Fh:RC:=.seq (jQ Rl (jX 91 6)) (.seq (.block 7 (.draw Rm)) (.reg Rn))
def Bz:IL:=[jb 105 1 3,jc 106 105,ja 2 106]
def r26:RC:=jQ Ee (jQ Ef (.gho (.vecc 3 1 1100 3) (.seq (jQ Eg (.block 0 (.loop CL))) (jQ Eo (jQ Ep (jQ Rd (jQ Re (jQ Bu (.seq (jQ Bv (.block 2 (.loop Ff))) (.seq (jQ Bw (.block 4 (.loop Fg))) (.seq (jQ Bx (.block 6 (.loop Fh))) (jQ Bz (.ret)))))))))))))
def o26:List RR:=[.tmp 2]
theorem k26:CT 26 107 r26 o26:=ck Tryz.func26 Tryz.ntmps26 (by decide +kernel)
abbrev QDu:IL:=[jf 2 2 0,yf 4]
abbrev QDv:IL:=[yf 5]
abbrev QDw:IL:=[jd 6 0]
abbrev QDx:IL:=[ja 9 1,jr 10 9 1,ja 11 10,ji 12 6 11,jm 13 0 2 11,jt 14 13 11,ys 15 1 14 11,⟨some 16,.val (.bin .num .lss (.t 12) (.t 15)),(some (11,true))⟩,jk 17 11 16]
abbrev QDy:IL:=[ja 20 5,jb 21 0 2,jc 22 21,ja 23 6,jj 24 5 22 23,jb 25 0 24,jc 26 25,H7 27 1 1 0 1 26,yd 28 1 16 9 20 27,ja 5 28]
abbrev QDz:IL:=[ja 18 6,jp 19 18 1,ja 6 19]
abbrev Er:RC:=.seq (jQ QDx (jX 17 0)) (.seq (.block 1 (.reg QDy)) (.reg QDz))
abbrev QDA:IL:=[jd 7 0]
abbrev QDB:IL:=[ja 29 1,jr 30 29 2,ja 31 30,ji 32 7 31,jm 33 1 2 31,jt 34 33 31,ys 35 1 34 31,⟨some 36,.val (.bin .num .lss (.t 32) (.t 35)),(some (31,true))⟩,jk 37 31 36]
abbrev QDC:IL:=[ja 40 5,jb 41 1 2,jc 42 41,ja 43 7,jj 44 5 42 43,jb 45 0 44,jc 46 45,H7 47 1 1 0 1 46,yd 48 1 16 9 40 47,ja 5 48]
abbrev QDD:IL:=[ja 38 7,jp 39 38 1,ja 7 39]
abbrev Es:RC:=.seq (jQ QDB (jX 37 2)) (.seq (.block 3 (.reg QDC)) (.reg QDD))
abbrev QuJ:IL:=[jd 8 0]
abbrev QuK:IL:=[ja 49 1,jr 50 49 3,ja 51 50,ji 52 8 51,jm 53 2 2 51,jt 54 53 51,ys 55 1 54 51,⟨some 56,.val (.bin .num .lss (.t 52) (.t 55)),(some (51,true))⟩,jk 57 51 56]
abbrev QuL:IL:=[ja 60 5,jb 61 2 2,jc 62 61,ja 63 8,jj 64 3 62 63,jb 65 0 64,jc 66 65,H7 67 1 1 0 1 66,yd 68 1 16 9 60 67,ja 5 68]
abbrev QuM:IL:=[ja 58 8,jp 59 58 1,ja 8 59]
abbrev Et:RC:=.seq (jQ QuK (jX 57 4)) (.seq (.block 5 (.reg QuL)) (.reg QuM))
abbrev QuN:IL:=[ja 69 5,ja 4 69]
abbrev r49:RC:=jQ QDu (jQ QDv (.gho (.vec 5 5 1) (.seq (jQ QDw (.block 0 (.loop Er))) (.seq (jQ QDA (.block 2 (.loop Es))) (.seq (jQ QuJ (.block 4 (.loop Et))) (jQ QuN (.ret)))))))
abbrev o49:List RR:=[.tmp 4]
theorem k49:CT 49 70 r49 o49:=ck Tryz.func49 Tryz.ntmps49 (by decide +kernel)
abbrev QDE:IL:=[ja 8 1]
abbrev QDF:IL:=[ja 9 0,ja 10 0,za 11 10,jb 12 1 11,DG 13 12,ja 14 0,za 15 14,jb 16 0 15,DG 17 16,ja 18 2,ja 19 3,⟨some 20,.val (.build [.str [],.int .i64 0,.int .i64 0] [(0,1,(.t 17)),(1,1,(.t 18)),(2,1,(.t 19))]),none⟩,⟨some 21,.bsl 3 1 [.str [],.int .i64 0,.int .i64 0] [(0,3,(.t 20))],none⟩,yd 22 3 32 154 13 21,za 23 9,jb 24 1 23,jh 1 24 22]
abbrev r50:RC:=jQ QDE (.cond (.t 8) (.draw QDF) (.skip))
abbrev Eu:List RR:=[]
theorem Ew:CT 50 25 r50 Eu:=ck Tryz.func50 Tryz.ntmps50 (by decide +kernel)
abbrev QDG:IL:=[jg 2]
abbrev QDH:IL:=[jd 3 1]
abbrev QDI:IL:=[ja 4 3,ja 5 0,jl 6 1 5,js 7 4 6]
abbrev QDJ:IL:=[ja 10 0,ja 11 3,jj 12 1 10 11,yp 13 12,ja 14 0,ja 15 3,zx 16 15 1,jj 17 1 14 16,yp 18 17,⟨some 19,.val (.bin .str .leq (.t 13) (.t 18)),none⟩]
abbrev QDK:IL:=[jg 2]
abbrev QDL:IL:=[ja 8 3,jp 9 8 1,ja 3 9]
abbrev QDM:RC:=.seq (jQ QDI (jX 7 0)) (.seq (.block 1 (jD QDJ (.cond (.t 19) (jQ QDK (.ret)) (.skip)))) (.reg QDL))
abbrev QDN:IL:=[jz 2]
abbrev r51:RC:=jQ QDG (.seq (jQ QDH (.block 0 (.loop QDM))) (jQ QDN (.ret)))
abbrev o51:List RR:=[.tmp 2]
theorem k51:CT 51 20 r51 o51:=ck Tryz.func51 Tryz.ntmps51 (by decide +kernel)
abbrev QDO:IL:=[jg 4]
abbrev QDP:IL:=[jd 5 0]
abbrev QDQ:IL:=[ja 6 5,ja 7 0,jl 8 1 7,js 9 6 8]
abbrev QDR:IL:=[ja 12 1,ja 13 0,ja 14 5,jj 15 1 13 14,jc 16 15,jx 17 85 12 16]
abbrev QDS:IL:=[jz 4]
abbrev QDT:IL:=[ja 10 5,jp 11 10 1,ja 5 11]
abbrev QDU:RC:=.seq (jQ QDQ (jX 9 0)) (.seq (.block 1 (jQ QDR (.cond (.t 17) (jQ QDS (.ret)) (.skip)))) (.reg QDT))
abbrev QDV:IL:=[jg 4]
abbrev r52:RC:=jQ QDO (.seq (jQ QDP (.block 0 (.loop QDU))) (jQ QDV (.ret)))
abbrev o52:List RR:=[.tmp 4]
theorem k52:CT 52 18 r52 o52:=ck Tryz.func52 Tryz.ntmps52 (by decide +kernel)
abbrev QDW:IL:=[jf 1 1 0,yf 2]
abbrev QDX:IL:=[jb 7 0 1,jc 8 7,jl 9 1 8,⟨some 10,.mk 10 4 1 1 [.bool false] (.t 9) (.t 9),none⟩,ja 3 10]
abbrev QDY:IL:=[jz 4]
abbrev QDZ:IL:=[jd 5 0]
abbrev QD0:IL:=[ja 11 5,jb 12 0 1,jc 13 12,jl 14 1 13,js 15 11 14,ja 16 15,ji 17 4 16,jk 18 16 17]
abbrev QD1:IL:=[jg 4]
abbrev QD2:IL:=[jd 6 0]
abbrev QD3:IL:=[ja 21 6,jb 22 0 1,jc 23 22,jl 24 1 23,js 25 21 24]
abbrev QuO:IL:=[ja 28 3,ja 29 6,jj 30 1 28 29,yp 31 30,jy 32 31,ja 33 32,zw 34 0 1 3 1 33,jm 35 0 1 33,zj 36 0 1 35 33,ji 37 6 33,zd 38 5 36 37 33,⟨some 39,.val (.loadr (some 5) (.t 38)),(some (33,true))⟩,ji 40 3 33,⟨some 41,.call (.f 86) [(.t 34),(.t 39),(.t 40)],(some (33,true))⟩,yw 42 41 33,jk 43 33 42]
abbrev QuP:IL:=[ja 44 3,ja 45 6,jj 46 1 44 45,⟨none,.store 1 (.t 46) (.c (.bool true)),none⟩]
abbrev QuQ:IL:=[jz 4]
abbrev QD4:IL:=[ja 26 6,jp 27 26 1,ja 6 27]
abbrev Ex:RC:=.seq (jQ QD3 (jX 25 2)) (.seq (.block 3 (jD QuO (.cond (.t 43) (jQ QuP (.reg QuQ)) (.skip)))) (.reg QD4))
abbrev QD5:IL:=[ja 19 5,jp 20 19 1,ja 5 20]
abbrev QD6:RC:=.seq (jQ QD0 (jX 18 0)) (.seq (.block 1 (jQ QD1 (jQ QD2 (.block 2 (.loop Ex))))) (.reg QD5))
abbrev QuR:IL:=[ja 47 3,ja 2 47]
abbrev r53:RC:=jQ QDW (jQ QDX (jQ QDY (.seq (jQ QDZ (.block 0 (.loop QD6))) (jQ QuR (.ret)))))
abbrev o53:List RR:=[.tmp 2]
theorem k53:CT 53 48 r53 o53:=ck Tryz.func53 Tryz.ntmps53 (by decide +kernel)
def Ey:IL:=[jf 3 3 0,jf 4 4 1,yf 6]
def Ez:IL:=[jb 13 0 4,jc 14 13,⟨some 15,.val (.build [.str [],.nils] [(0,1,(.t 14))]),none⟩,⟨some 7,.allocN 7 [.str [],.nils],none⟩,jh 2 7 15]
def EA:IL:=[jb 16 0 4,jc 17 16,jv 18 87 17,jy 19 18,zi 20 50 7 19 (-1) 8]
def EB:IL:=[jb 21 1 4,jc 22 21,jl 23 1 22,zb 24 23 64,ja 25 24,ju 26 2 4 25,ya 27 26 25,UY 28 1 27 25,YM 29 28 16 25,jn 30 25 29,ja 31 30,ju 32 3 4 31,ya 33 32 31,UY 34 1 33 31,YM 35 34 16 31,jn 36 31 35,zi 37 50 7 36 (-1) 3]
def CM:IL:=[jd 8 0]
def EC:IL:=[ja 38 8,jb 39 1 4,jc 40 39,jl 41 1 40,js 42 38 41]
def ED:IL:=[jb 45 1 4,jc 46 45,ja 47 8,jj 48 16 46 47,je 49 16 48,DH 9 9,jh 16 9 49]
def EE:IL:=[jg 10]
def EG:IL:=[jd 11 0]
def Ro:IL:=[ja 50 11,ja 51 8,js 52 50 51]
def Rp:IL:=[jb 55 1 4,jw 56 0 4 55,ja 57 11,jj 58 16 56 57,jb 59 1 58,yp 60 59,jb 61 1 9,jw 62 0 9 61,ym 63 60 62]
def Rq:IL:=[jz 10]
def BA:IL:=[ja 53 11,jp 54 53 1,ja 11 54]
def CN:RC:=.seq (jQ Ro (jX 52 2)) (.seq (.block 3 (jD Rp (.cond (.t 63) (.reg Rq) (.skip)))) (.reg BA))
def BB:IL:=[jb 64 0 9,jc 65 64,yr 66 65 1,ja 67 66,ju 68 0 9 67,ya 69 68 67,YM 70 69 65535 67,jn 71 67 70,jb 72 0 9,jc 73 72,zp 74 50 7 71 73 6]
def Gg:IL:=[ja 75 8,zb 76 75 0,ja 77 76,jm 78 0 9 77,zj 79 0 9 78 77,jm 80 1 4 77,zj 81 0 4 80 77,ji 82 8 77,N9 83 82 1 77,zd 84 16 81 83 77,jm 85 0 84 77,zv 86 85 77,DJ 87 79 86 77,jk 88 77 87,jb 89 0 9,jw 90 0 9 89,zp 91 50 7 88 90 11]
def BC:IL:=[jb 92 1 9,jw 93 0 9 92,jv 94 88 93,jy 95 94,jb 96 0 9,jw 97 0 9 96,zp 98 50 7 95 97 8]
def BD:IL:=[ja 99 10,jb 100 0 9,jc 101 100,zp 102 50 7 99 101 9]
def BE:IL:=[jb 103 2 4,jw 104 0 4 103,jb 105 0 9,jw 106 0 9 105,jx 107 89 104 106,ja 108 107,ju 109 3 4 108,yt 110 0 4 109 108,ju 111 1 9 108,yt 112 0 9 111 108,zl 113 85 110 112 108,jn 114 108 113,jb 115 0 9,jw 116 0 9 115,zp 117 50 7 114 116 21]
def BF:IL:=[yc 118 0 9 16 9,jv 119 90 118,jy 120 119,jb 121 0 9,jw 122 0 9 121,zp 123 50 7 120 122 1]
def BG:IL:=[yc 124 0 3 3 3,yc 125 0 9 16 9,jx 126 91 124 125,jy 127 126,jb 128 0 9,jw 129 0 9 128,zp 130 50 7 127 129 12]
def BH:IL:=[yc 131 0 4 5 4,ja 132 8,jx 133 92 131 132,jy 134 133,jb 135 0 9,jw 136 0 9 135,zp 137 50 7 134 136 15]
def BI:IL:=[yc 138 0 3 3 3,yc 139 0 9 16 9,jx 140 93 138 139,jy 141 140,jb 142 0 9,jw 143 0 9 142,zp 144 50 7 141 143 1]
def BJ:IL:=[jb 145 15 9,jc 146 145,jb 147 0 9,jc 148 147,⟨some 149,.callF (.f 94) [(.t 7),(.t 146),(.c (.int .i64 2)),(.t 148)],none⟩]
def EH:IL:=[ja 43 8,jp 44 43 1,ja 8 44]
def CO:RC:=.gho (.drop 9) (.seq (jQ EC (jX 42 0)) (.seq (.block 1 (jQ ED (jQ EE (.seq (jQ EG (.block 2 (.loop CN))) (jQ BB (jD Gg (jD BC (jQ BD (jD BE (jD BF (jD BG (jD BH (jD BI (.reg BJ)))))))))))))) (.reg EH)))
def BK:IL:=[jb 150 2 4,jc 151 150,zi 152 95 7 151 1 65535]
def BL:IL:=[jd 12 0]
def Rr:IL:=[ja 153 12,jb 154 3 4,jc 155 154,jl 156 1 155,js 157 153 156]
def Rs:IL:=[jb 160 3 4,jc 161 160,ja 162 12,jj 163 1 161 162,jc 164 163,jv 165 96 164,jy 166 165,zi 167 50 7 166 (-1) 7]
def Rt:IL:=[ja 158 12,jp 159 158 1,ja 12 159]
def Fi:RC:=.seq (jQ Rr (jX 157 4)) (.seq (.block 5 (.reg Rs)) (.reg Rt))
def BM:IL:=[jb 168 4 4,jc 169 168,zi 170 94 7 169 1 (-1)]
def BN:IL:=[je 171 3 3,je 172 5 4,ja 173 2,yb 174 86 171 172 173,zi 175 50 7 174 (-1) 19]
def BO:IL:=[jb 176 1 7,jc 177 176,ja 6 177]
def r54:RC:=jQ Ey (jQ Ez (.gho (.vecc 7 1 1100 3) (jQ EA (jQ EB (.seq (jQ CM (.block 0 (.loop CO))) (jQ BK (.seq (jQ BL (.block 4 (.loop Fi))) (jQ BM (jQ BN (jQ BO (.ret)))))))))))
def Ru:List RR:=[.tmp 6]
theorem k54:CT 54 178 r54 Ru:=ck Tryz.func54 Tryz.ntmps54 (by decide +kernel)
def EI:IL:=[jf 1 1 0,yf 2]
def EJ:IL:=[jb 8 0 1,jc 9 8,⟨some 10,.val (.build [.str [],.nils] [(0,1,(.t 9))]),none⟩,⟨some 3,.allocN 3 [.str [],.nils],none⟩,jh 2 3 10]
def EK:IL:=[jb 11 0 1,jc 12 11,jv 13 87 12,jy 14 13,zi 15 50 3 14 (-1) 8]
def EL:IL:=[jb 16 2 1,jc 17 16,jl 18 1 17,yr 19 18 1,ja 20 19,ju 21 2 1 20,ya 22 21 20,UY 23 1 22 20,YM 24 23 64 20,jn 25 20 24,ja 26 25,ju 27 3 1 26,ya 28 27 26,UY 29 1 28 26,YM 30 29 16 26,jn 31 26 30,zi 32 50 3 31 (-1) 3]
def Fj:IL:=[jb 33 2 1,jc 34 33,jl 35 1 34,zb 36 35 0,ja 37 36,jm 38 2 1 37,jt 39 38 37,⟨some 40,.val (.iaddr 3 none (.t 39) (.c (.int .i64 0))),(some (37,true))⟩,jm 41 1 40 37,jt 42 41 37,yu 43 42 0 37,jk 44 37 43,zi 45 50 3 44 (-1) 14]
def Fk:IL:=[jd 4 0]
def EM:IL:=[ja 46 4,jb 47 2 1,jc 48 47,jl 49 1 48,js 50 46 49]
def EN:IL:=[jb 53 2 1,jc 54 53,ja 55 4,jj 56 3 54 55,je 57 3 56,Uc 5 5,jh 3 5 57]
def EO:IL:=[jg 6]
def Rv:IL:=[jd 7 0]
def Rw:IL:=[ja 58 7,ja 59 4,js 60 58 59]
def Rx:IL:=[jb 63 2 1,jw 64 0 1 63,ja 65 7,jj 66 3 64 65,jb 67 0 66,yp 68 67,jb 69 0 5,jw 70 0 5 69,ym 71 68 70]
def Ry:IL:=[jz 6]
def BP:IL:=[ja 61 7,jp 62 61 1,ja 7 62]
def CP:RC:=.seq (jQ Rw (jX 60 2)) (.seq (.block 3 (jD Rx (.cond (.t 71) (.reg Ry) (.skip)))) (.reg BP))
def BQ:IL:=[jb 72 1 5,jc 73 72,yr 74 73 0,ja 75 74,ju 76 1 5 75,ya 77 76 75,YM 78 77 2147483647 75,jn 79 75 78,jb 80 1 5,jc 81 80,zp 82 50 3 79 81 6]
def Gi:IL:=[ja 83 4,zb 84 83 0,ja 85 84,jm 86 1 5 85,zj 87 0 5 86 85,jm 88 2 1 85,zj 89 0 1 88 85,ji 90 4 85,N9 91 90 1 85,zd 92 3 89 91 85,jm 93 1 92 85,zv 94 93 85,DJ 95 87 94 85,jk 96 85 95,jb 97 1 5,jw 98 0 5 97,zp 99 50 3 96 98 11]
def BR:IL:=[jb 100 0 5,jw 101 0 5 100,jv 102 88 101,jy 103 102,jb 104 1 5,jw 105 0 5 104,zp 106 50 3 103 105 8]
def BS:IL:=[ja 107 6,jb 108 1 5,jc 109 108,zp 110 50 3 107 109 9]
def BT:IL:=[jb 111 3 1,jw 112 0 1 111,jb 113 1 5,jw 114 0 5 113,jx 115 89 112 114,jb 116 1 5,jw 117 0 5 116,zp 118 50 3 115 117 21]
def BU:IL:=[jb 119 2 5,jc 120 119,jb 121 1 5,jc 122 121,⟨some 123,.callF (.f 94) [(.t 3),(.t 120),(.c (.int .i64 4)),(.t 122)],none⟩]
def EP:IL:=[ja 51 4,jp 52 51 1,ja 4 52]
def Fl:RC:=.gho (.drop 5) (.seq (jQ EM (jX 50 0)) (.seq (.block 1 (jQ EN (jQ EO (.seq (jQ Rv (.block 2 (.loop CP))) (jQ BQ (jD Gi (jD BR (jQ BS (jD BT (.reg BU)))))))))) (.reg EP)))
def Gj:IL:=[jb 124 3 1,jc 125 124,zi 126 95 3 125 0 2147483647]
def Gk:IL:=[jb 127 4 1,jc 128 127,zi 129 94 3 128 3 (-1)]
def Gl:IL:=[jb 130 1 3,jc 131 130,ja 2 131]
def r55:RC:=jQ EI (jQ EJ (.gho (.vecc 3 1 1100 3) (jQ EK (jQ EL (jQ Fj (.seq (jQ Fk (.block 0 (.loop Fl))) (jQ Gj (jQ Gk (jQ Gl (.ret))))))))))
def o55:List RR:=[.tmp 2]
theorem k55:CT 55 132 r55 o55:=ck Tryz.func55 Tryz.ntmps55 (by decide +kernel)
def EQ:IL:=[jf 2 2 0,jf 3 3 1,yf 4]
def ER:IL:=[jb 8 0 3,jc 9 8,⟨some 10,.val (.build [.str [],.nils] [(0,1,(.t 9))]),none⟩,⟨some 5,.allocN 5 [.str [],.nils],none⟩,jh 2 5 10]
def ES:IL:=[jb 11 0 3,jc 12 11,jv 13 87 12,jy 14 13,zi 15 50 5 14 (-1) 8]
def ET:IL:=[jb 16 1 3,jc 17 16,jl 18 1 17,zb 19 18 64,zi 20 50 5 19 (-1) 3]
def EU:IL:=[jd 6 0]
def EV:IL:=[ja 21 6,jb 22 1 3,jc 23 22,jl 24 1 23,js 25 21 24]
def EW:IL:=[jb 28 1 3,jc 29 28,ja 30 6,jj 31 5 29 30,je 32 5 31,⟨some 7,.allocN 7 [.str [],.str [],.str [],.int .i64 0,.nils],none⟩,jh 5 7 32]
def CQ:IL:=[jb 33 0 7,jc 34 33,jv 35 88 34,jy 36 35,ja 37 6,zp 38 50 5 36 37 8]
def Fo:IL:=[ja 39 6,zb 40 39 0,ja 41 40,jm 42 0 7 41,zj 43 0 7 42 41,jm 44 1 3 41,zj 45 0 3 44 41,ji 46 6 41,N9 47 46 1 41,zd 48 5 45 47 41,jm 49 0 48 41,zv 50 49 41,⟨some 51,.val (.bin .str .leq (.t 43) (.t 50)),(some (41,true))⟩,jk 52 41 51,ja 53 6,zp 54 50 5 52 53 11]
def BW:IL:=[je 55 3 2,jb 56 1 7,jc 57 56,jx 58 97 55 57,yr 59 58 0,ja 60 59,yl 61 3 2 60,ju 62 2 7 60,ya 63 62 60,zl 64 97 61 63 60,⟨some 65,.val (.bin .num .lss (.t 64) (.c (.int .i64 0))),(some (60,false))⟩,jn 66 60 65,ja 67 6,zp 68 50 5 66 67 12]
def BX:IL:=[jb 69 3 7,jc 70 69,yr 71 70 1,ja 72 71,ju 73 3 7 72,ya 74 73 72,YM 75 74 4 72,jn 76 72 75,ja 77 6,zp 78 50 5 76 77 1]
def BY:IL:=[jb 79 4 7,jc 80 79,ja 81 6,⟨some 82,.callF (.f 94) [(.t 5),(.t 80),(.c (.int .i64 6)),(.t 81)],none⟩]
def EX:IL:=[ja 26 6,jp 27 26 1,ja 6 27]
def EY:RC:=.gho (.drop 7) (.seq (jQ EV (jX 25 0)) (.seq (.block 1 (jQ EW (jQ CQ (jD Fo (jQ BW (jQ BX (.reg BY))))))) (.reg EX)))
def Rz:IL:=[jb 83 2 3,jc 84 83,zi 85 94 5 84 5 (-1)]
def RD:IL:=[jb 86 1 5,jc 87 86,ja 4 87]
def WY:RC:=jQ EQ (jQ ER (.gho (.vecc 5 1 1100 3) (jQ ES (jQ ET (.seq (jQ EU (.block 0 (.loop EY))) (jQ Rz (jQ RD (.ret))))))))
def o56:List RR:=[.tmp 4]
theorem k56:CT 56 88 WY o56:=ck Tryz.func56 Tryz.ntmps56 (by decide +kernel)
abbrev QD7:IL:=[jg 4]
abbrev QD8:IL:=[jd 5 0]
abbrev QD9:IL:=[ja 6 5,ja 7 0,jl 8 1 7,js 9 6 8]
abbrev QEa:IL:=[ja 12 0,ja 13 5,jj 14 1 12 13,jc 15 14,ja 16 1,ym 17 15 16]
abbrev QEb:IL:=[jz 4]
abbrev QEc:IL:=[ja 10 5,jp 11 10 1,ja 5 11]
abbrev QEd:RC:=.seq (jQ QD9 (jX 9 0)) (.seq (.block 1 (jQ QEa (.cond (.t 17) (jQ QEb (.ret)) (.skip)))) (.reg QEc))
abbrev QEe:IL:=[jg 4]
abbrev r85:RC:=jQ QD7 (.seq (jQ QD8 (.block 0 (.loop QEd))) (jQ QEe (.ret)))
abbrev o85:List RR:=[.tmp 4]
theorem k85:CT 85 18 r85 o85:=ck Tryz.func85 Tryz.ntmps85 (by decide +kernel)
abbrev QEf:IL:=[jf 3 3 0,jf 4 4 1,jg 6]
abbrev QEg:IL:=[jd 7 0]
abbrev QEh:IL:=[ja 10 7,jb 11 1 4,jc 12 11,jl 13 1 12,js 14 10 13]
abbrev QEi:IL:=[jb 17 1 4,jc 18 17,ja 19 7,jj 20 16 18 19,je 21 16 20,DH 8 8,jh 16 8 21]
abbrev QEj:IL:=[jb 22 2 8,jc 23 22,ye 24 23 1,ja 25 24,ju 26 4 8 25,ju 27 0 26 25,ya 28 27 25,yx 29 28 10 25,jn 30 25 29]
abbrev QEk:IL:=[je 31 3 3,jb 32 4 8,jb 33 1 32,jc 34 33,jx 35 97 31 34,ja 9 35]
abbrev QEl:IL:=[ja 36 9,yo 37 36 0,ja 38 37,ji 39 2 38,ji 40 9 38,zd 41 1 39 40 38,jt 42 41 38,yw 43 42 38,jk 44 38 43]
abbrev QEm:IL:=[jz 6]
abbrev QEn:IL:=[ja 15 7,jp 16 15 1,ja 7 16]
abbrev QEo:RC:=.gho (.drop 8) (.seq (jQ QEh (jX 14 0)) (.seq (.block 1 (jQ QEi (.seq (jQ QEj (.cond (.t 30) (.exit 1) (.skip))) (jQ QEk (jQ QEl (.cond (.t 44) (jQ QEm (.ret)) (.skip))))))) (.reg QEn)))
abbrev QEp:IL:=[jg 6]
abbrev r86:RC:=jQ QEf (.seq (jQ QEg (.block 0 (.loop QEo))) (jQ QEp (.ret)))
abbrev o86:List RR:=[.tmp 6]
theorem k86:CT 86 45 r86 o86:=ck Tryz.func86 Tryz.ntmps86 (by decide +kernel)
abbrev QEq:IL:=[jg 2]
abbrev QEr:IL:=[ja 6 0,jv 7 120 6,jy 8 7]
abbrev QEs:IL:=[jg 2]
abbrev QEt:IL:=[jd 3 0]
abbrev QEu:IL:=[ja 9 3,yr 10 9 120,ja 11 10,ji 12 0 11,⟨some 13,.val (.bin .str .neq (.t 12) (.c (.str []))),(some (11,true))⟩,jk 14 11 13]
abbrev QEv:IL:=[ja 18 0,jv 19 121 18,ja 17 19,jo 20 17 0,jo 21 17 1,ja 4 20,ja 5 21]
abbrev QEw:IL:=[ja 22 5,jv 23 122 22]
abbrev QEx:IL:=[jg 2]
abbrev QEy:IL:=[ja 24 4,ja 0 24]
abbrev QEz:IL:=[ja 15 3,jp 16 15 1,ja 3 16]
abbrev QEA:RC:=.seq (jQ QEu (jX 14 0)) (.seq (.block 1 (jQ QEv (.seq (jQ QEw (.cond (.t 23) (jQ QEx (.ret)) (.skip))) (.reg QEy)))) (.reg QEz))
abbrev QuS:IL:=[jz 2]
abbrev r87:RC:=jQ QEq (.seq (jQ QEr (.cond (.t 8) (jQ QEs (.ret)) (.skip))) (.seq (jQ QEt (.block 0 (.loop QEA))) (jQ QuS (.ret))))
abbrev o87:List RR:=[.tmp 2]
theorem k87:CT 87 25 r87 o87:=ck Tryz.func87 Tryz.ntmps87 (by decide +kernel)
abbrev QEB:IL:=[jg 2]
abbrev QEC:IL:=[ja 3 0,jv 4 123 3,ja 5 4,ji 6 0 5,zm 7 122 6 5,yw 8 7 5,jk 9 5 8,ja 2 9]
abbrev r88:RC:=jQ QEB (jQ QEC (.ret))
abbrev o88:List RR:=[.tmp 2]
theorem k88:CT 88 10 r88 o88:=ck Tryz.func88 Tryz.ntmps88 (by decide +kernel)
abbrev QED:IL:=[jg 4]
abbrev QEE:IL:=[jd 5 0]
abbrev QEF:IL:=[ja 6 5,ja 7 0,jl 8 1 7,js 9 6 8]
abbrev QEG:IL:=[ja 12 0,ja 13 5,jj 14 2 12 13,jb 15 0 14,jc 16 15,ja 17 1,F6 18 16 17,ja 19 18,ji 20 1 19,ji 21 0 19,ji 22 5 19,zd 23 2 21 22 19,jm 24 1 23 19,jt 25 24 19,DJ 26 20 25 19,jk 27 19 26]
abbrev QEH:IL:=[jz 4]
abbrev QEI:IL:=[ja 10 5,jp 11 10 1,ja 5 11]
abbrev QEJ:RC:=.seq (jQ QEF (jX 9 0)) (.seq (.block 1 (jQ QEG (.cond (.t 27) (jQ QEH (.ret)) (.skip)))) (.reg QEI))
abbrev QEK:IL:=[jg 4]
abbrev r89:RC:=jQ QED (.seq (jQ QEE (.block 0 (.loop QEJ))) (jQ QEK (.ret)))
abbrev o89:List RR:=[.tmp 4]
theorem k89:CT 89 28 r89 o89:=ck Tryz.func89 Tryz.ntmps89 (by decide +kernel)
abbrev QEL:IL:=[jf 1 1 0,jg 2]
abbrev QEM:IL:=[jb 3 2 1,jc 4 3,ye 5 4 5]
abbrev QEN:IL:=[jb 6 2 1,jc 7 6,yo 8 7 1,ja 9 8,jm 10 2 1 9,jt 11 10 9,yz 12 11 4 9,jk 13 9 12,ja 14 13,jm 15 3 1 14,jt 16 15 14,yk 17 16 0 14,jk 18 14 17,ja 2 18]
abbrev QEO:IL:=[jb 19 3 1,jc 20 19]
abbrev QEP:IL:=[jr 22 20 1,ja 21 22]
abbrev QEQ:IL:=[jr 23 20 2,ja 21 23]
abbrev QER:IL:=[jr 24 20 3,ja 21 24]
abbrev QES:IL:=[jr 25 20 4,ja 21 25]
abbrev QET:IL:=[jr 26 20 5,ja 21 26]
abbrev QEU:IL:=[jr 27 20 7,ja 21 27]
abbrev QuT:IL:=[jz 2]
abbrev QuU:IL:=[jg 2]
abbrev r90:RC:=jQ QEL (.seq (jQ QEM (.cond (.t 5) (jQ QEN (.ret)) (.skip))) (.seq (jQ QEO (.block 0 (.seq (jQ QEP (.cond (.t 21) (.skip) (jQ QEQ (.cond (.t 21) (.skip) (jQ QER (.cond (.t 21) (.skip) (jQ QES (.cond (.t 21) (.skip) (jQ QET (.cond (.t 21) (.skip) (.reg QEU))))))))))) (.cond (.t 21) (jQ QuT (.ret)) (.skip))))) (jQ QuU (.ret))))
abbrev o90:List RR:=[.tmp 2]
theorem k90:CT 90 28 r90 o90:=ck Tryz.func90 Tryz.ntmps90 (by decide +kernel)
abbrev QEV:IL:=[jf 2 2 0,jf 3 3 1,jg 4]
abbrev QEW:IL:=[jb 5 4 3,jb 6 0 5,jc 7 6]
abbrev QEX:IL:=[jr 9 7 9,ja 8 9]
abbrev QEY:IL:=[je 10 3 2,jb 11 4 3,jb 12 1 11,jc 13 12,jx 14 124 10 13,yo 15 14 0,ja 4 15]
abbrev QEZ:IL:=[jr 17 7 10,ja 16 17]
abbrev QE0:IL:=[je 18 3 2,jb 19 4 3,jb 20 1 19,jc 21 20,jx 22 97 18 21,yo 23 22 0,ja 24 23,jm 25 2 3 24,jt 26 25 24,yu 27 26 3 24,jk 28 24 27,ja 4 28]
abbrev QE1:IL:=[jb 29 4 3,jb 30 0 29,jc 31 30,yo 32 31 1,ja 33 32,jm 34 4 3 33,jm 35 0 34 33,jt 36 35 33,yz 37 36 8 33,jk 38 33 37,ja 39 38,jm 40 4 3 39,jm 41 1 40 39,jt 42 41 39,⟨some 43,.val (.bin .str .eql (.t 42) (.c (.str []))),(some (39,true))⟩,jk 44 39 43,ja 4 44]
abbrev r91:RC:=jQ QEV (.seq (jQ QEW (.block 0 (jQ QEX (.cond (.t 8) (jQ QEY (.ret)) (jQ QEZ (.cond (.t 16) (jQ QE0 (.ret)) (.skip))))))) (jQ QE1 (.ret)))
abbrev o91:List RR:=[.tmp 4]
theorem Uh:CT 91 45 r91 o91:=ck Tryz.func91 Tryz.ntmps91 (by decide +kernel)
abbrev QE2:IL:=[jf 2 2 0,jg 4]
abbrev QE3:IL:=[jb 8 1 2,jc 9 8,ja 10 1,jj 11 16 9 10,je 12 16 11,DH 5 5,jh 16 5 12]
abbrev QE4:IL:=[jb 13 6 5,jc 14 13,MN 15 14]
abbrev QE5:IL:=[jz 4]
abbrev QE6:IL:=[jb 16 2 5,jc 17 16,ye 18 17 2,ja 19 18,ju 20 6 5 19,ya 21 20 19,yy 22 88 21 19,yj 23 22 19,jn 24 19 23]
abbrev QE7:IL:=[jg 4]
abbrev QE8:IL:=[jg 6]
abbrev QE9:IL:=[jd 7 0]
abbrev QFa:IL:=[ja 25 7,jb 26 1 2,jc 27 26,jl 28 1 27,js 29 25 28]
abbrev QuV:IL:=[jb 32 1 2,jw 33 0 2 32,ja 34 7,jj 35 16 33 34,jb 36 1 35,yp 37 36,jb 38 6 5,jw 39 0 5 38,ym 40 37 39]
abbrev QuW:IL:=[jg 4]
abbrev QuX:IL:=[ja 41 7,ja 42 1,js 43 41 42,ja 44 43,jm 45 1 2 44,zj 46 0 2 45 44,ji 47 7 44,zd 48 16 46 47 44,jm 49 6 48 44,zv 50 49 44,jm 51 6 5 44,zj 52 0 5 51 44,DK 53 50 52 44,jk 54 44 53]
abbrev QuY:IL:=[jz 6]
abbrev QFb:IL:=[ja 30 7,jp 31 30 1,ja 7 31]
abbrev QFc:RC:=.seq (jQ QFa (jX 29 0)) (.seq (.block 1 (.seq (jD QuV (.cond (.t 40) (jQ QuW (.ret)) (.skip))) (jD QuX (.cond (.t 54) (.reg QuY) (.skip))))) (.reg QFb))
abbrev QuZ:IL:=[ja 55 6,jy 56 55,ja 57 56,ju 58 1 2 57,yt 59 0 2 58 57,jq 60 1 57,F5 61 60 1 57,zh 62 16 59 61 57,ju 63 6 62 57,zo 64 63 57,ju 65 6 5 57,yt 66 0 5 65 57,⟨some 67,.val (.bin .str .eql (.t 64) (.t 66)),(some (57,false))⟩,jn 68 57 67,ja 4 68]
abbrev r92:RC:=jQ QE2 (jQ QE3 (.seq (jQ QE4 (.cond (.t 15) (jQ QE5 (.ret)) (.skip))) (.seq (jQ QE6 (.cond (.t 24) (jQ QE7 (.ret)) (.skip))) (jQ QE8 (.seq (jQ QE9 (.block 0 (.loop QFc))) (jD QuZ (.ret)))))))
abbrev o92:List RR:=[.tmp 4]
theorem k92:CT 92 69 r92 o92:=ck Tryz.func92 Tryz.ntmps92 (by decide +kernel)
abbrev QFd:IL:=[jf 2 2 0,jf 3 3 1,jg 4]
abbrev QFe:IL:=[jb 8 8 3,je 9 7 8,zk 5 5,jh 7 5 9]
abbrev QFf:IL:=[jb 10 7 3,jc 11 10,jy 12 11]
abbrev QFg:IL:=[je 13 7 5,zn 14,jx 15 125 13 14,ja 4 15]
abbrev QFh:IL:=[jb 16 2 3,jw 17 0 3 16,ye 18 17 2,ja 19 18,ju 20 6 3 19,yt 21 0 3 20 19,⟨some 22,.val (.bin .str .neq (.t 21) (.c (.str []))),(some (19,false))⟩,jn 23 19 22,ja 24 23,ju 25 4 3 24,ju 26 0 25 24,yt 27 0 3 26 24,zu 28 0 5 7 5 24,zl 29 126 27 28 24,yj 30 29 24,jn 31 24 30,ja 32 31,zu 33 0 5 7 5 32,zu 34 0 5 7 5 32,yy 35 127 34 32,zl 36 125 33 35 32,yj 37 36 32,jn 38 32 37]
abbrev QFi:IL:=[jg 4]
abbrev QFj:IL:=[je 39 3 2,jb 40 4 3,jb 41 1 40,jc 42 41,jx 43 124 39 42,ja 6 43]
abbrev QFk:IL:=[jb 44 4 3,jb 45 0 44,jc 46 45,ye 47 46 9]
abbrev QFl:IL:=[jz 4]
abbrev QFm:IL:=[ja 48 6,yr 49 48 0]
abbrev Qu0:IL:=[jg 4]
abbrev Qu1:IL:=[jd 7 0]
abbrev Qu2:IL:=[ja 50 7,jb 51 1 2,jc 52 51,ja 53 6,jj 54 5 52 53,jb 55 2 54,jc 56 55,jl 57 1 56,js 58 50 57]
abbrev Qu3:IL:=[jb 61 1 2,jw 62 0 2 61,ja 63 6,jj 64 5 62 63,jb 65 2 64,yp 66 65,ja 67 7,jj 68 3 66 67,jb 69 1 68,yp 70 69,UZ 71 70,jb 72 1 5,jw 73 0 5 72,zt 74 71 73]
abbrev Qu4:IL:=[jz 4]
abbrev Qu5:IL:=[ja 59 7,jp 60 59 1,ja 7 60]
abbrev QFn:RC:=.seq (jQ Qu2 (jX 58 0)) (.seq (.block 1 (jD Qu3 (.cond (.t 74) (jQ Qu4 (.ret)) (.skip)))) (.reg Qu5))
abbrev Qu6:IL:=[jg 4]
abbrev r93:RC:=jQ QFd (jQ QFe (.seq (jQ QFf (.cond (.t 12) (jQ QFg (.ret)) (.skip))) (.seq (jD QFh (.cond (.t 38) (jQ QFi (.ret)) (.skip))) (jQ QFj (.seq (jQ QFk (.cond (.t 47) (jQ QFl (.ret)) (.skip))) (.seq (jQ QFm (.cond (.t 49) (jQ Qu0 (.ret)) (.skip))) (.seq (jQ Qu1 (.block 0 (.loop QFn))) (jQ Qu6 (.ret)))))))))
abbrev o93:List RR:=[.tmp 4]
theorem k93:CT 93 75 r93 o93:=ck Tryz.func93 Tryz.ntmps93 (by decide +kernel)
abbrev QFo:IL:=[ja 9 1,ja 10 2,jx 11 128 9 10,ja 8 11]
abbrev QFp:IL:=[ja 12 0,ja 13 8,ye 14 13 0,ja 15 3,ja 16 8,⟨some 17,.callF (.f 50) [(.t 12),(.t 14),(.t 15),(.t 16)],none⟩]
abbrev r94:RC:=jQ QFo (.reg QFp)
abbrev o94:List RR:=[]
theorem k94:CT 94 18 r94 o94:=ck Tryz.func94 Tryz.ntmps94 (by decide +kernel)
def EZ:IL:=[jd 8 0]
def E0:IL:=[ja 9 8,ja 10 1,jl 11 1 10,js 12 9 11]
def CR:IL:=[ja 15 0,ja 16 1,ja 17 8,jj 18 2 16 17,jb 19 0 18,yp 20 19,ja 21 2,js 22 20 21,ja 23 22,jq 24 1 23,jq 25 8 23,zh 26 2 24 25 23,ju 27 1 26 23,zo 28 27 23,jq 29 3 23,DI 30 28 29 23,jn 31 23 30,ja 32 31,jq 33 1 32,jq 34 8 32,zh 35 2 33 34 32,ju 36 0 35 32,zo 37 36 32,jq 38 1 32,jq 39 8 32,zh 40 2 38 39 32,ju 41 1 40 32,zo 42 41 32,DI 43 37 42 32,jn 44 32 43,zi 45 50 15 44 (-1) 6]
def Fp:IL:=[ja 46 0,ja 47 8,zb 48 47 0,ja 49 48,ji 50 1 49,ji 51 8 49,zd 52 2 50 51 49,jm 53 0 52 49,zv 54 53 49,ji 55 1 49,ji 56 8 49,N9 57 56 1 49,zd 58 2 55 57 49,jm 59 1 58 49,zv 60 59 49,DJ 61 54 60 49,jk 62 49 61,zi 63 50 46 62 (-1) 11]
def E1:IL:=[ja 13 8,jp 14 13 1,ja 8 14]
def E2:RC:=.seq (jQ E0 (jX 12 0)) (.seq (.block 1 (jD CR (.draw Fp))) (.reg E1))
def r95:RC:=jQ EZ (.block 0 (.loop E2))
def o95:List RR:=[]
theorem k95:CT 95 64 r95 o95:=ck Tryz.func95 Tryz.ntmps95 (by decide +kernel)
abbrev QFq:IL:=[jf 2 2 0,jd 4 0]
abbrev QFr:IL:=[jd 5 0]
abbrev QFs:IL:=[ja 6 5,jb 7 0 2,jc 8 7,jl 9 1 8,js 10 6 9]
abbrev QFt:IL:=[jb 13 0 2,jc 14 13,ja 15 5,jj 16 5 14 15,jb 17 0 16,jc 18 17,ja 19 1,ym 20 18 19]
abbrev QFu:IL:=[ja 21 5,ja 4 21]
abbrev QFv:IL:=[ja 11 5,jp 12 11 1,ja 5 12]
abbrev QFw:RC:=.seq (jQ QFs (jX 10 0)) (.seq (.block 1 (jQ QFt (.cond (.t 20) (jQ QFu (.ret)) (.skip)))) (.reg QFv))
abbrev QFx:IL:=[jd 4 (-1)]
abbrev r97:RC:=jQ QFq (.seq (jQ QFr (.block 0 (.loop QFw))) (jQ QFx (.ret)))
abbrev o97:List RR:=[.tmp 4]
theorem k97:CT 97 22 r97 o97:=ck Tryz.func97 Tryz.ntmps97 (by decide +kernel)
def E3:IL:=[jf 1 1 0,ze 2 2]
def E4:IL:=[jb 9 0 1,jw 10 0 1 9,jb 11 1 1,jw 12 0 1 11,jb 13 3 1,jw 14 0 1 13,jv 15 103 14,⟨some 16,.val (.build [.str [],.bool false,.nils,.nils,.nils] [(0,1,(.t 10)),(1,1,(.t 12)),(3,1,(.t 15))]),none⟩,ze 3 3,yn 0 3 5 3 16]
def E5:IL:=[jb 17 2 1,jc 18 17,jl 19 1 18,jd 20 0]
def E6:IL:=[js 21 20 19]
def E7:IL:=[jj 22 3 18 20,je 23 3 22,Uc 5 5,jh 3 5 23]
def E8:IL:=[jb 24 0 5,jc 25 24,jb 26 1 5,jc 27 26,⟨some 28,.val (.build [.str [],.int .i64 0,.nils] [(0,1,(.t 25)),(1,1,(.t 27))]),none⟩,Uc 6 6,jh 3 6 28]
def E9:IL:=[jb 30 2 5,jc 31 30,⟨some 32,.call (.f 104) [(.t 31),(.c (.str [97,108,105,97,115]))],none⟩,ja 29 32,jo 33 29 0,jo 34 29 1,zk 7 7,jh 7 7 33,ja 8 34]
def CS:IL:=[ja 35 8]
def Ia:IL:=[je 36 7 7,⟨some 37,.val (.build [.str [],.int .i64 0,.int .u64 0,.str [],.nils,.nils,.nils,.nils] [(0,1,(.c (.str [97,108,105,97,115]))),(1,7,(.t 36))]),none⟩,⟨some 38,.bsl 8 1 [.str [],.int .i64 0,.int .u64 0,.str [],.nils,.nils,.nils,.nils] [(0,8,(.t 37))],none⟩,jb 39 2 6,jh 1 39 38]
def CU:IL:=[jb 40 2 3,jc 41 40,je 42 3 6,⟨some 43,.bsl 3 1 [.str [],.int .i64 0,.nils] [(0,3,(.t 42))],none⟩,yd 44 3 48 106 41 43,jb 45 2 3,jh 1 45 44]
def BZ:IL:=[jp 46 20 1,ja 20 46]
def QFy:RC:=.gho (.drop 7) (.gho (.drop 6) (.gho (.drop 5) (jQ E6 (.seq (jX 21 0) (.seq (.block 1 (jQ E7 (jQ E8 (.seq (jQ E9 (jQ CS (.cond (.t 35) (.reg Ia) (.skip)))) (.reg CU))))) (.reg BZ))))))
def RE:IL:=[je 47 5 3,jh 5 2 47]
def r59:RC:=jQ E3 (jD E4 (.gho (.vecc 3 2 1100 3) (.seq (jQ E5 (.block 0 (.loop QFy))) (jQ RE (.ret)))))
def o59:List RR:=[.cell 2 (some 5)]
theorem k59:CT 59 48 r59 o59:=ck Tryz.func59 Tryz.ntmps59 (by decide +kernel)
abbrev Qu7:IL:=[jg 2]
abbrev Qu8:IL:=[ja 5 0,jl 6 0 5,zb 7 6 120]
abbrev Qu9:IL:=[jg 2]
abbrev Qva:IL:=[H9 3]
abbrev Qvb:IL:=[jd 4 0]
abbrev Qvc:IL:=[ja 8 4,ja 9 0,jl 10 0 9,js 11 8 10]
abbrev Qvd:IL:=[ja 14 0,ja 15 4,U1 16 14 15,⟨some 17,.val (.bin .num .neq (.t 16) (.c (.int .u8 46))),none⟩]
abbrev Qve:IL:=[ja 18 3,ja 19 0,ja 20 4,ja 21 4,jp 22 21 1,⟨some 23,.val (.slc none (.t 19) (some (.t 20)) (some (.t 22)) none),none⟩,⟨some 24,.val (.bin .str .add (.t 18) (.t 23)),none⟩,ja 3 24]
abbrev Qvf:IL:=[ja 25 3,jv 26 123 25,jy 27 26]
abbrev Qbx:IL:=[jg 2]
abbrev Qby:IL:=[H9 3]
abbrev Qvg:IL:=[ja 12 4,jp 13 12 1,ja 4 13]
abbrev Qvh:RC:=.seq (jQ Qvc (jX 11 0)) (.seq (.block 1 (.seq (jQ Qvd (.cond (.t 17) (jQ Qve (.exit 1)) (.skip))) (.seq (jQ Qvf (.cond (.t 27) (jQ Qbx (.ret)) (.skip))) (.reg Qby)))) (.reg Qvg))
abbrev Qbz:IL:=[ja 28 3,jv 29 123 28,ja 2 29]
abbrev QNc:RC:=jQ Qu7 (.seq (jQ Qu8 (.cond (.t 7) (jQ Qu9 (.ret)) (.skip))) (jQ Qva (.seq (jQ Qvb (.block 0 (.loop Qvh))) (jQ Qbz (.ret)))))
abbrev QNd:List RR:=[.tmp 2]
theorem QNe:CT 120 30 QNc QNd:=ck Tryz.func120 Tryz.ntmps120 (by decide +kernel)
abbrev Qvi:IL:=[H9 2,H9 3]
abbrev Qvj:IL:=[ja 5 0,jl 6 0 5,zx 7 6 1,ja 4 7]
abbrev Qvk:IL:=[ja 8 4,yo 9 8 0]
abbrev Qvl:IL:=[ja 12 0,ja 13 4,U1 14 12 13,MP 15 14 46]
abbrev Qvm:IL:=[ja 16 0,ja 17 4,⟨some 18,.val (.slc none (.t 16) none (some (.t 17)) none),none⟩,ja 19 0,ja 20 4,jp 21 20 1,N6 22 19 21,ja 2 18,ja 3 22]
abbrev Qvn:IL:=[ja 10 4,zx 11 10 1,ja 4 11]
abbrev Qvo:RC:=.seq (jQ Qvk (jX 9 0)) (.seq (.block 1 (jQ Qvl (.cond (.t 15) (jD Qvm (.ret)) (.skip)))) (.reg Qvn))
abbrev Qvp:IL:=[ja 23 0,H9 2,ja 3 23]
abbrev QNf:RC:=jQ Qvi (.seq (jQ Qvj (.block 0 (.loop Qvo))) (jQ Qvp (.ret)))
abbrev QNg:List RR:=[.tmp 2,.tmp 3]
theorem QNh:CT 121 24 QNf QNg:=ck Tryz.func121 Tryz.ntmps121 (by decide +kernel)
abbrev Qvq:IL:=[jg 2]
abbrev Qvr:IL:=[ja 3 0]
abbrev Qvs:IL:=[⟨some 5,.val (.bin .str .eql (.t 3) (.c (.str [109,101,115,115,97,103,101]))),none⟩,ja 4 5]
abbrev Qvt:IL:=[⟨some 6,.val (.bin .str .eql (.t 3) (.c (.str [101,110,117,109]))),none⟩,ja 4 6]
abbrev Qvu:IL:=[⟨some 7,.val (.bin .str .eql (.t 3) (.c (.str [115,101,114,118,105,99,101]))),none⟩,ja 4 7]
abbrev Qvv:IL:=[⟨some 8,.val (.bin .str .eql (.t 3) (.c (.str [117,110,105,111,110]))),none⟩,ja 4 8]
abbrev Qvw:IL:=[⟨some 9,.val (.bin .str .eql (.t 3) (.c (.str [109,97,112]))),none⟩,ja 4 9]
abbrev Qvx:IL:=[⟨some 10,.val (.bin .str .eql (.t 3) (.c (.str [108,105,115,116]))),none⟩,ja 4 10]
abbrev Qvy:IL:=[⟨some 11,.val (.bin .str .eql (.t 3) (.c (.str [114,101,113,117,105,114,101,100]))),none⟩,ja 4 11]
abbrev Qvz:IL:=[⟨some 12,.val (.bin .str .eql (.t 3) (.c (.str [111,112,116,105,111,110,97,108]))),none⟩,ja 4 12]
abbrev QbA:IL:=[⟨some 13,.val (.bin .str .eql (.t 3) (.c (.str [112,108,97,105,110]))),none⟩,ja 4 13]
abbrev QbB:IL:=[⟨some 14,.val (.bin .str .eql (.t 3) (.c (.str [100,101,102,97,117,108,116]))),none⟩,ja 4 14]
abbrev QbC:IL:=[⟨some 15,.val (.bin .str .eql (.t 3) (.c (.str [114,101,115,101,114,118,101,100]))),none⟩,ja 4 15]
abbrev QbD:IL:=[⟨some 16,.val (.bin .str .eql (.t 3) (.c (.str [105,109,112,111,114,116]))),none⟩,ja 4 16]
abbrev QbE:IL:=[⟨some 17,.val (.bin .str .eql (.t 3) (.c (.str [115,112,97,99,101]))),none⟩,ja 4 17]
abbrev QbF:IL:=[⟨some 18,.val (.bin .str .eql (.t 3) (.c (.str [114,112,99]))),none⟩,ja 4 18]
abbrev QbG:IL:=[⟨some 19,.val (.bin .str .eql (.t 3) (.c (.str [115,116,114,101,97,109]))),none⟩,ja 4 19]
abbrev QbH:IL:=[⟨some 20,.val (.bin .str .eql (.t 3) (.c (.str [114,101,116,117,114,110,115]))),none⟩,ja 4 20]
abbrev QbI:IL:=[⟨some 21,.val (.bin .str .eql (.t 3) (.c (.str [111,112,101,110]))),none⟩,ja 4 21]
abbrev QbJ:IL:=[⟨some 22,.val (.bin .str .eql (.t 3) (.c (.str [116,114,117,101]))),none⟩,ja 4 22]
abbrev QbK:IL:=[⟨some 23,.val (.bin .str .eql (.t 3) (.c (.str [102,97,108,115,101]))),none⟩,ja 4 23]
abbrev QbL:IL:=[⟨some 24,.val (.bin .str .eql (.t 3) (.c (.str [110,97,110]))),none⟩,ja 4 24]
abbrev QbM:IL:=[⟨some 25,.val (.bin .str .eql (.t 3) (.c (.str [105,110,102]))),none⟩,ja 4 25]
abbrev QbN:IL:=[jz 2]
abbrev QbO:IL:=[jg 2]
abbrev QNi:RC:=jQ Qvq (.seq (jQ Qvr (.block 0 (.seq (jQ Qvs (.cond (.t 4) (.skip) (jQ Qvt (.cond (.t 4) (.skip) (jQ Qvu (.cond (.t 4) (.skip) (jQ Qvv (.cond (.t 4) (.skip) (jQ Qvw (.cond (.t 4) (.skip) (jQ Qvx (.cond (.t 4) (.skip) (jQ Qvy (.cond (.t 4) (.skip) (jQ Qvz (.cond (.t 4) (.skip) (jQ QbA (.cond (.t 4) (.skip) (jQ QbB (.cond (.t 4) (.skip) (jQ QbC (.cond (.t 4) (.skip) (jQ QbD (.cond (.t 4) (.skip) (jQ QbE (.cond (.t 4) (.skip) (jQ QbF (.cond (.t 4) (.skip) (jQ QbG (.cond (.t 4) (.skip) (jQ QbH (.cond (.t 4) (.skip) (jQ QbI (.cond (.t 4) (.skip) (jQ QbJ (.cond (.t 4) (.skip) (jQ QbK (.cond (.t 4) (.skip) (jQ QbL (.cond (.t 4) (.skip) (.reg QbM))))))))))))))))))))))))))))))))))))))))) (.cond (.t 4) (jQ QbN (.ret)) (.skip))))) (jQ QbO (.ret)))
abbrev QNj:List RR:=[.tmp 2]
theorem QNk:CT 122 26 QNi QNj:=ck Tryz.func122 Tryz.ntmps122 (by decide +kernel)
abbrev QvA:IL:=[jg 2]
abbrev QvB:IL:=[ja 4 0,jl 5 0 4,jr 6 5 0,ja 7 6,jq 8 0 7,UY 9 0 8 7,YM 10 9 40 7,jn 11 7 10,ja 12 11,jq 13 0 12,⟨some 14,.val (.idx (.t 13) (.c (.int .i64 0))),(some (12,false))⟩,yy 15 152 14 12,yj 16 15 12,jq 17 16 12,ji 18 0 17,⟨some 19,.val (.idx (.t 18) (.c (.int .i64 0))),(some (17,true))⟩,zm 20 153 19 17,yw 21 20 17,zg 22 17 21 12,jn 23 12 22]
abbrev QvC:IL:=[jg 2]
abbrev QvD:IL:=[jd 3 1]
abbrev QvE:IL:=[ja 24 3,ja 25 0,jl 26 0 25,js 27 24 26]
abbrev QvF:IL:=[ja 30 0,ja 31 3,U1 32 30 31,jv 33 152 32,jy 34 33,ja 35 34,ji 36 0 35,ji 37 3 35,MQ 38 36 37 35,zm 39 153 38 35,yw 40 39 35,jk 41 35 40,ja 42 41,ji 43 0 42,ji 44 3 42,MQ 45 43 44 42,⟨some 46,.val (.bin .num .neq (.t 45) (.c (.int .u8 95))),(some (42,true))⟩,jk 47 42 46,ja 48 47,ji 49 0 48,ji 50 3 48,MQ 51 49 50 48,⟨some 52,.val (.bin .num .lss (.t 51) (.c (.int .u8 48))),(some (48,true))⟩,ji 53 52 48,jq 54 0 53,jq 55 3 53,⟨some 56,.val (.idx (.t 54) (.t 55)),(some (53,false))⟩,⟨some 57,.val (.bin .num .gtr (.t 56) (.c (.int .u8 57))),(some (53,false))⟩,F4 58 53 57 48,jk 59 48 58]
abbrev QvG:IL:=[jg 2]
abbrev QvH:IL:=[ja 28 3,jp 29 28 1,ja 3 29]
abbrev RF:RC:=.seq (jQ QvE (jX 27 0)) (.seq (.block 1 (jQ QvF (.cond (.t 59) (jQ QvG (.ret)) (.skip)))) (.reg QvH))
abbrev QvI:IL:=[jz 2]
abbrev QNl:RC:=jQ QvA (.seq (jQ QvB (.cond (.t 23) (jQ QvC (.ret)) (.skip))) (.seq (jQ QvD (.block 0 (.loop RF))) (jQ QvI (.ret))))
abbrev QNm:List RR:=[.tmp 2]
theorem QNn:CT 123 60 QNl QNm:=ck Tryz.func123 Tryz.ntmps123 (by decide +kernel)
abbrev QvJ:IL:=[jf 2 2 0,jd 4 0]
abbrev QvK:IL:=[jd 5 0]
abbrev QvL:IL:=[ja 6 5,jb 7 1 2,jc 8 7,jl 9 1 8,js 10 6 9]
abbrev QvM:IL:=[jb 13 1 2,jc 14 13,ja 15 5,jj 16 5 14 15,jb 17 0 16,jc 18 17,ja 19 1,ym 20 18 19]
abbrev QvN:IL:=[ja 21 5,ja 4 21]
abbrev QvO:IL:=[ja 11 5,jp 12 11 1,ja 5 12]
abbrev QvP:RC:=.seq (jQ QvL (jX 10 0)) (.seq (.block 1 (jQ QvM (.cond (.t 20) (jQ QvN (.ret)) (.skip)))) (.reg QvO))
abbrev QvQ:IL:=[jd 4 (-1)]
abbrev QNo:RC:=jQ QvJ (.seq (jQ QvK (.block 0 (.loop QvP))) (jQ QvQ (.ret)))
abbrev QNp:List RR:=[.tmp 4]
theorem QNq:CT 124 22 QNo QNp:=ck Tryz.func124 Tryz.ntmps124 (by decide +kernel)
abbrev QvR:IL:=[jf 2 2 0,jf 3 3 1,jg 4]
abbrev QvS:IL:=[jb 5 0 2,jc 6 5,jb 7 0 3,jc 8 7,zt 9 6 8,ja 10 9,jm 11 1 2 10,jt 12 11 10,jm 13 1 3 10,jt 14 13 10,Y9 15 12 14 10,jk 16 10 15,ja 17 16,jm 18 2 2 17,jt 19 18 17,jm 20 2 3 17,jt 21 20 17,DK 22 19 21 17,jk 23 17 22,ja 24 23,jm 25 3 2 24,jt 26 25 24,ys 27 1 26 24,jm 28 4 2 24,jt 29 28 24,ys 30 1 29 24,Uf 31 27 30 24,jm 32 5 2 24,jt 33 32 24,ys 34 1 33 24,Uf 35 31 34 24,jm 36 6 2 24,jt 37 36 24,ys 38 1 37 24,Uf 39 35 38 24,jm 40 3 3 24,jt 41 40 24,ys 42 1 41 24,Uf 43 39 42 24,jm 44 4 3 24,jt 45 44 24,ys 46 1 45 24,Uf 47 43 46 24,jm 48 5 3 24,jt 49 48 24,ys 50 1 49 24,Uf 51 47 50 24,jm 52 6 3 24,jt 53 52 24,ys 54 1 53 24,Uf 55 51 54 24,yk 56 55 0 24,jk 57 24 56,ja 4 57]
abbrev QNr:RC:=jQ QvR (jQ QvS (.ret))
abbrev QNs:List RR:=[.tmp 4]
theorem QNt:CT 125 58 QNr QNs:=ck Tryz.func125 Tryz.ntmps125 (by decide +kernel)
abbrev QvT:IL:=[jd 4 0]
abbrev QvU:IL:=[ja 6 0,jl 7 1 6,zb 8 7 8]
abbrev QvV:IL:=[jd 4 3]
abbrev QvW:IL:=[jd 5 0]
abbrev QvX:IL:=[ja 9 5,ja 10 0,jl 11 1 10,js 12 9 11]
abbrev QvY:IL:=[ja 15 0,ja 16 5,jj 17 8 15 16,jb 18 0 17,jc 19 18,jv 20 158 19,jr 21 20 0]
abbrev QvZ:IL:=[jd 4 8]
abbrev Qv0:IL:=[ja 22 0,ja 23 5,jj 24 8 22 23,jb 25 0 24,jc 26 25,ja 27 1,jx 28 159 26 27,jy 29 28]
abbrev Qv1:IL:=[jd 4 1]
abbrev QbP:IL:=[ja 30 0,ja 31 5,jj 32 8 30 31,je 33 8 32,jv 34 160 33,jy 35 34]
abbrev QbQ:IL:=[jd 4 12]
abbrev QbR:IL:=[ja 36 5,zb 37 36 0,ja 38 37,ji 39 0 38,ji 40 5 38,zd 41 8 39 40 38,jm 42 0 41 38,zv 43 42 38,ji 44 0 38,ji 45 5 38,N9 46 45 1 38,zd 47 8 44 46 38,jm 48 0 47 38,zv 49 48 38,⟨some 50,.val (.bin .str .lss (.t 43) (.t 49)),(some (38,true))⟩,jk 51 38 50]
abbrev QbS:IL:=[jd 4 11]
abbrev QbT:IL:=[ja 52 5,zb 53 52 0,ja 54 53,ji 55 0 54,ji 56 5 54,zd 57 8 55 56 54,jm 58 0 57 54,zv 59 58 54,ji 60 0 54,ji 61 5 54,N9 62 61 1 54,zd 63 8 60 62 54,jm 64 0 63 54,zv 65 64 54,DK 66 59 65 54,jk 67 54 66]
abbrev QbU:IL:=[jd 4 9]
abbrev Qv2:IL:=[ja 13 5,jp 14 13 1,ja 5 14]
abbrev Qv3:RC:=.seq (jQ QvX (jX 12 0)) (.seq (.block 1 (.seq (jQ QvY (.cond (.t 21) (jQ QvZ (.ret)) (.skip))) (.seq (jQ Qv0 (.cond (.t 29) (jQ Qv1 (.ret)) (.skip))) (.seq (jQ QbP (.cond (.t 35) (jQ QbQ (.ret)) (.skip))) (.seq (jD QbR (.cond (.t 51) (jQ QbS (.ret)) (.skip))) (jD QbT (.cond (.t 67) (jQ QbU (.ret)) (.skip)))))))) (.reg Qv2))
abbrev QbV:IL:=[jd 4 0]
abbrev QNu:RC:=jQ QvT (.seq (jQ QvU (.cond (.t 8) (jQ QvV (.ret)) (.skip))) (.seq (jQ QvW (.block 0 (.loop Qv3))) (jQ QbV (.ret))))
abbrev QNv:List RR:=[.tmp 4]
theorem QNw:CT 128 68 QNu QNv:=ck Tryz.func128 Tryz.ntmps128 (by decide +kernel)
abbrev Qv4:IL:=[yf 2]
abbrev Qv5:IL:=[ja 3 0,⟨some 4,.isnil false (.t 3),none⟩]
abbrev Qv6:IL:=[yf 2]
abbrev Qv7:IL:=[⟨some 5,.bsl0 5 2,none⟩,ja 6 0,yd 7 2 16 171 5 6,ja 2 7]
abbrev QNx:RC:=jQ Qv4 (.seq (jQ Qv5 (.cond (.t 4) (jQ Qv6 (.gho (.vec 2 2 2) (.ret))) (.skip))) (jQ Qv7 (.ret)))
abbrev QNy:List RR:=[.tmp 2]
theorem QNz:CT 103 8 QNx QNy:=ck Tryz.func103 Tryz.ntmps103 (by decide +kernel)
abbrev Qv8:IL:=[jg 2]
abbrev Qv9:IL:=[ja 3 0,N7 4 3 97,ja 5 4,ji 6 0 5,MO 7 6 122 5,jk 8 5 7,ja 2 8]
abbrev QNA:RC:=jQ Qv8 (jQ Qv9 (.ret))
abbrev QNB:List RR:=[.tmp 2]
theorem QNC:CT 152 9 QNA QNB:=ck Tryz.func152 Tryz.ntmps152 (by decide +kernel)
abbrev Qwa:IL:=[jg 2]
abbrev Qwb:IL:=[ja 3 0,N7 4 3 65,ja 5 4,ji 6 0 5,MO 7 6 90 5,jk 8 5 7,ja 2 8]
abbrev QND:RC:=jQ Qwa (jQ Qwb (.ret))
abbrev QNE:List RR:=[.tmp 2]
theorem QNF:CT 153 9 QND QNE:=ck Tryz.func153 Tryz.ntmps153 (by decide +kernel)
abbrev Qwc:IL:=[jd 2 0]
abbrev Qwd:IL:=[ja 3 0]
abbrev Qwe:IL:=[⟨some 5,.val (.bin .str .eql (.t 3) (.c (.str [100,101,112,114,101,99,97,116,101,100]))),none⟩,ja 4 5]
abbrev Qwf:IL:=[⟨some 6,.val (.bin .str .eql (.t 3) (.c (.str [115,101,99,114,101,116]))),none⟩,ja 4 6]
abbrev Qwg:IL:=[⟨some 7,.val (.bin .str .eql (.t 3) (.c (.str [105,100,101,109,112,111,116,101,110,116]))),none⟩,ja 4 7]
abbrev Qwh:IL:=[jd 2 1]
abbrev Qwi:IL:=[⟨some 9,.val (.bin .str .eql (.t 3) (.c (.str [100,111,99]))),none⟩,ja 8 9]
abbrev Qwj:IL:=[⟨some 10,.val (.bin .str .eql (.t 3) (.c (.str [97,108,105,97,115]))),none⟩,ja 8 10]
abbrev Qwk:IL:=[⟨some 11,.val (.bin .str .eql (.t 3) (.c (.str [114,111,117,116,101]))),none⟩,ja 8 11]
abbrev Qwl:IL:=[⟨some 12,.val (.bin .str .eql (.t 3) (.c (.str [111,119,110,101,114]))),none⟩,ja 8 12]
abbrev QbW:IL:=[jd 2 7]
abbrev QbX:IL:=[⟨some 14,.val (.bin .str .eql (.t 3) (.c (.str [115,105,110,99,101]))),none⟩,ja 13 14]
abbrev QbY:IL:=[⟨some 15,.val (.bin .str .eql (.t 3) (.c (.str [117,110,116,105,108]))),none⟩,ja 13 15]
abbrev QbZ:IL:=[⟨some 16,.val (.bin .str .eql (.t 3) (.c (.str [108,101,110,103,116,104]))),none⟩,ja 13 16]
abbrev Qb0:IL:=[⟨some 17,.val (.bin .str .eql (.t 3) (.c (.str [116,105,109,101,111,117,116]))),none⟩,ja 13 17]
abbrev Qb1:IL:=[jd 2 4]
abbrev Qb2:IL:=[⟨some 19,.val (.bin .str .eql (.t 3) (.c (.str [109,105,110]))),none⟩,ja 18 19]
abbrev Qb3:IL:=[⟨some 20,.val (.bin .str .eql (.t 3) (.c (.str [109,97,120]))),none⟩,ja 18 20]
abbrev Qb4:IL:=[jd 2 3]
abbrev Qb5:IL:=[jd 2 0]
abbrev Qwm:RC:=jQ Qwc (.seq (jQ Qwd (.block 0 (.seq (jQ Qwe (.cond (.t 4) (.skip) (jQ Qwf (.cond (.t 4) (.skip) (.reg Qwg))))) (.cond (.t 4) (jQ Qwh (.ret)) (.seq (jQ Qwi (.cond (.t 8) (.skip) (jQ Qwj (.cond (.t 8) (.skip) (jQ Qwk (.cond (.t 8) (.skip) (.reg Qwl))))))) (.cond (.t 8) (jQ QbW (.ret)) (.seq (jQ QbX (.cond (.t 13) (.skip) (jQ QbY (.cond (.t 13) (.skip) (jQ QbZ (.cond (.t 13) (.skip) (.reg Qb0))))))) (.cond (.t 13) (jQ Qb1 (.ret)) (.seq (jQ Qb2 (.cond (.t 18) (.skip) (.reg Qb3))) (.cond (.t 18) (jQ Qb4 (.ret)) (.skip))))))))))) (jQ Qb5 (.ret)))
abbrev Qwn:List RR:=[.tmp 2]
theorem Qwo:CT 158 21 Qwm Qwn:=ck Tryz.func158 Tryz.ntmps158 (by decide +kernel)
abbrev Qwp:IL:=[jg 4]
abbrev Qwq:IL:=[ja 5 0]
abbrev Qwr:IL:=[⟨some 7,.val (.bin .str .eql (.t 5) (.c (.str [100,101,112,114,101,99,97,116,101,100]))),none⟩,ja 6 7]
abbrev Qws:IL:=[⟨some 8,.val (.bin .str .eql (.t 5) (.c (.str [100,111,99]))),none⟩,ja 6 8]
abbrev Qwt:IL:=[ja 9 1,yo 10 9 1,ja 11 10,ji 12 1 11,yz 13 12 6 11,jk 14 11 13,ja 4 14]
abbrev Qwu:IL:=[⟨some 16,.val (.bin .str .eql (.t 5) (.c (.str [97,108,105,97,115]))),none⟩,ja 15 16]
abbrev Qwv:IL:=[⟨some 17,.val (.bin .str .eql (.t 5) (.c (.str [115,105,110,99,101]))),none⟩,ja 15 17]
abbrev Qww:IL:=[⟨some 18,.val (.bin .str .eql (.t 5) (.c (.str [117,110,116,105,108]))),none⟩,ja 15 18]
abbrev Qwx:IL:=[ja 19 1,jr 20 19 2,ja 21 20,jq 22 1 21,yi 23 22 4 21,jn 24 21 23,ja 25 24,jq 26 1 25,yi 27 26 6 25,jn 28 25 27,ja 4 28]
abbrev Qwy:IL:=[⟨some 30,.val (.bin .str .eql (.t 5) (.c (.str [109,105,110]))),none⟩,ja 29 30]
abbrev Qb6:IL:=[⟨some 31,.val (.bin .str .eql (.t 5) (.c (.str [109,97,120]))),none⟩,ja 29 31]
abbrev Qb7:IL:=[⟨some 32,.val (.bin .str .eql (.t 5) (.c (.str [108,101,110,103,116,104]))),none⟩,ja 29 32]
abbrev Qb8:IL:=[⟨some 33,.val (.bin .str .eql (.t 5) (.c (.str [115,101,99,114,101,116]))),none⟩,ja 29 33]
abbrev Qb9:IL:=[ja 34 1,jr 35 34 2,ja 4 35]
abbrev Qca:IL:=[⟨some 37,.val (.bin .str .eql (.t 5) (.c (.str [105,100,101,109,112,111,116,101,110,116]))),none⟩,ja 36 37]
abbrev Qcb:IL:=[⟨some 38,.val (.bin .str .eql (.t 5) (.c (.str [116,105,109,101,111,117,116]))),none⟩,ja 36 38]
abbrev Qcc:IL:=[⟨some 39,.val (.bin .str .eql (.t 5) (.c (.str [114,111,117,116,101]))),none⟩,ja 36 39]
abbrev Qcd:IL:=[ja 40 1,jr 41 40 6,ja 4 41]
abbrev Qce:IL:=[ja 42 1,jr 43 42 1,ja 44 43,jq 45 1 44,yi 46 45 5 44,jn 47 44 46,ja 4 47]
abbrev Qwz:RC:=jQ Qwp (.seq (jQ Qwq (.block 0 (.seq (jQ Qwr (.cond (.t 6) (.skip) (.reg Qws))) (.cond (.t 6) (jQ Qwt (.ret)) (.seq (jQ Qwu (.cond (.t 15) (.skip) (jQ Qwv (.cond (.t 15) (.skip) (.reg Qww))))) (.cond (.t 15) (jQ Qwx (.ret)) (.seq (jQ Qwy (.cond (.t 29) (.skip) (jQ Qb6 (.cond (.t 29) (.skip) (jQ Qb7 (.cond (.t 29) (.skip) (.reg Qb8))))))) (.cond (.t 29) (jQ Qb9 (.ret)) (.seq (jQ Qca (.cond (.t 36) (.skip) (jQ Qcb (.cond (.t 36) (.skip) (.reg Qcc))))) (.cond (.t 36) (jQ Qcd (.ret)) (.skip))))))))))) (jQ Qce (.ret)))
abbrev QwA:List RR:=[.tmp 4]
theorem QNG:CT 159 48 Qwz QwA:=ck Tryz.func159 Tryz.ntmps159 (by decide +kernel)
abbrev QwB:IL:=[jf 1 1 0,jg 2]
abbrev QwC:IL:=[jb 4 0 1,jc 5 4,jv 6 158 5,ja 3 6]
abbrev QwD:IL:=[ja 7 3,ye 8 7 0,ja 9 8,jm 10 1 1 9,jm 11 0 10 9,jt 12 11 9,ji 13 3 9,Y9 14 12 13 9,jk 15 9 14,ja 16 15,ji 17 3 16,jm 18 1 1 16,zy 19 7 18 16,Ue 20 126 17 19 16,jk 21 16 20,ja 2 21]
abbrev QNH:RC:=jQ QwB (jQ QwC (jQ QwD (.ret)))
abbrev QNI:List RR:=[.tmp 2]
theorem QNJ:CT 160 22 QNH QNI:=ck Tryz.func160 Tryz.ntmps160 (by decide +kernel)
def RG:IL:=[jf 1 1 0,yf 2]
def RH:IL:=[jb 6 0 1,jc 7 6,⟨some 8,.val (.build [.str [],.int .i64 0,.nils] [(0,1,(.t 7)),(1,1,(.c (.int .i64 (-1))))]),none⟩,jf 9 9 8,ja 3 9]
def RI:IL:=[ja 10 3,jb 11 0 1,jc 12 11,jv 13 167 12,yg 14 131 10 13 8]
def B0:IL:=[ja 15 3,jb 16 2 1,jc 17 16,jl 18 1 17,yo 19 18 1,ja 20 19,jm 21 2 1 20,jt 22 21 20,ys 23 1 22 20,yz 24 23 64 20,jk 25 20 24,ja 26 25,jm 27 3 1 26,jt 28 27 26,ys 29 1 28 26,yz 30 29 16 26,jk 31 26 30,yg 32 131 15 31 3]
def B1:IL:=[ja 33 3,jb 34 2 1,jc 35 34,jl 36 1 35,jr 37 36 0,ja 38 37,ju 39 2 1 38,ya 40 39 38,⟨some 41,.val (.iaddr 3 none (.t 40) (.c (.int .i64 0))),(some (38,false))⟩,ju 42 1 41 38,ya 43 42 38,yi 44 43 0 38,jn 45 38 44,yg 46 131 33 45 14]
def RJ:IL:=[jb 47 2 1,jc 48 47,jl 49 1 48,jd 50 0]
def RK:IL:=[js 51 50 49]
def RL:IL:=[ja 52 50,jj 53 3 48 50,je 54 3 53,Uc 5 5,ja 4 52,jh 3 5 54]
def RM:IL:=[ja 55 3,jb 56 1 5,jc 57 56,za 58 55,jb 59 1 58,jh 1 59 57]
def B2:IL:=[ja 60 3,jb 61 1 5,jc 62 61,yo 63 62 0,ja 64 63,jm 65 1 5 64,jt 66 65 64,yz 67 66 2147483647 64,jk 68 64 67,yg 69 131 60 68 6]
def UD:IL:=[ja 70 3,ja 71 4,jr 72 71 0,ja 73 72,ju 74 1 5 73,yt 75 0 5 74 73,ju 76 2 1 73,yt 77 0 1 76 73,jq 78 4 73,F5 79 78 1 73,zh 80 3 77 79 73,ju 81 1 80 73,zo 82 81 73,DI 83 75 82 73,jn 84 73 83,yg 85 131 70 84 11]
def GX:IL:=[ja 86 3,jb 87 0 5,jc 88 87,jv 89 173 88,yg 90 131 86 89 8]
def GY:IL:=[ja 91 3,jb 92 2 1,jc 93 92,ja 94 4,⟨some 95,.callF (.f 174) [(.t 93),(.t 94),(.f 175)],none⟩,jy 96 95,yg 97 131 91 96 9]
def GZ:IL:=[ja 98 3,jb 99 3 1,jc 100 99,jb 101 1 5,jc 102 101,jx 103 176 100 102,jy 104 103,yg 105 131 98 104 21]
def G0:IL:=[ja 106 3,jb 107 2 5,jc 108 107,yg 109 171 106 108 4]
def Vw:IL:=[jp 110 50 1,ja 50 110]
def RN:RC:=.gho (.drop 5) (jQ RK (.seq (jX 51 0) (.seq (.block 1 (jQ RL (jQ RM (jQ B2 (jD UD (jQ GX (jQ GY (jQ GZ (.reg G0))))))))) (.reg Vw))))
def Vx:IL:=[ja 111 3,za 112 111,jb 113 1 112,⟨none,.store 1 (.t 113) (.c (.int .i64 (-1))),none⟩]
def Vy:IL:=[ja 114 3,jb 115 3 1,jc 116 115,zi 117 169 114 116 0 2147483647]
def Vz:IL:=[ja 118 3,jb 119 4 1,jc 120 119,yg 121 171 118 120 3]
def VA:IL:=[ja 122 3,za 123 122,jb 124 2 123,jc 125 124,ja 2 125]
def QwE:RC:=jQ RG (jQ RH (.gho (.vecc 9 2 1100 3) (jQ RI (jQ B0 (jQ B1 (.seq (jQ RJ (.block 0 (.loop RN))) (jQ Vx (jQ Vy (jQ Vz (jQ VA (.ret)))))))))))
def QwF:List RR:=[.tmp 2]
theorem QNK:CT 136 126 QwE QwF:=ck Tryz.func136 Tryz.ntmps136 (by decide +kernel)
abbrev QwG:IL:=[jf 3 3 0,jf 4 4 1,jf 5 5 2,jg 6]
abbrev QwH:IL:=[jc 7 3,jc 8 4,MJ 9 3 7 8,⟨some 10,.val (.mkfn (.func 212) [] [(.t 5),(.t 3),(.t 4)]),none⟩,zf 11 211 9 10,ja 6 11]
abbrev QNL:RC:=jQ QwG (jQ QwH (.ret))
abbrev QNM:List RR:=[.tmp 6]
theorem QNN:CT 174 12 QNL QNM:=ck Tryz.func174 Tryz.ntmps174 (by decide +kernel)
abbrev QwI:IL:=[jf 1 1 0,H9 2]
abbrev QwJ:IL:=[jb 3 0 1,jc 4 3,ja 2 4]
abbrev QNO:RC:=jQ QwI (jQ QwJ (.ret))
abbrev QNP:List RR:=[.tmp 2]
theorem QNQ:CT 175 5 QNO QNP:=ck Tryz.func175 Tryz.ntmps175 (by decide +kernel)
abbrev QwK:IL:=[jf 4 4 0,jg 5]
abbrev QwL:IL:=[jc 6 1,yc 7 0 4 3 4,⟨some 8,.call (.t 6) [(.t 7)],none⟩,jc 9 1,jc 10 2,jc 11 3,jj 12 3 10 11,yq 13 3 12,⟨some 14,.call (.t 9) [(.t 13)],none⟩,ym 15 8 14,ja 5 15]
abbrev QNR:RC:=jQ QwK (jD QwL (.ret))
abbrev QNS:List RR:=[.tmp 5]
theorem QNT:CT 212 16 QNR QNS:=ck Tryz.func212 Tryz.ntmps212 (by decide +kernel)
abbrev QwM:IL:=[jf 4 4 0,jg 5]
abbrev QwN:IL:=[jc 6 1,yc 7 0 4 16 4,⟨some 8,.call (.t 6) [(.t 7)],none⟩,jc 9 1,jc 10 2,jc 11 3,jj 12 16 10 11,yq 13 16 12,⟨some 14,.call (.t 9) [(.t 13)],none⟩,ym 15 8 14,ja 5 15]
abbrev QNU:RC:=jQ QwM (jD QwN (.ret))
abbrev QNV:List RR:=[.tmp 5]
theorem QNW:CT 223 16 QNU QNV:=ck Tryz.func223 Tryz.ntmps223 (by decide +kernel)
abbrev QFz:IL:=[jf 4 4 0,jf 5 5 1,jg 8]
abbrev QFA:IL:=[je 9 3 4,je 10 3 5,ja 11 2,ja 12 3,zq 13 11 9 10 11 12,jl 14 1 13,jr 15 14 0,ja 8 15]
abbrev r13:RC:=jQ QFz (jQ QFA (.ret))
abbrev o13:List RR:=[.tmp 8]
theorem k13:CT 13 16 r13 o13:=ck Tryz.func13 Tryz.ntmps13 (by decide +kernel)
abbrev QFB:IL:=[jf 4 4 0,jf 5 5 1,yf 8]
abbrev QFC:IL:=[ja 21 3,ye 22 21 1,ja 23 22,ji 24 3 23,yu 25 24 2 23,jk 26 23 25,ja 27 26,ji 28 3 27,yu 29 28 4 27,jk 30 27 29]
abbrev QFD:IL:=[ja 31 2,⟨some 32,.val (.build [.str [],.int .i64 0,.int .i64 0,.nils] [(0,1,(.t 31)),(1,1,(.c (.int .i64 (-1)))),(2,1,(.c (.int .i64 1)))]),none⟩,UX 33 4 1 0 4 32,ja 8 33]
abbrev QFE:IL:=[je 35 3 4,jv 36 21 35,ja 34 36,jo 37 34 0,jo 38 34 1,N3 9 9,jh 2 9 37,ja 10 38]
abbrev QFF:IL:=[je 40 3 5,jv 41 21 40,ja 39 41,jo 42 39 0,jo 43 39 1,N3 11 11,jh 2 11 42,ja 12 43]
abbrev QFG:IL:=[je 45 2 9,ja 46 2,jx 47 22 45 46,ja 44 47,jo 48 44 0,jo 49 44 1,ja 13 48,ja 14 49]
abbrev QFH:IL:=[je 51 2 11,ja 52 2,jx 53 22 51 52,ja 50 53,jo 54 50 0,jo 55 50 1,ja 15 54,ja 16 55]
abbrev QFI:IL:=[ja 56 14,jy 57 56,ja 58 57,jq 59 16 58,yj 60 59 58,jn 61 58 60]
abbrev QFJ:IL:=[ja 62 2,⟨some 63,.val (.build [.str [],.int .i64 0,.int .i64 0,.nils] [(0,1,(.t 62)),(1,1,(.c (.int .i64 (-1)))),(2,1,(.c (.int .i64 10)))]),none⟩,UX 64 4 1 0 4 63,ja 8 64]
abbrev QFK:IL:=[je 65 2 9,je 66 2 11,ja 67 3,⟨some 68,.val (.build [.nils,.nils,.nils,.nils,.int .i64 0] [(0,2,(.t 65)),(2,2,(.t 66)),(4,1,(.t 67))]),none⟩,MI 17 17,jh 5 17 68]
abbrev QwO:IL:=[je 69 5 17,ja 70 13,ja 71 15,yb 72 23 69 70 71,ja 18 72]
abbrev QwP:IL:=[yf 19]
abbrev QwQ:IL:=[jd 20 0]
abbrev QwR:IL:=[ja 73 20,ja 74 18,jl 75 1 74,js 76 73 75]
abbrev QwS:IL:=[ja 79 19,yc 80 0 17 5 17,ja 81 18,ja 82 20,jj 83 4 81 82,yq 84 4 83,jx 85 24 80 84,yd 86 4 56 32 79 85,ja 19 86]
abbrev QwT:IL:=[ja 77 20,jp 78 77 1,ja 20 78]
abbrev QFL:RC:=.seq (jQ QwR (jX 76 0)) (.seq (.block 1 (.draw QwS)) (.reg QwT))
abbrev QwU:IL:=[ja 87 19,ja 8 87]
abbrev r11:RC:=jQ QFB (.seq (jQ QFC (.cond (.t 30) (jQ QFD (.ret)) (.skip))) (jQ QFE (jQ QFF (jQ QFG (jQ QFH (.seq (jQ QFI (.cond (.t 61) (jQ QFJ (.ret)) (.skip))) (jQ QFK (jQ QwO (jQ QwP (.gho (.vec 19 19 4) (.seq (jQ QwQ (.block 0 (.loop QFL))) (jQ QwU (.ret)))))))))))))
abbrev o11:List RR:=[.tmp 8]
theorem k11:CT 11 88 r11 o11:=ck Tryz.func11 Tryz.ntmps11 (by decide +kernel)
abbrev QFM:IL:=[jf 2 2 0,jf 3 3 1,yf 4]
abbrev QFN:IL:=[yf 5]
abbrev QFO:IL:=[jb 17 2 2,jb 18 0 17,jc 19 18,jb 20 1 3,jc 21 20,jj 22 3 19 21,jb 23 0 22,jc 24 23,ja 6 24]
abbrev QFP:IL:=[jb 25 0 2,jb 26 0 25,jc 27 26,jb 28 0 3,jc 29 28,jj 30 3 27 29,jb 31 1 30,jc 32 31,ja 7 32]
abbrev QFQ:IL:=[jd 8 0]
abbrev QFR:IL:=[ja 33 8,ja 34 7,jl 35 1 34,js 36 33 35]
abbrev QFS:IL:=[ja 39 7,ja 40 8,jj 41 8 39 40,je 42 8 41,yh 9 9,jh 8 9 42]
abbrev QFT:IL:=[je 43 5 2,je 44 8 9,jx 45 42 43 44,jy 46 45]
abbrev QFU:IL:=[je 48 5 2,jb 49 1 3,jc 50 49,je 51 8 9,yb 52 41 48 50 51,ja 47 52,jo 53 47 0,jo 54 47 1,yh 10 10,jh 8 10 53,ja 11 54]
abbrev QwV:IL:=[ja 55 11,jy 56 55]
abbrev QwW:IL:=[jb 57 4 2,jc 58 57,jr 59 58 4]
abbrev QwX:IL:=[ja 60 5,ja 61 6,jb 62 0 9,jc 63 62,jb 64 2 3,jc 65 64,⟨some 66,.val (.build [.str [],.int .i64 0,.int .i64 0,.nils] [(0,1,(.t 61)),(1,1,(.t 63)),(2,1,(.c (.int .i64 8))),(3,1,(.t 65))]),none⟩,UX 67 4 1 0 4 66,yd 68 4 56 32 60 67,ja 5 68]
abbrev QwY:IL:=[je 69 5 2,je 70 8 9,je 71 8 10,yb 72 46 69 70 71,ja 12 72]
abbrev QwZ:IL:=[ja 73 12,ye 74 73 0]
abbrev Qw0:IL:=[ja 75 5,ja 76 6,jb 77 0 9,jc 78 77,ja 79 12,jb 80 2 3,jc 81 80,⟨some 82,.val (.build [.str [],.int .i64 0,.int .i64 0,.nils] [(0,1,(.t 76)),(1,1,(.t 78)),(2,1,(.t 79)),(3,1,(.t 81))]),none⟩,UX 83 4 1 0 4 82,yd 84 4 56 32 75 83,ja 5 84]
abbrev Qw1:IL:=[je 86 5 2,jb 87 0 3,jc 88 87,jb 89 1 3,jc 90 89,ja 91 8,je 92 8 10,⟨some 93,.call (.f 47) [(.t 86),(.t 88),(.t 90),(.t 91),(.t 92),(.c (.bool false))],none⟩,ja 85 93,jo 94 85 0,jo 95 85 1,yh 13 13,jh 8 13 94,ja 14 95]
abbrev Qw2:IL:=[jb 96 4 2,jc 97 96,jr 98 97 4,ja 99 98,ji 100 14 99,jk 101 99 100,ja 102 101,jm 103 3 10 102,jt 104 103 102,yu 105 104 4 102,jk 106 102 105]
abbrev Qw3:IL:=[ja 107 5,ja 108 6,jb 109 0 9,jc 110 109,jb 111 2 3,jc 112 111,⟨some 113,.val (.build [.str [],.int .i64 0,.int .i64 0,.nils] [(0,1,(.t 108)),(1,1,(.t 110)),(2,1,(.c (.int .i64 9))),(3,1,(.t 112))]),none⟩,UX 114 4 1 0 4 113,yd 115 4 56 32 107 114,ja 5 115]
abbrev Qw4:IL:=[je 117 5 2,jb 118 0 3,jc 119 118,jb 120 1 3,jc 121 120,ja 122 8,je 123 8 10,⟨some 124,.call (.f 47) [(.t 117),(.t 119),(.t 121),(.t 122),(.t 123),(.c (.bool true))],none⟩,ja 116 124,jo 125 116 0,jo 126 116 1,ja 14 126]
abbrev Qw5:IL:=[jb 127 4 2,jc 128 127,ye 129 128 1,ja 130 129,ji 131 14 130,jk 132 130 131]
abbrev Qw6:IL:=[ja 133 5,ja 134 6,jb 135 0 9,jc 136 135,jb 137 2 3,jc 138 137,⟨some 139,.val (.build [.str [],.int .i64 0,.int .i64 0,.nils] [(0,1,(.t 134)),(1,1,(.t 136)),(2,1,(.c (.int .i64 15))),(3,1,(.t 138))]),none⟩,UX 140 4 1 0 4 139,yd 141 4 56 32 133 140,ja 5 141]
abbrev QFV:IL:=[ja 37 8,jp 38 37 1,ja 8 38]
abbrev QFW:RC:=.gho (.drop 13) (.gho (.drop 10) (.gho (.drop 9) (.seq (jQ QFR (jX 36 0)) (.seq (.block 1 (jQ QFS (.seq (jQ QFT (.cond (.t 46) (.exit 1) (.skip))) (jQ QFU (.seq (jQ QwV (.cond (.t 56) (.seq (jQ QwW (.cond (.t 59) (.reg QwX) (.skip))) (.exit 1)) (.skip))) (jQ QwY (.seq (jQ QwZ (.cond (.t 74) (.reg Qw0) (.skip))) (jQ Qw1 (.seq (jQ Qw2 (.cond (.t 106) (.reg Qw3) (.skip))) (jQ Qw4 (jQ Qw5 (.cond (.t 132) (.reg Qw6) (.skip))))))))))))) (.reg QFV)))))
abbrev Qw7:IL:=[jd 15 0]
abbrev Qw8:IL:=[ja 142 15,jb 143 2 2,jb 144 0 143,jc 145 144,jb 146 1 3,jc 147 146,jj 148 3 145 147,jb 149 1 148,jc 150 149,jl 151 1 150,js 152 142 151]
abbrev Qw9:IL:=[jb 155 2 2,jb 156 0 155,jc 157 156,jb 158 1 3,jc 159 158,jj 160 3 157 159,jb 161 1 160,jc 162 161,ja 163 15,jj 164 8 162 163,je 165 8 164,yh 16 16,jh 8 16 165]
abbrev Qxa:IL:=[jb 166 3 16,jc 167 166,jr 168 167 1,ja 169 168,jm 170 3 3 169,jt 171 170 169,yw 172 171 169,jk 173 169 172,ja 174 173,zy 175 5 2 174,jm 176 0 3 174,jt 177 176 174,jm 178 1 3 174,jt 179 178 174,zy 180 8 16 174,⟨some 181,.call (.f 48) [(.t 175),(.t 177),(.t 179),(.t 180)],(some (174,true))⟩,jk 182 174 181]
abbrev Qxb:IL:=[ja 183 5,ja 184 6,jb 185 0 16,jc 186 185,jb 187 2 3,jc 188 187,⟨some 189,.val (.build [.str [],.int .i64 0,.int .i64 0,.nils] [(0,1,(.t 184)),(1,1,(.t 186)),(2,1,(.c (.int .i64 14))),(3,1,(.t 188))]),none⟩,UX 190 4 1 0 4 189,yd 191 4 56 32 183 190,ja 5 191]
abbrev Qxc:IL:=[ja 153 15,jp 154 153 1,ja 15 154]
abbrev QFX:RC:=.gho (.drop 16) (.seq (jQ Qw8 (jX 152 2)) (.seq (.block 3 (jQ Qw9 (jQ Qxa (.cond (.t 182) (.reg Qxb) (.skip))))) (.reg Qxc)))
abbrev Qxd:IL:=[ja 192 5,ja 4 192]
abbrev r24:RC:=jQ QFM (jQ QFN (.gho (.vec 5 5 4) (jQ QFO (jQ QFP (.seq (jQ QFQ (.block 0 (.loop QFW))) (.seq (jQ Qw7 (.block 2 (.loop QFX))) (jQ Qxd (.ret))))))))
abbrev o24:List RR:=[.tmp 4]
theorem k24:CT 24 193 r24 o24:=ck Tryz.func24 Tryz.ntmps24 (by decide +kernel)
abbrev QFY:IL:=[jf 4 4 0,jf 7 7 3,jg 8]
abbrev QFZ:IL:=[je 14 5 4,ja 15 1,ja 16 2,je 17 8 7,zq 18 83 14 15 16 17,ja 13 18,jo 19 13 0,jo 20 13 1,yh 9 9,jh 8 9 19,ja 10 20]
abbrev QF0:IL:=[ja 21 10,jy 22 21]
abbrev QF1:IL:=[jz 8]
abbrev QF2:IL:=[jb 23 4 4,jc 24 23,ye 25 24 1,ja 26 25,ju 27 5 7 26,ya 28 27 26,yx 29 28 9 26,jn 30 26 29,ja 31 30,ju 32 5 9 31,ya 33 32 31,yx 34 33 9 31,jq 35 34 31,jm 36 5 9 35,jt 37 36 35,yu 38 37 1 35,zg 39 35 38 31,jn 40 31 39]
abbrev QF3:IL:=[jg 8]
abbrev QF4:IL:=[je 42 5 4,je 43 8 9,je 44 8 7,yb 45 84 42 43 44,ja 41 45,jo 46 41 0,jo 47 41 1,ja 11 46,ja 12 47]
abbrev QF5:IL:=[ja 48 12,ja 8 48]
abbrev r48:RC:=jQ QFY (jQ QFZ (.seq (jQ QF0 (.cond (.t 22) (jQ QF1 (.ret)) (.skip))) (.seq (jQ QF2 (.cond (.t 40) (jQ QF3 (.ret)) (.skip))) (jQ QF4 (jQ QF5 (.ret))))))
abbrev o48:List RR:=[.tmp 8]
theorem k48:CT 48 49 r48 o48:=ck Tryz.func48 Tryz.ntmps48 (by decide +kernel)
abbrev QF6:IL:=[jf 3 3 0,jf 4 4 1,jf 5 5 2,yv 6 0,jg 7]
abbrev QF7:IL:=[jb 11 2 3,jb 12 1 11,jc 13 12,jb 14 6 5,jc 15 14,jj 16 5 13 15,je 17 5 16,ze 8 8,jh 5 8 17]
abbrev QF8:IL:=[jb 18 1 8,jc 19 18]
abbrev QF9:IL:=[yv 6 0,jg 7]
abbrev QGa:IL:=[jb 20 5 4,jc 21 20,jr 22 21 1]
abbrev QGb:IL:=[je 23 5 8,⟨some 24,.call (.f 118) [(.t 23),(.c (.int .u64 1))],none⟩,jy 25 24,yv 6 1,ja 7 25]
abbrev QGc:IL:=[jb 26 0 3,jb 27 1 26,jc 28 27,jb 29 6 4,jc 30 29,jj 31 5 28 30,je 32 5 31,ze 9 9,jh 5 9 32]
abbrev QGd:IL:=[jb 33 1 9,jc 34 33]
abbrev QGe:IL:=[je 35 5 8,jv 36 119 35,ja 6 36,jz 7]
abbrev QGf:IL:=[jd 10 0]
abbrev Qxe:IL:=[ja 37 10,jb 38 2 9,jc 39 38,jl 40 1 39,js 41 37 40]
abbrev Qxf:IL:=[yc 44 0 8 5 8,jb 45 2 9,jw 46 0 9 45,ja 47 10,jj 48 3 46 47,jb 49 1 48,yp 50 49,UZ 51 50,jx 52 118 44 51,jy 53 52]
abbrev Qxg:IL:=[jb 54 2 9,jc 55 54,ja 56 10,jj 57 3 55 56,jb 58 1 57,jc 59 58,UZ 60 59,ja 6 60,jz 7]
abbrev Qxh:IL:=[ja 42 10,jp 43 42 1,ja 10 43]
abbrev QGg:RC:=.seq (jQ Qxe (jX 41 0)) (.seq (.block 1 (jD Qxf (.cond (.t 53) (jQ Qxg (.ret)) (.skip)))) (.reg Qxh))
abbrev Qxi:IL:=[yv 6 0,jg 7]
abbrev r84:RC:=jQ QF6 (jQ QF7 (.seq (jQ QF8 (.cond (.t 19) (jQ QF9 (.ret)) (.skip))) (.seq (jQ QGa (.cond (.t 22) (jQ QGb (.ret)) (.skip))) (jQ QGc (.seq (jQ QGd (.cond (.t 34) (jQ QGe (.ret)) (.skip))) (.seq (jQ QGf (.block 0 (.loop QGg))) (jQ Qxi (.ret))))))))
abbrev o84:List RR:=[.tmp 6,.tmp 7]
theorem k84:CT 84 61 r84 o84:=ck Tryz.func84 Tryz.ntmps84 (by decide +kernel)
abbrev Qxj:IL:=[jf 2 2 0,jg 4]
abbrev Qxk:IL:=[jd 5 0]
abbrev Qxl:IL:=[ja 6 5,jb 7 2 2,jc 8 7,jl 9 1 8,js 10 6 9]
abbrev Qxm:IL:=[jb 13 2 2,jc 14 13,ja 15 5,jj 16 3 14 15,jb 17 1 16,jc 18 17,UZ 19 18,ja 20 1,zt 21 19 20]
abbrev Qxn:IL:=[jz 4]
abbrev Qxo:IL:=[ja 11 5,jp 12 11 1,ja 5 12]
abbrev Qxp:RC:=.seq (jQ Qxl (jX 10 0)) (.seq (.block 1 (jQ Qxm (.cond (.t 21) (jQ Qxn (.ret)) (.skip)))) (.reg Qxo))
abbrev Qxq:IL:=[jg 4]
abbrev QNX:RC:=jQ Qxj (.seq (jQ Qxk (.block 0 (.loop Qxp))) (jQ Qxq (.ret)))
abbrev QNY:List RR:=[.tmp 4]
theorem QNZ:CT 118 22 QNX QNY:=ck Tryz.func118 Tryz.ntmps118 (by decide +kernel)
abbrev Qxr:IL:=[jf 1 1 0,yv 2 0]
abbrev Qxs:IL:=[yv 3 0]
abbrev Qxt:IL:=[ja 4 3,jb 5 2 1,jc 6 5,jl 7 1 6,UZ 8 7,F6 9 4 8]
abbrev Qxu:IL:=[je 12 5 1,ja 13 3,jx 14 118 12 13,jy 15 14]
abbrev Qxv:IL:=[ja 16 3,ja 2 16]
abbrev Qxw:IL:=[ja 10 3,⟨some 11,.val (.bin .num .add (.t 10) (.c (.int .u64 1))),none⟩,ja 3 11]
abbrev Qxx:RC:=.seq (jQ Qxt (jX 9 0)) (.seq (.block 1 (jQ Qxu (.cond (.t 15) (jQ Qxv (.ret)) (.skip)))) (.reg Qxw))
abbrev Qxy:IL:=[yv 2 0]
abbrev QN0:RC:=jQ Qxr (.seq (jQ Qxs (.block 0 (.loop Qxx))) (jQ Qxy (.ret)))
abbrev QN1:List RR:=[.tmp 2]
theorem QN2:CT 119 17 QN0 QN1:=ck Tryz.func119 Tryz.ntmps119 (by decide +kernel)
abbrev QGh:IL:=[jf 4 4 0,jf 7 7 3,yh 8 8,jg 9]
abbrev QGi:IL:=[jb 14 0 4,jb 15 0 14,jc 16 15,ja 17 1,jj 18 3 16 17,jb 19 1 18,jc 20 19,ja 10 20]
abbrev QGj:IL:=[jd 11 0]
abbrev QGk:IL:=[ja 21 11,ja 22 10,jl 23 1 22,js 24 21 23]
abbrev QGl:IL:=[yc 28 0 4 5 4,ja 29 2,ja 30 10,ja 31 11,jj 32 8 30 31,yq 33 8 32,yb 34 41 28 29 33,ja 27 34,jo 35 27 0,jo 36 27 1,yh 12 12,yn 0 12 8 12 35,ja 13 36]
abbrev QGm:IL:=[ja 37 13,ja 38 37,jm 39 0 12 38,jt 40 39 38,jm 41 0 7 38,jt 42 41 38,Y9 43 40 42 38,jk 44 38 43,ja 45 44,ji 46 10 45,ji 47 11 45,zd 48 8 46 47 45,jm 49 3 48 45,jt 50 49 45,yk 51 50 1 45,jk 52 45 51]
abbrev QGn:IL:=[ja 53 10,ja 54 11,jj 55 8 53 54,je 56 8 55,jh 8 8 56,jz 9]
abbrev QGo:IL:=[ja 25 11,jp 26 25 1,ja 11 26]
abbrev QGp:RC:=.gho (.drop 12) (.seq (jQ QGk (jX 24 0)) (.seq (.block 1 (jD QGl (jQ QGm (.cond (.t 52) (jQ QGn (.ret)) (.skip))))) (.reg QGo)))
abbrev QGq:IL:=[ML 57,jh 8 8 57,jg 9]
abbrev r83:RC:=jQ QGh (jQ QGi (.seq (jQ QGj (.block 0 (.loop QGp))) (jQ QGq (.ret))))
abbrev o83:List RR:=[.cell 8 (some 8),.tmp 9]
theorem k83:CT 83 58 r83 o83:=ck Tryz.func83 Tryz.ntmps83 (by decide +kernel)
abbrev QGr:IL:=[jf 3 3 0,jf 5 5 2,yh 6 6,jg 7]
abbrev QGs:IL:=[jb 8 4 3,jc 9 8,jr 10 9 4]
abbrev QGt:IL:=[jb 11 2 3,jb 12 0 11,jw 13 0 3 12,ja 14 1,jj 15 3 13 14,yq 16 3 15,jb 17 1 5,jw 18 0 5 17,jx 19 74 16 18,jo 20 19 0,jo 21 19 1,yn 0 6 8 6 20,ja 7 21]
abbrev QGu:IL:=[jb 22 2 3,jb 23 0 22,jw 24 0 3 23,ja 25 1,jj 26 3 24 25,yq 27 3 26,jb 28 0 5,jw 29 0 5 28,jx 30 75 27 29,jo 31 30 0,jo 32 30 1,yn 0 6 8 6 31,ja 7 32]
abbrev r41:RC:=jQ QGr (.seq (jQ QGs (.cond (.t 10) (jD QGt (.ret)) (.skip))) (jD QGu (.ret)))
abbrev o41:List RR:=[.cell 6 (some 8),.tmp 7]
theorem k41:CT 41 33 r41 o41:=ck Tryz.func41 Tryz.ntmps41 (by decide +kernel)
abbrev QGv:IL:=[jf 2 2 0,yh 4 4,jg 5]
abbrev QGw:IL:=[jd 6 0]
abbrev QGx:IL:=[ja 7 6,jb 8 1 2,jc 9 8,jl 10 1 9,js 11 7 10]
abbrev QGy:IL:=[jb 14 1 2,jc 15 14,ja 16 6,jj 17 8 15 16,jb 18 0 17,jc 19 18,ja 20 1,zt 21 19 20]
abbrev QGz:IL:=[jb 22 1 2,jc 23 22,ja 24 6,jj 25 8 23 24,je 26 8 25,jh 8 4 26,jz 5]
abbrev QGA:IL:=[ja 12 6,jp 13 12 1,ja 6 13]
abbrev QGB:RC:=.seq (jQ QGx (jX 11 0)) (.seq (.block 1 (jQ QGy (.cond (.t 21) (jQ QGz (.ret)) (.skip)))) (.reg QGA))
abbrev QGC:IL:=[ML 27,jh 8 4 27,jg 5]
abbrev r75:RC:=jQ QGv (.seq (jQ QGw (.block 0 (.loop QGB))) (jQ QGC (.ret)))
abbrev o75:List RR:=[.cell 4 (some 8),.tmp 5]
theorem k75:CT 75 28 r75 o75:=ck Tryz.func75 Tryz.ntmps75 (by decide +kernel)
abbrev QGD:IL:=[jf 2 2 0,yh 4 4,jg 5]
abbrev QGE:IL:=[jd 6 0]
abbrev QGF:IL:=[ja 8 6,jb 9 1 2,jc 10 9,jl 11 1 10,js 12 8 11]
abbrev QGG:IL:=[jb 15 1 2,jc 16 15,ja 17 6,jj 18 8 16 17,jb 19 1 18,jc 20 19,ja 21 1,ym 22 20 21]
abbrev QGH:IL:=[jb 23 1 2,jc 24 23,ja 25 6,jj 26 8 24 25,je 27 8 26,jh 8 4 27,jz 5]
abbrev QGI:IL:=[ja 13 6,jp 14 13 1,ja 6 14]
abbrev QGJ:RC:=.seq (jQ QGF (jX 12 0)) (.seq (.block 1 (jQ QGG (.cond (.t 22) (jQ QGH (.ret)) (.skip)))) (.reg QGI))
abbrev QGK:IL:=[jd 7 0]
abbrev QGL:IL:=[ja 28 7,jb 29 1 2,jc 30 29,jl 31 1 30,js 32 28 31]
abbrev QGM:IL:=[jb 35 1 2,jc 36 35,ja 37 7,jj 38 8 36 37,jb 39 2 38,jc 40 39,ja 41 1,ym 42 40 41,ja 43 42,ji 44 1 43,⟨some 45,.val (.bin .str .neq (.t 44) (.c (.str []))),(some (43,true))⟩,jk 46 43 45]
abbrev Qxz:IL:=[jb 47 1 2,jc 48 47,ja 49 7,jj 50 8 48 49,je 51 8 50,jh 8 4 51,jz 5]
abbrev QGN:IL:=[ja 33 7,jp 34 33 1,ja 7 34]
abbrev QGO:RC:=.seq (jQ QGL (jX 32 2)) (.seq (.block 3 (jQ QGM (.cond (.t 46) (jQ Qxz (.ret)) (.skip)))) (.reg QGN))
abbrev QxA:IL:=[ML 52,jh 8 4 52,jg 5]
abbrev r74:RC:=jQ QGD (.seq (jQ QGE (.block 0 (.loop QGJ))) (.seq (jQ QGK (.block 2 (.loop QGO))) (jQ QxA (.ret))))
abbrev o74:List RR:=[.cell 4 (some 8),.tmp 5]
theorem k74:CT 74 53 r74 o74:=ck Tryz.func74 Tryz.ntmps74 (by decide +kernel)
abbrev QGP:IL:=[jf 6 6 0,jf 10 10 4,yh 12 12,jg 13]
abbrev QGQ:IL:=[jb 18 0 6,jb 19 0 18,jc 20 19,ja 21 1,jj 22 3 20 21,jb 23 1 22,jc 24 23,ja 14 24]
abbrev QGR:IL:=[jd 15 0]
abbrev QGS:IL:=[ja 25 15,ja 26 3,js 27 25 26]
abbrev QGT:IL:=[yc 31 0 6 5 6,ja 32 2,ja 33 14,ja 34 15,jj 35 8 33 34,yq 36 8 35,yb 37 41 31 32 36,ja 30 37,jo 38 30 0,jo 39 30 1,yh 16 16,yn 0 16 8 16 38,ja 17 39]
abbrev QGU:IL:=[ja 40 17,jy 41 40,ja 42 41,zu 43 0 6 5 6 42,jq 44 14 42,jq 45 15 42,zh 46 8 44 45 42,⟨some 47,.val (.loadr (some 8) (.t 46)),(some (42,false))⟩,zl 48 42 43 47 42,yj 49 48 42,jn 50 42 49,ja 51 50,jq 52 14 51,jq 53 15 51,zh 54 8 52 53 51,ju 55 7 54 51,zo 56 55 51,yx 57 56 (-1) 51,jq 58 57 51,ji 59 14 58,ji 60 15 58,zd 61 8 59 60 58,jm 62 7 61 58,zv 63 62 58,ji 64 14 58,ji 65 3 58,zd 66 8 64 65 58,jm 67 7 66 58,zv 68 67 58,Y9 69 63 68 58,zg 70 58 69 51,jn 71 51 70]
abbrev QGV:IL:=[ja 72 5,jy 73 72,ja 74 73,jm 75 0 16 74,jt 76 75 74,jm 77 0 10 74,jt 78 77 74,Y9 79 76 78 74,jk 80 74 79,ja 81 80,jq 82 5 81,jq 83 82 81,jm 84 0 16 83,jt 85 84 83,jm 86 0 10 83,jt 87 86 83,⟨some 88,.val (.bin .num .neq (.t 85) (.t 87)),(some (83,true))⟩,zg 89 83 88 81,jq 90 89 81,jm 91 7 10 90,jt 92 91 90,yu 93 92 (-1) 90,zg 94 90 93 81,jq 95 94 81,jm 96 7 16 95,jt 97 96 95,jm 98 7 10 95,jt 99 98 95,Y9 100 97 99 95,zg 101 95 100 81,jn 102 81 101]
abbrev QGW:IL:=[ja 103 14,ja 104 15,jj 105 8 103 104,je 106 8 105,jh 8 12 106,jz 13]
abbrev QGX:IL:=[ja 28 15,jp 29 28 1,ja 15 29]
abbrev QGY:RC:=.gho (.drop 16) (.seq (jQ QGS (jX 27 0)) (.seq (.block 1 (jD QGT (.seq (jD QGU (.cond (.t 71) (.exit 1) (.skip))) (jQ QGV (.cond (.t 102) (jQ QGW (.ret)) (.skip)))))) (.reg QGX)))
abbrev QGZ:IL:=[ML 107,jh 8 12 107,jg 13]
abbrev r47:RC:=jQ QGP (jQ QGQ (.seq (jQ QGR (.block 0 (.loop QGY))) (jQ QGZ (.ret))))
abbrev o47:List RR:=[.cell 12 (some 8),.tmp 13]
theorem k47:CT 47 108 r47 o47:=ck Tryz.func47 Tryz.ntmps47 (by decide +kernel)
abbrev QG0:IL:=[jf 2 2 0,jf 3 3 1,jg 4]
abbrev QG1:IL:=[jb 6 3 3,jc 7 6,ye 8 7 3,ja 9 8,ju 10 5 3 9,ya 11 10 9,yx 12 11 9 9,jn 13 9 12]
abbrev QG2:IL:=[jz 4]
abbrev QG3:IL:=[jb 14 0 2,jb 15 1 14,jc 16 15,jb 17 6 3,jc 18 17,jj 19 5 16 18,je 20 5 19,ze 5 5,jh 5 5 20]
abbrev QG4:IL:=[jb 21 1 5,jc 22 21,ja 23 22,ju 24 2 5 23,ya 25 24 23,UY 26 1 25 23,YM 27 26 1 23,jn 28 23 27,ja 4 28]
abbrev r42:RC:=jQ QG0 (.seq (jQ QG1 (.cond (.t 13) (jQ QG2 (.ret)) (.skip))) (jQ QG3 (jQ QG4 (.ret))))
abbrev o42:List RR:=[.tmp 4]
theorem k42:CT 42 29 r42 o42:=ck Tryz.func42 Tryz.ntmps42 (by decide +kernel)
abbrev QG5:IL:=[jf 3 3 0,jf 4 4 1,jf 5 5 2,jd 6 0]
abbrev QG6:IL:=[je 9 5 3,je 10 8 4,je 11 8 5,yb 12 43 9 10 11]
abbrev QG7:IL:=[je 13 5 3,jv 14 79 13,ja 6 14]
abbrev QG8:IL:=[je 16 5 3,je 17 8 4,je 18 8 5,yb 19 80 16 17 18,ja 15 19,jo 20 15 0,jo 21 15 1,ja 7 20,ja 8 21]
abbrev QG9:IL:=[ja 22 7,ye 23 22 0]
abbrev QHa:IL:=[ja 24 7,ja 6 24]
abbrev QHb:IL:=[je 25 5 3,je 26 8 4,je 27 8 5,yb 28 81 25 26 27]
abbrev QHc:IL:=[jd 6 16]
abbrev QHd:IL:=[jb 29 4 3,jc 30 29,jr 31 30 4,ja 32 31,jm 33 3 4 32,jt 34 33 32,yk 35 34 4 32,jk 36 32 35,ja 37 36,jm 38 3 5 37,jt 39 38 37,zm 40 82 39 37,jk 41 37 40]
abbrev QHe:IL:=[jd 6 9]
abbrev QxB:IL:=[jd 6 0]
abbrev r46:RC:=jQ QG5 (.seq (jQ QG6 (.cond (.t 12) (jQ QG7 (.ret)) (.skip))) (jQ QG8 (.seq (jQ QG9 (.cond (.t 23) (jQ QHa (.ret)) (.skip))) (.seq (jQ QHb (.cond (.t 28) (jQ QHc (.ret)) (.skip))) (.seq (jQ QHd (.cond (.t 41) (jQ QHe (.ret)) (.skip))) (jQ QxB (.ret)))))))
abbrev o46:List RR:=[.tmp 6]
theorem k46:CT 46 42 r46 o46:=ck Tryz.func46 Tryz.ntmps46 (by decide +kernel)
abbrev QHf:IL:=[jg 2]
abbrev QHg:IL:=[ja 3 0,ye 4 3 4,ja 5 4,ji 6 0 5,yu 7 6 5 5,jk 8 5 7,ja 2 8]
abbrev r82:RC:=jQ QHf (jQ QHg (.ret))
abbrev o82:List RR:=[.tmp 2]
theorem k82:CT 82 9 r82 o82:=ck Tryz.func82 Tryz.ntmps82 (by decide +kernel)
abbrev QHh:IL:=[jf 3 3 0,jf 4 4 1,jf 5 5 2,jg 6]
abbrev QHi:IL:=[jb 11 5 5,jc 12 11,ye 13 12 9]
abbrev QHj:IL:=[jg 6]
abbrev QHk:IL:=[jb 14 4 3,jc 15 14,jr 16 15 4]
abbrev QHl:IL:=[jb 17 5 4,jc 18 17,ye 19 18 9]
abbrev QHm:IL:=[jg 6]
abbrev QHn:IL:=[je 21 5 3,je 22 8 4,je 23 8 5,yb 24 117 21 22 23,ja 20 24,jo 25 20 0,jo 26 20 1,ja 7 25,ja 8 26]
abbrev QHo:IL:=[ja 27 8,ja 6 27]
abbrev QHp:IL:=[jb 28 4 3,jc 29 28,jr 30 29 1,ja 31 30,jm 32 3 4 31,jt 33 32 31,yu 34 33 5 31,jk 35 31 34,ja 36 35,ju 37 5 4 36,ya 38 37 36,yx 39 38 9 36,jq 40 39 36,jm 41 5 4 40,jt 42 41 40,yu 43 42 1 40,zg 44 40 43 36,jn 45 36 44]
abbrev QHq:IL:=[jg 6]
abbrev QxC:IL:=[je 47 5 3,je 48 8 4,je 49 8 5,yb 50 84 47 48 49,ja 46 50,jo 51 46 0,jo 52 46 1,ja 9 51,ja 10 52]
abbrev QxD:IL:=[ja 53 10,ja 6 53]
abbrev r81:RC:=jQ QHh (.seq (jQ QHi (.cond (.t 13) (jQ QHj (.ret)) (.skip))) (.seq (jQ QHk (.cond (.t 16) (.seq (jQ QHl (.cond (.t 19) (jQ QHm (.ret)) (.skip))) (jQ QHn (jQ QHo (.ret)))) (.skip))) (.seq (jQ QHp (.cond (.t 45) (jQ QHq (.ret)) (.skip))) (jQ QxC (jQ QxD (.ret))))))
abbrev o81:List RR:=[.tmp 6]
theorem k81:CT 81 54 r81 o81:=ck Tryz.func81 Tryz.ntmps81 (by decide +kernel)
abbrev QxE:IL:=[jf 3 3 0,jf 4 4 1,jf 5 5 2,yv 6 0,jg 7]
abbrev QxF:IL:=[jb 12 0 3,jb 13 1 12,jw 14 0 3 13,jb 15 6 4,jw 16 0 4 15,jj 17 5 14 16,yq 18 5 17,jb 19 2 3,jb 20 1 19,jw 21 0 3 20,jb 22 6 5,jw 23 0 5 22,jj 24 5 21 23,yq 25 5 24,ze 8 8,ze 9 9,yn 0 8 5 8 18,yn 0 9 5 9 25]
abbrev QxG:IL:=[jd 10 0]
abbrev QxH:IL:=[ja 26 10,jb 27 2 8,jc 28 27,jl 29 1 28,js 30 26 29]
abbrev QxI:IL:=[ja 33 10,zb 34 33 0,ja 35 34,ju 36 3 4 35,yt 37 0 4 36 35,yx 38 37 3 35,jn 39 35 38,ja 40 39,zw 41 0 9 5 9 40,jm 42 2 8 40,zj 43 0 8 42 40,ji 44 10 40,zd 45 3 43 44 40,jm 46 0 45 40,zv 47 46 40,Ue 48 151 41 47 40,yw 49 48 40,jk 50 40 49]
abbrev QxJ:IL:=[jb 51 2 8,jc 52 51,ja 53 10,jj 54 3 52 53,jb 55 1 54,jc 56 55,UZ 57 56,ja 6 57,jz 7]
abbrev QxK:IL:=[ja 31 10,jp 32 31 1,ja 10 32]
abbrev QxL:RC:=.seq (jQ QxH (jX 30 0)) (.seq (.block 1 (jD QxI (.cond (.t 50) (jQ QxJ (.ret)) (.skip)))) (.reg QxK))
abbrev QxM:IL:=[jb 58 1 8,jc 59 58,jy 60 59]
abbrev QxN:IL:=[yv 6 0,jg 7]
abbrev QxO:IL:=[jb 61 1 9,jc 62 61,jy 63 62]
abbrev Qcf:IL:=[je 64 5 8,jv 65 119 64,ja 6 65,jz 7]
abbrev Qcg:IL:=[jd 11 0]
abbrev Qch:IL:=[ja 66 11,jb 67 2 9,jc 68 67,jl 69 1 68,js 70 66 69]
abbrev Qci:IL:=[yc 73 0 8 5 8,jb 74 2 9,jw 75 0 9 74,ja 76 11,jj 77 3 75 76,jb 78 1 77,yp 79 78,UZ 80 79,jx 81 118 73 80,jy 82 81]
abbrev Qcj:IL:=[jb 83 2 9,jc 84 83,ja 85 11,jj 86 3 84 85,jb 87 1 86,jc 88 87,UZ 89 88,ja 6 89,jz 7]
abbrev Qck:IL:=[ja 71 11,jp 72 71 1,ja 11 72]
abbrev QxP:RC:=.seq (jQ Qch (jX 70 2)) (.seq (.block 3 (jD Qci (.cond (.t 82) (jQ Qcj (.ret)) (.skip)))) (.reg Qck))
abbrev Qcl:IL:=[yv 6 0,jg 7]
abbrev QN3:RC:=jQ QxE (jD QxF (.seq (jQ QxG (.block 0 (.loop QxL))) (.seq (jQ QxM (.cond (.t 60) (jQ QxN (.ret)) (.skip))) (.seq (jQ QxO (.cond (.t 63) (jQ Qcf (.ret)) (.skip))) (.seq (jQ Qcg (.block 2 (.loop QxP))) (jQ Qcl (.ret)))))))
abbrev QN4:List RR:=[.tmp 6,.tmp 7]
theorem QN5:CT 117 90 QN3 QN4:=ck Tryz.func117 Tryz.ntmps117 (by decide +kernel)
abbrev QxQ:IL:=[jf 2 2 0,jg 4]
abbrev QxR:IL:=[jd 5 0]
abbrev QxS:IL:=[ja 6 5,jb 7 2 2,jc 8 7,jl 9 1 8,js 10 6 9]
abbrev QxT:IL:=[jb 13 2 2,jc 14 13,ja 15 5,jj 16 3 14 15,jb 17 0 16,jc 18 17,ja 19 1,ym 20 18 19]
abbrev QxU:IL:=[jz 4]
abbrev QxV:IL:=[ja 11 5,jp 12 11 1,ja 5 12]
abbrev QxW:RC:=.seq (jQ QxS (jX 10 0)) (.seq (.block 1 (jQ QxT (.cond (.t 20) (jQ QxU (.ret)) (.skip)))) (.reg QxV))
abbrev QxX:IL:=[jg 4]
abbrev QN6:RC:=jQ QxQ (.seq (jQ QxR (.block 0 (.loop QxW))) (jQ QxX (.ret)))
abbrev QN7:List RR:=[.tmp 4]
theorem QN8:CT 151 21 QN6 QN7:=ck Tryz.func151 Tryz.ntmps151 (by decide +kernel)
abbrev QHr:IL:=[jf 3 3 0,jf 4 4 1,jf 5 5 2,jd 6 0,jg 7]
abbrev QHs:IL:=[jb 11 3 4,jc 12 11,jr 13 12 5]
abbrev QHt:IL:=[je 14 5 3,jb 15 4 4,jc 16 15,jb 17 4 5,jc 18 17,yb 19 115 14 16 18,ja 8 19]
abbrev QHu:IL:=[ja 20 8,ye 21 20 0]
abbrev QHv:IL:=[ja 22 8,ja 6 22,jz 7]
abbrev QHw:IL:=[jb 23 5 4,jc 24 23,jr 25 24 9,ja 26 25,jm 27 5 5 26,jt 28 27 26,yk 29 28 1 26,jk 30 26 29,ja 31 30,jm 32 4 3 31,jt 33 32 31,yk 34 33 1 31,jk 35 31 34]
abbrev QHx:IL:=[je 37 5 3,je 38 8 4,jx 39 116 37 38,ja 36 39,jo 40 36 0,jo 41 36 1,ja 9 40,ja 10 41]
abbrev QHy:IL:=[ja 42 10]
abbrev QHz:IL:=[jd 6 6,jg 7]
abbrev QHA:IL:=[jd 6 0,jg 7]
abbrev QxY:IL:=[je 43 5 3,jb 44 5 4,jc 45 44,jb 46 5 5,jc 47 46,yb 48 115 43 45 47,ja 6 48,jg 7]
abbrev r80:RC:=jQ QHr (.seq (jQ QHs (.cond (.t 13) (jQ QHt (jQ QHu (.cond (.t 21) (jQ QHv (.ret)) (.skip)))) (.skip))) (.seq (jQ QHw (.cond (.t 35) (jQ QHx (.seq (jQ QHy (.cond (.t 42) (jQ QHz (.ret)) (.skip))) (jQ QHA (.ret)))) (.skip))) (jQ QxY (.ret))))
abbrev o80:List RR:=[.tmp 6,.tmp 7]
theorem k80:CT 80 49 r80 o80:=ck Tryz.func80 Tryz.ntmps80 (by decide +kernel)
abbrev QxZ:IL:=[jf 3 3 0,jd 6 0]
abbrev Qx0:IL:=[ja 12 1,jr 13 12 10,ja 14 13,ji 15 2 14,yk 16 15 10 14,jk 17 14 16,ja 18 17,jq 19 1 18,yi 20 19 9 18,jq 21 20 18,ji 22 2 21,yk 23 22 9 21,zg 24 21 23 18,jn 25 18 24]
abbrev Qx1:IL:=[jd 6 0]
abbrev Qx2:IL:=[jb 26 4 3,jc 27 26,ja 28 1,ja 29 2,yb 30 148 27 28 29,ja 7 30]
abbrev Qx3:IL:=[ja 31 1,jr 32 31 10,ja 33 32,jq 34 2 33,yi 35 34 10 33,jn 36 33 35,ja 37 36,jq 38 7 37,yi 39 38 0 37,jn 40 37 39]
abbrev Qx4:IL:=[je 41 5 3,jv 42 79 41,ja 6 42]
abbrev Qx5:IL:=[ja 43 7,jr 44 43 2]
abbrev Qx6:IL:=[jd 6 0]
abbrev Qx7:IL:=[jb 46 4 3,jc 47 46,ja 48 1,ja 49 2,yb 50 149 47 48 49,ja 45 50,jo 51 45 0,jo 52 45 1,zk 8 8,jh 7 8 51,ja 9 52]
abbrev Qx8:IL:=[jb 54 4 3,jc 55 54,ja 56 1,ja 57 2,je 58 7 8,zq 59 150 55 56 57 58,ja 53 59,jo 60 53 0,jo 61 53 1,zk 10 10,jh 7 10 60,ja 11 61]
abbrev Qcm:IL:=[ja 62 11,ja 6 62]
abbrev QN9:RC:=jQ QxZ (.seq (jQ Qx0 (.cond (.t 25) (jQ Qx1 (.ret)) (.skip))) (jQ Qx2 (.seq (jQ Qx3 (.cond (.t 40) (jQ Qx4 (.ret)) (.skip))) (.seq (jQ Qx5 (.cond (.t 44) (jQ Qx6 (.ret)) (.skip))) (jQ Qx7 (jQ Qx8 (jQ Qcm (.ret))))))))
abbrev QOa:List RR:=[.tmp 6]
theorem Qx9:CT 115 63 QN9 QOa:=ck Tryz.func115 Tryz.ntmps115 (by decide +kernel)
abbrev QHB:IL:=[jf 1 1 0,jd 2 0]
abbrev QHC:IL:=[jb 3 4 1,jc 4 3,jr 5 4 1]
abbrev QHD:IL:=[jd 2 13]
abbrev QHE:IL:=[jd 2 12]
abbrev r79:RC:=jQ QHB (.seq (jQ QHC (.cond (.t 5) (jQ QHD (.ret)) (.skip))) (jQ QHE (.ret)))
abbrev o79:List RR:=[.tmp 2]
theorem k79:CT 79 6 r79 o79:=ck Tryz.func79 Tryz.ntmps79 (by decide +kernel)
abbrev Qya:IL:=[jf 2 2 0,jf 3 3 1,yv 4 0,jg 5]
abbrev Qyb:IL:=[jb 8 0 2,jb 9 1 8,jc 10 9,jb 11 6 3,jc 12 11,jj 13 5 10 12,je 14 5 13,ze 6 6,jh 5 6 14]
abbrev Qyc:IL:=[jb 15 1 6,jc 16 15]
abbrev Qyd:IL:=[yv 4 2,jz 5]
abbrev Qye:IL:=[jd 7 0]
abbrev Qyf:IL:=[ja 17 7,jb 18 2 6,jc 19 18,jl 20 1 19,js 21 17 20]
abbrev Qyg:IL:=[jb 24 2 6,jc 25 24,ja 26 7,jj 27 3 25 26,jb 28 1 27,jc 29 28,zb 30 29 1]
abbrev Qyh:IL:=[jb 31 2 6,jc 32 31,ja 33 7,jj 34 3 32 33,jb 35 1 34,jc 36 35,UZ 37 36,ja 4 37,jz 5]
abbrev Qyi:IL:=[ja 22 7,jp 23 22 1,ja 7 23]
abbrev Qyj:RC:=.seq (jQ Qyf (jX 21 0)) (.seq (.block 1 (jQ Qyg (.cond (.t 30) (jQ Qyh (.ret)) (.skip)))) (.reg Qyi))
abbrev Qyk:IL:=[yv 4 0,jg 5]
abbrev QOb:RC:=jQ Qya (jQ Qyb (.seq (jQ Qyc (.cond (.t 16) (jQ Qyd (.ret)) (.skip))) (.seq (jQ Qye (.block 0 (.loop Qyj))) (jQ Qyk (.ret)))))
abbrev QOc:List RR:=[.tmp 4,.tmp 5]
theorem QOd:CT 116 38 QOb QOc:=ck Tryz.func116 Tryz.ntmps116 (by decide +kernel)
abbrev QHF:IL:=[jf 3 3 0,jf 4 4 1,jf 5 5 2,jg 6]
abbrev QHG:IL:=[jb 7 3 4,jc 8 7,jr 9 8 5,jb 10 3 5,jc 11 10,jr 12 11 5,⟨some 13,.val (.bin .bool .neq (.t 9) (.t 12)),none⟩]
abbrev QHH:IL:=[jz 6]
abbrev QHI:IL:=[jb 14 3 4,jc 15 14,jr 16 15 5]
abbrev QHJ:IL:=[jg 6]
abbrev QHK:IL:=[jb 17 4 3,jc 18 17,jr 19 18 1]
abbrev QHL:IL:=[jb 20 3 4,jw 21 0 4 20,jr 22 21 4,ja 23 22,zw 24 0 4 8 4 23,zm 25 76 24 23,zw 26 0 5 8 5 23,zm 27 76 26 23,⟨some 28,.val (.bin .bool .neq (.t 25) (.t 27)),(some (23,true))⟩,jk 29 23 28,ja 6 29]
abbrev QHM:IL:=[jb 30 3 4,jc 31 30,jr 32 31 4,ja 33 32,jm 34 3 5 33,jt 35 34 33,yu 36 35 4 33,jk 37 33 36,ja 38 37,jm 39 4 3 38,jt 40 39 38,yk 41 40 2 38,jk 42 38 41,ja 6 42]
abbrev r43:RC:=jQ QHF (.seq (jQ QHG (.cond (.t 13) (jQ QHH (.ret)) (.skip))) (.seq (jQ QHI (.cond (.t 16) (jQ QHJ (.ret)) (.skip))) (.seq (jQ QHK (.cond (.t 19) (jD QHL (.ret)) (.skip))) (jQ QHM (.ret)))))
abbrev o43:List RR:=[.tmp 6]
theorem k43:CT 43 43 r43 o43:=ck Tryz.func43 Tryz.ntmps43 (by decide +kernel)
abbrev QHN:IL:=[jf 1 1 0,jg 2]
abbrev QHO:IL:=[jb 3 3 1,jc 4 3,jr 5 4 4,ja 6 5,jm 7 5 1 6,jt 8 7 6,⟨some 9,.val (.bin .num .geq (.t 8) (.c (.int .i64 1))),(some (6,true))⟩,ji 10 9 6,jm 11 5 1 10,jt 12 11 10,yz 13 12 6 10,⟨some 14,.val (.pick (.t 10) (.t 13) (.c (.bool false))),(some (6,true))⟩,ji 15 14 6,ju 16 5 1 15,ya 17 16 15,yi 18 17 9 15,F4 19 15 18 6,jk 20 6 19,ja 2 20]
abbrev r76:RC:=jQ QHN (jQ QHO (.ret))
abbrev o76:List RR:=[.tmp 2]
theorem k76:CT 76 21 r76 o76:=ck Tryz.func76 Tryz.ntmps76 (by decide +kernel)
abbrev QHP:IL:=[jf 3 3 0,yf 6]
abbrev QHQ:IL:=[ja 16 1,ja 17 2,⟨some 18,.val (.build [.int .i64 0,.int .i64 0,.nils,.bool false] [(0,1,(.t 16)),(1,1,(.t 17))]),none⟩,⟨some 19,.bslv 19 4 1 [.int .i64 0,.int .i64 0,.nils,.bool false] [(0,4,(.t 18))],none⟩,ja 7 19]
abbrev QHR:IL:=[jd 8 0]
abbrev QHS:IL:=[ja 20 8,ja 21 7,jl 22 1 21,js 23 20 22]
abbrev QHT:IL:=[jb 26 0 3,jb 27 0 26,jw 28 0 3 27,ja 29 7,ja 30 8,jj 31 4 29 30,jb 32 0 31,yp 33 32,jj 34 3 28 33,jb 35 1 34,yp 36 35,ja 9 36]
abbrev QHU:IL:=[jd 10 0]
abbrev QHV:IL:=[ja 37 10,ja 38 9,jl 39 1 38,js 40 37 39]
abbrev QHW:IL:=[ja 43 9,ja 44 10,jj 45 8 43 44,je 46 8 45,yh 11 11,jh 8 11 46]
abbrev Qyl:IL:=[yc 48 0 3 5 3,ja 49 7,ja 50 8,jj 51 4 49 50,jb 52 1 51,yp 53 52,yc 54 0 11 8 11,yb 55 41 48 53 54,ja 47 55,jo 56 47 0,jo 57 47 1,yh 12 12,yn 0 12 8 12 56,ja 13 57]
abbrev Qym:IL:=[ja 58 13,jy 59 58,ja 60 59,yl 61 5 3 60,yl 62 8 11 60,zl 63 42 61 62 60,yj 64 63 60,jn 65 60 64,ja 66 65,ju 67 5 11 66,ya 68 67 66,yx 69 68 10 66,jn 70 66 69,ja 71 70,ju 72 5 12 71,ya 73 72 71,yx 74 73 10 71,jn 75 71 74,ja 76 75,yl 77 5 3 76,yl 78 8 11 76,yl 79 8 12 76,N2 80 43 77 78 79 76,jn 81 76 80]
abbrev Qyn:IL:=[ja 82 7,ja 83 8,jj 84 4 82 83,jb 85 3 84,yp 86 85,ja 87 86,zu 88 0 3 5 3 87,jq 89 7 87,jq 90 8 87,zh 91 4 89 90 87,ju 92 0 91 87,zo 93 92 87,jq 94 7 87,jq 95 8 87,zh 96 4 94 95 87,ju 97 1 96 87,zo 98 97 87,zu 99 0 11 8 11 87,zu 100 0 12 8 12 87,⟨some 101,.call (.f 44) [(.t 88),(.t 93),(.t 98),(.t 99),(.t 100)],(some (87,false))⟩,jn 102 87 101,ja 14 102]
abbrev Qyo:IL:=[ja 103 7,jb 104 6 11,jc 105 104,jb 106 6 12,jc 107 106,ja 108 14,zq 109 45 103 105 107 108]
abbrev Qyp:IL:=[yf 15]
abbrev Qyq:IL:=[ja 110 15,ja 111 7,ja 112 8,jj 113 4 111 112,jb 114 2 113,jc 115 114,yd 116 1 8 3 110 115,ja 15 116]
abbrev Qyr:IL:=[ja 117 7,H6 118 6 11,jw 119 0 11 118,H6 120 6 12,jw 121 0 12 120,ja 122 15,H6 123 0 11,jw 124 0 11 123,⟨some 125,.bsl 1 1 [.int .i64 0] [(0,1,(.t 124))],none⟩,⟨some 126,.appl 1 8 3 (.t 122) (.t 125),none⟩,ja 127 14,⟨some 128,.val (.build [.int .i64 0,.int .i64 0,.nils,.bool false] [(0,1,(.t 119)),(1,1,(.t 121)),(2,1,(.t 126)),(3,1,(.t 127))]),none⟩,⟨some 129,.bsl 4 1 [.int .i64 0,.int .i64 0,.nils,.bool false] [(0,4,(.t 128))],none⟩,yd 130 4 48 64 117 129,ja 7 130]
abbrev QHX:IL:=[ja 41 10,jp 42 41 1,ja 10 42]
abbrev QHY:RC:=.gho (.drop 12) (.gho (.drop 11) (.seq (jQ QHV (jX 40 2)) (.seq (.block 3 (jQ QHW (jD Qyl (.seq (jQ Qym (.cond (.t 81) (.exit 3) (.skip))) (jD Qyn (.seq (jQ Qyo (.cond (.t 109) (.exit 3) (.skip))) (jQ Qyp (.gho (.vec 15 15 1) (jQ Qyq (.draw Qyr)))))))))) (.reg QHX))))
abbrev QHZ:IL:=[ja 24 8,jp 25 24 1,ja 8 25]
abbrev QH0:RC:=.gho (.drop 12) (.gho (.drop 11) (.seq (jQ QHS (jX 23 0)) (.seq (.block 1 (jD QHT (jQ QHU (.block 2 (.loop QHY))))) (.reg QHZ))))
abbrev Qys:IL:=[ja 131 7,ja 6 131]
abbrev r23:RC:=jQ QHP (jQ QHQ (.seq (jQ QHR (.block 0 (.loop QH0))) (jQ Qys (.ret))))
abbrev o23:List RR:=[.tmp 6]
theorem k23:CT 23 132 r23 o23:=ck Tryz.func23 Tryz.ntmps23 (by decide +kernel)
abbrev QH1:IL:=[jg 8]
abbrev QH2:IL:=[jd 9 0]
abbrev QH3:IL:=[ja 10 9,ja 11 0,jl 12 1 11,js 13 10 12]
abbrev QH4:IL:=[ja 16 0,ja 17 9,jj 18 4 16 17,jb 19 0 18,jc 20 19,ja 21 1,zt 22 20 21,ja 23 22,ji 24 0 23,ji 25 9 23,zd 26 4 24 25 23,jm 27 1 26 23,jt 28 27 23,ji 29 2 23,Y9 30 28 29 23,jk 31 23 30,ja 32 31,ji 33 0 32,ji 34 9 32,zd 35 4 33 34 32,jm 36 3 35 32,jt 37 36 32,yw 38 37 32,ji 39 38 32,jq 40 3 39,F4 41 39 40 32,jk 42 32 41]
abbrev QH5:IL:=[jz 8]
abbrev QH6:IL:=[ja 14 9,jp 15 14 1,ja 9 15]
abbrev QH7:RC:=.seq (jQ QH3 (jX 13 0)) (.seq (.block 1 (jQ QH4 (.cond (.t 42) (jQ QH5 (.ret)) (.skip)))) (.reg QH6))
abbrev QH8:IL:=[jg 8]
abbrev r45:RC:=jQ QH1 (.seq (jQ QH2 (.block 0 (.loop QH7))) (jQ QH8 (.ret)))
abbrev o45:List RR:=[.tmp 8]
theorem k45:CT 45 43 r45 o45:=ck Tryz.func45 Tryz.ntmps45 (by decide +kernel)
abbrev QH9:IL:=[jf 5 5 0,jf 8 8 3,jf 9 9 4,jg 10]
abbrev QIa:IL:=[jb 15 4 5,jc 16 15,ye 17 16 1]
abbrev QIb:IL:=[jg 10]
abbrev QIc:IL:=[je 18 5 5,ja 19 1,ja 20 2,je 21 8 8,je 22 8 9,⟨some 23,.call (.f 77) [(.t 18),(.t 19),(.t 20),(.t 21),(.t 22)],none⟩,ja 11 23]
abbrev QId:IL:=[jd 12 0]
abbrev QIe:IL:=[ja 24 12,ja 25 11,jl 26 1 25,js 27 24 26]
abbrev QIf:IL:=[yc 31 0 5 5 5,ja 32 2,ja 33 11,ja 34 12,jj 35 8 33 34,yq 36 8 35,yb 37 78 31 32 36,ja 30 37,jo 38 30 0,jo 39 30 1,ja 13 38,ja 14 39]
abbrev QIg:IL:=[ja 40 14,jy 41 40]
abbrev QIh:IL:=[jz 10]
abbrev QIi:IL:=[ja 28 12,jp 29 28 1,ja 12 29]
abbrev QIj:RC:=.seq (jQ QIe (jX 27 0)) (.seq (.block 1 (jD QIf (jQ QIg (.cond (.t 41) (jQ QIh (.ret)) (.skip))))) (.reg QIi))
abbrev Qyt:IL:=[jg 10]
abbrev r44:RC:=jQ QH9 (.seq (jQ QIa (.cond (.t 17) (jQ QIb (.ret)) (.skip))) (jQ QIc (.seq (jQ QId (.block 0 (.loop QIj))) (jQ Qyt (.ret)))))
abbrev o44:List RR:=[.tmp 10]
theorem k44:CT 44 42 r44 o44:=ck Tryz.func44 Tryz.ntmps44 (by decide +kernel)
abbrev QIk:IL:=[jf 3 3 0,jf 5 5 2,yv 6 0,jg 7]
abbrev QIl:IL:=[je 11 5 3,ja 12 1,je 13 8 5,yb 14 41 11 12 13,ja 10 14,jo 15 10 0,jo 16 10 1,yh 8 8,jh 8 8 15,ja 9 16]
abbrev QIm:IL:=[ja 17 9,jy 18 17,ja 19 18,ju 20 5 8 19,ya 21 20 19,yx 22 21 9 19,jn 23 19 22,ja 24 23,ju 25 5 5 24,ya 26 25 24,yx 27 26 9 24,jq 28 27 24,jm 29 5 5 28,jt 30 29 28,yu 31 30 1 28,zg 32 28 31 24,jn 33 24 32]
abbrev QIn:IL:=[yv 6 0,jg 7]
abbrev QIo:IL:=[je 34 5 3,je 35 8 5,je 36 8 8,yb 37 84 34 35 36,jo 38 37 0,jo 39 37 1,ja 6 38,ja 7 39]
abbrev r78:RC:=jQ QIk (jQ QIl (.seq (jQ QIm (.cond (.t 33) (jQ QIn (.ret)) (.skip))) (jQ QIo (.ret))))
abbrev o78:List RR:=[.tmp 6,.tmp 7]
theorem k78:CT 78 40 r78 o78:=ck Tryz.func78 Tryz.ntmps78 (by decide +kernel)
abbrev QIp:IL:=[jf 5 5 0,jf 8 8 3,jf 9 9 4,yf 10]
abbrev QIq:IL:=[yf 11]
abbrev QIr:IL:=[jb 16 0 5,jb 17 0 16,jc 18 17,ja 19 1,jj 20 3 18 19,jb 21 1 20,jc 22 21,ja 12 22]
abbrev QIs:IL:=[jd 13 0]
abbrev QIt:IL:=[ja 23 13,ja 24 12,jl 25 1 24,js 26 23 25]
abbrev QIu:IL:=[yc 30 0 5 5 5,ja 31 2,ja 32 12,ja 33 13,jj 34 8 32 33,yq 35 8 34,yb 36 41 30 31 35,ja 29 36,jo 37 29 0,jo 38 29 1,yh 14 14,yn 0 14 8 14 37,ja 15 38]
abbrev QIv:IL:=[ja 39 15,ja 40 39,ji 41 12 40,ji 42 13 40,zd 43 8 41 42 40,jm 44 0 43 40,zv 45 44 40,jm 46 0 8 40,zj 47 0 8 46 40,⟨some 48,.val (.bin .num .gtr (.t 45) (.t 47)),(some (40,true))⟩,jk 49 40 48,ja 50 49,ji 51 12 50,ji 52 13 50,zd 53 8 51 52 50,jm 54 3 53 50,zv 55 54 50,yk 56 55 1 50,jk 57 50 56,ja 58 57,jm 59 7 9 58,zj 60 0 9 59 58,yu 61 60 (-1) 58,jk 62 58 61,ja 63 62,jm 64 7 14 63,zj 65 0 14 64 63,jm 66 7 9 63,zj 67 0 9 66 63,Y9 68 65 67 63,jk 69 63 68,ja 70 69,jm 71 0 14 70,zj 72 0 14 71 70,jm 73 0 9 70,zj 74 0 9 73 70,⟨some 75,.val (.bin .num .neq (.t 72) (.t 74)),(some (70,true))⟩,jk 76 70 75]
abbrev QIw:IL:=[ja 77 11,ja 78 12,ja 79 13,jj 80 8 78 79,je 81 8 80,⟨some 82,.bsl 8 1 [.int .i64 0,.str [],.str [],.int .i64 0,.int .i64 0,.int .i64 0,.int .i64 0,.int .i64 0] [(0,8,(.t 81))],none⟩,yd 83 8 80 91 77 82,ja 11 83]
abbrev QIx:IL:=[ja 27 13,jp 28 27 1,ja 13 28]
abbrev QIy:RC:=.gho (.drop 14) (.seq (jQ QIt (jX 26 0)) (.seq (.block 1 (jD QIu (jD QIv (.cond (.t 76) (.reg QIw) (.skip))))) (.reg QIx)))
abbrev QIz:IL:=[ja 84 11,ja 10 84]
abbrev r77:RC:=jQ QIp (jQ QIq (.gho (.vec 11 11 8) (jQ QIr (.seq (jQ QIs (.block 0 (.loop QIy))) (jQ QIz (.ret))))))
abbrev o77:List RR:=[.tmp 10]
theorem k77:CT 77 85 r77 o77:=ck Tryz.func77 Tryz.ntmps77 (by decide +kernel)
abbrev QIA:IL:=[jf 2 2 0,jd 4 0,jg 5]
abbrev QIB:IL:=[jd 6 0]
abbrev QIC:IL:=[ja 7 6,jb 8 0 2,jc 9 8,jl 10 1 9,js 11 7 10]
abbrev QID:IL:=[jb 14 0 2,jc 15 14,ja 16 6,jj 17 3 15 16,jb 18 0 17,jc 19 18,ja 20 1,ym 21 19 20]
abbrev QIE:IL:=[ja 22 6,ja 4 22,jz 5]
abbrev QIF:IL:=[ja 12 6,jp 13 12 1,ja 6 13]
abbrev QIG:RC:=.seq (jQ QIC (jX 11 0)) (.seq (.block 1 (jQ QID (.cond (.t 21) (jQ QIE (.ret)) (.skip)))) (.reg QIF))
abbrev QIH:IL:=[jd 4 0,jg 5]
abbrev r22:RC:=jQ QIA (.seq (jQ QIB (.block 0 (.loop QIG))) (jQ QIH (.ret)))
abbrev o22:List RR:=[.tmp 4,.tmp 5]
theorem k22:CT 22 23 r22 o22:=ck Tryz.func22 Tryz.ntmps22 (by decide +kernel)
def Ib:IL:=[jf 1 1 0,N3 2 2,jd 3 0]
def Ic:IL:=[je 13 3 1,jv 14 16 13,jy 15 14]
def Ie:IL:=[⟨some 16,.val (.build [.nils,.nils] []),none⟩,jh 2 2 16,jd 3 1]
def Ig:IL:=[N3 4 4]
def Ih:IL:=[jd 5 0]
def Ii:IL:=[ja 17 5,jb 18 0 1,jc 19 18,jl 20 1 19,js 21 17 20]
def Ij:IL:=[jb 24 0 1,jc 25 24,ja 26 5,jj 27 5 25 26,jb 28 1 27,jc 29 28,ja 6 29]
def Ik:IL:=[jb 30 0 1,jw 31 0 1 30,ja 32 5,jj 33 5 31 32,jb 34 0 33,yp 35 34,ja 36 6,jv 37 38 36,jl 38 1 37,⟨some 39,.val (.build [.str [],.nils,.int .i64 0] [(0,1,(.t 35)),(2,1,(.t 38))]),none⟩,F3 7 7,yn 0 7 3 7 39]
def Il:IL:=[jd 8 0]
def RP:IL:=[ja 40 8,ja 41 6,jl 42 1 41,js 43 40 42]
def RQ:IL:=[jb 46 1 7,jw 47 0 7 46,yc 48 0 1 3 1,ja 49 6,ja 50 8,yb 51 39 48 49 50,⟨some 52,.bsl 8 1 [.int .i64 0,.str [],.str [],.int .i64 0,.int .i64 0,.int .i64 0,.int .i64 0,.int .i64 0] [(0,8,(.t 51))],none⟩,yd 53 8 80 91 47 52,jb 54 1 7,yn 0 7 1 54 53]
def RS:IL:=[ja 44 8,jp 45 44 1,ja 8 45]
def CV:RC:=.seq (jQ RP (jX 43 2)) (.seq (.block 3 (.draw RQ)) (.reg RS))
def RT:IL:=[jb 55 0 4,jc 56 55,je 57 3 7,⟨some 58,.bsl 3 1 [.str [],.nils,.int .i64 0] [(0,3,(.t 57))],none⟩,yd 59 3 48 88 56 58,jb 60 0 4,jh 1 60 59]
def Im:IL:=[ja 22 5,jp 23 22 1,ja 5 23]
def Io:RC:=.gho (.drop 7) (.seq (jQ Ii (jX 21 0)) (.seq (.block 1 (jQ Ij (jD Ik (.gho (.vecc 7 1 1100 8) (.seq (jQ Il (.block 2 (.loop CV))) (.gho (.pubc 7 1 1100) (.reg RT))))))) (.reg Im)))
def RU:IL:=[jd 9 0]
def RV:IL:=[ja 61 9,jb 62 1 1,jc 63 62,jl 64 1 63,js 65 61 64]
def RW:IL:=[jb 68 1 1,jw 69 0 1 68,ja 70 9,jj 71 5 69 70,jb 72 0 71,yp 73 72,jb 74 1 1,jw 75 0 1 74,ja 76 9,jj 77 5 75 76,jb 78 1 77,yp 79 78,⟨some 80,.lit0 2,none⟩,jb 81 1 1,jw 82 0 1 81,ja 83 9,jj 84 5 82 83,jb 85 3 84,yp 86 85,⟨some 87,.appe 2 16 171 (.t 80) (.t 86),none⟩,⟨some 88,.val (.build [.str [],.bool false,.nils,.nils,.nils] [(0,1,(.t 73)),(1,1,(.t 79)),(3,1,(.t 87))]),none⟩,ze 10 10,yn 0 10 5 10 88]
def RX:IL:=[jd 11 0]
def RY:IL:=[ja 89 11,jb 90 1 1,jc 91 90,ja 92 9,jj 93 5 91 92,jb 94 2 93,jc 95 94,jl 96 1 95,js 97 89 96]
def RZ:IL:=[jb 100 1 1,jc 101 100,ja 102 9,jj 103 5 101 102,jb 104 2 103,jc 105 104,ja 106 11,jj 107 3 105 106,je 108 3 107,Uc 12 12,jh 3 12 108]
def R0:IL:=[jb 109 2 10,jw 110 0 10 109,jb 111 0 12,jw 112 0 12 111,jb 113 1 12,jw 114 0 12 113,jb 115 2 12,jw 116 0 12 115,jv 117 40 116,⟨some 118,.val (.build [.str [],.int .i64 0,.nils] [(0,1,(.t 112)),(1,1,(.t 114)),(2,1,(.t 117))]),none⟩,⟨some 119,.bsl 3 1 [.str [],.int .i64 0,.nils] [(0,3,(.t 118))],none⟩,yd 120 3 48 106 110 119,jb 121 2 10,yn 0 10 1 121 120]
def R1:IL:=[ja 98 11,jp 99 98 1,ja 11 99]
def Ip:RC:=.gho (.drop 12) (.seq (jQ RY (jX 97 6)) (.seq (.block 7 (jQ RZ (.draw R0))) (.reg R1)))
def R2:IL:=[jb 122 1 4,jc 123 122,je 124 5 10,⟨some 125,.bsl 5 1 [.str [],.bool false,.nils,.nils,.nils] [(0,5,(.t 124))],none⟩,yd 126 5 96 104 123 125,jb 127 1 4,jh 1 127 126]
def R3:IL:=[ja 66 9,jp 67 66 1,ja 9 67]
def Iq:RC:=.gho (.drop 12) (.gho (.drop 10) (.seq (jQ RV (jX 65 4)) (.seq (.block 5 (jD RW (.gho (.vecc 10 2 1102 3) (.seq (jQ RX (.block 6 (.loop Ip))) (.gho (.pubc 10 2 1102) (.reg R2)))))) (.reg R3))))
def R4:IL:=[je 128 2 4,jh 2 2 128,jd 3 0]
def r21:RC:=jQ Ib (.seq (jQ Ic (.cond (.t 15) (jQ Ie (.ret)) (.skip))) (jQ Ig (.gho (.vecc 4 0 1101 3) (.gho (.vecc 4 1 1103 5) (.seq (jQ Ih (.block 0 (.loop Io))) (.seq (jQ RU (.block 4 (.loop Iq))) (jQ R4 (.ret))))))))
def o21:List RR:=[.cell 2 (some 2),.tmp 3]
theorem k21:CT 21 129 r21 o21:=ck Tryz.func21 Tryz.ntmps21 (by decide +kernel)
abbrev QII:IL:=[yf 2]
abbrev QIJ:IL:=[yf 3]
abbrev QIK:IL:=[jd 4 0]
abbrev QIL:IL:=[ja 5 4,ja 6 0,jl 7 1 6,js 8 5 7]
abbrev QIM:IL:=[ja 11 0,ja 12 4,jj 13 8 11 12,jb 14 0 13,jc 15 14,⟨some 16,.val (.bin .str .eql (.t 15) (.c (.str [97,108,105,97,115]))),none⟩]
abbrev QIN:IL:=[ja 17 3,ja 18 0,ja 19 4,jj 20 8 18 19,je 21 8 20,⟨some 22,.bsl 8 1 [.str [],.int .i64 0,.int .u64 0,.str [],.nils,.nils,.nils,.nils] [(0,8,(.t 21))],none⟩,yd 23 8 144 143 17 22,ja 3 23]
abbrev QIO:IL:=[ja 9 4,jp 10 9 1,ja 4 10]
abbrev QIP:RC:=.seq (jQ QIL (jX 8 0)) (.seq (.block 1 (jQ QIM (.cond (.t 16) (.reg QIN) (.skip)))) (.reg QIO))
abbrev QIQ:IL:=[ja 24 3,ja 2 24]
abbrev r40:RC:=jQ QII (jQ QIJ (.gho (.vec 3 3 8) (.seq (jQ QIK (.block 0 (.loop QIP))) (jQ QIQ (.ret)))))
abbrev KX:List RR:=[.tmp 2]
theorem k40:CT 40 25 r40 KX:=ck Tryz.func40 Tryz.ntmps40 (by decide +kernel)
def Ir:IL:=[jf 3 3 0,yh 6 6]
def Is:IL:=[ja 13 1,ja 14 2,jj 15 16 13 14,je 16 16 15,DH 7 7,jh 16 7 16]
def It:IL:=[jb 17 0 7,jc 18 17,jb 19 1 7,jc 20 19,jb 21 2 7,jc 22 21,jb 23 3 7,jc 24 23,jb 25 4 7,jb 26 0 25,jc 27 26,⟨some 28,.val (.build [.int .i64 0,.str [],.str [],.int .i64 0,.int .i64 0,.int .i64 0,.int .i64 0,.int .i64 0] [(0,1,(.t 18)),(1,1,(.t 20)),(3,1,(.t 22)),(4,1,(.t 24)),(5,1,(.t 27)),(6,1,(.c (.int .i64 (-1)))),(7,1,(.c (.int .i64 (-1))))]),none⟩,yh 8 8,jh 8 8 28]
def Iu:IL:=[jb 30 15 7,jc 31 30,⟨some 32,.call (.f 71) [(.t 31),(.c (.str [97,108,105,97,115]))],none⟩,ja 29 32,jo 33 29 0,jo 34 29 1,zk 9 9,jh 7 9 33,ja 10 34]
def CW:IL:=[ja 35 10]
def Iv:IL:=[jb 36 2 9,jc 37 36,jb 38 2 8,jh 1 38 37]
def CX:IL:=[jb 39 4 7,jb 40 0 39,jc 41 40,jr 42 41 10]
def CY:IL:=[je 44 3 3,jb 45 4 7,jb 46 1 45,jc 47 46,jx 48 72 44 47,ja 43 48,jo 49 43 0,jo 50 43 1,jb 51 6 8,jh 1 51 50]
def Gm:IL:=[jb 52 4 7,jb 53 0 52,jc 54 53,jr 55 54 9]
def CZ:IL:=[je 57 3 3,jb 58 4 7,jb 59 1 58,jc 60 59,jx 61 73 57 60,ja 56 61,jo 62 56 0,jo 63 56 1,jb 64 6 8,jh 1 64 63]
def Gn:IL:=[jb 65 6 7,jc 66 65,MK 67 66]
def Gp:IL:=[ja 68 1,jv 69 38 68,ja 11 69]
def Gq:IL:=[jd 12 0]
def R5:IL:=[ja 70 12,ja 71 11,jl 72 1 71,js 73 70 72]
def R6:IL:=[ja 76 11,ja 77 12,jj 78 1 76 77,yp 79 78,jb 80 6 7,jw 81 0 7 80,ym 82 79 81]
def R7:IL:=[ja 83 12,jb 84 7 8,jh 1 84 83]
def B3:IL:=[ja 74 12,jp 75 74 1,ja 12 75]
def Fq:RC:=.seq (jQ R5 (jX 73 0)) (.seq (.block 1 (jD R6 (.cond (.t 82) (.reg R7) (.skip)))) (.reg B3))
def Ui:IL:=[je 85 8 8,jh 8 6 85]
def r39:RC:=jQ Ir (jQ Is (jQ It (.seq (jQ Iu (jQ CW (.cond (.t 35) (.reg Iv) (.skip)))) (.seq (jQ CX (.cond (.t 42) (.reg CY) (.skip))) (.seq (jQ Gm (.cond (.t 55) (.reg CZ) (.skip))) (.seq (jQ Gn (.cond (.t 67) (jQ Gp (jQ Gq (.block 0 (.loop Fq)))) (.skip))) (jQ Ui (.ret))))))))
def B4:List RR:=[.cell 6 (some 8)]
theorem k39:CT 39 86 r39 B4:=ck Tryz.func39 Tryz.ntmps39 (by decide +kernel)
abbrev QIR:IL:=[yf 2]
abbrev QIS:IL:=[yf 3]
abbrev QIT:IL:=[jd 4 0]
abbrev QIU:IL:=[ja 5 4,ja 6 0,jl 7 1 6,js 8 5 7]
abbrev QIV:IL:=[ja 11 0,ja 12 4,jj 13 16 11 12,jb 14 6 13,jc 15 14,MK 16 15,ja 17 16,ji 18 3 17,ji 19 0 17,ji 20 4 17,zd 21 16 19 20 17,jm 22 6 21 17,jt 23 22 17,Ue 24 70 18 23 17,yw 25 24 17,jk 26 17 25]
abbrev QIW:IL:=[ja 27 3,ja 28 0,ja 29 4,jj 30 16 28 29,jb 31 6 30,jc 32 31,H7 33 1 1 0 1 32,yd 34 1 16 9 27 33,ja 3 34]
abbrev QIX:IL:=[ja 9 4,jp 10 9 1,ja 4 10]
abbrev QIY:RC:=.seq (jQ QIU (jX 8 0)) (.seq (.block 1 (jQ QIV (.cond (.t 26) (.reg QIW) (.skip)))) (.reg QIX))
abbrev QIZ:IL:=[ja 35 3,ja 2 35]
abbrev r38:RC:=jQ QIR (jQ QIS (.gho (.vec 3 3 1) (.seq (jQ QIT (.block 0 (.loop QIY))) (jQ QIZ (.ret)))))
abbrev o38:List RR:=[.tmp 2]
theorem k38:CT 38 36 r38 o38:=ck Tryz.func38 Tryz.ntmps38 (by decide +kernel)
abbrev QI0:IL:=[jg 4]
abbrev QI1:IL:=[jd 5 0]
abbrev QI2:IL:=[ja 6 5,ja 7 0,jl 8 1 7,js 9 6 8]
abbrev QI3:IL:=[ja 12 0,ja 13 5,jj 14 1 12 13,jc 15 14,ja 16 1,ym 17 15 16]
abbrev QI4:IL:=[jz 4]
abbrev QI5:IL:=[ja 10 5,jp 11 10 1,ja 5 11]
abbrev QI6:RC:=.seq (jQ QI2 (jX 9 0)) (.seq (.block 1 (jQ QI3 (.cond (.t 17) (jQ QI4 (.ret)) (.skip)))) (.reg QI5))
abbrev QI7:IL:=[jg 4]
abbrev r70:RC:=jQ QI0 (.seq (jQ QI1 (.block 0 (.loop QI6))) (jQ QI7 (.ret)))
abbrev o70:List RR:=[.tmp 4]
theorem k70:CT 70 18 r70 o70:=ck Tryz.func70 Tryz.ntmps70 (by decide +kernel)
abbrev QI8:IL:=[jf 2 2 0,ze 4 4,jd 5 0]
abbrev QI9:IL:=[jd 6 0]
abbrev QJa:IL:=[ja 7 6,jb 8 1 2,jc 9 8,jl 10 1 9,js 11 7 10]
abbrev QJb:IL:=[jb 14 1 2,jc 15 14,ja 16 6,jj 17 5 15 16,jb 18 0 17,jc 19 18,ja 20 1,ym 21 19 20]
abbrev QJc:IL:=[jb 22 1 2,jc 23 22,ja 24 6,jj 25 5 23 24,je 26 5 25,ja 27 6,jh 5 4 26,ja 5 27]
abbrev QJd:IL:=[ja 12 6,jp 13 12 1,ja 6 13]
abbrev QJe:RC:=.seq (jQ QJa (jX 11 0)) (.seq (.block 1 (jQ QJb (.cond (.t 21) (jQ QJc (.ret)) (.skip)))) (.reg QJd))
abbrev QJf:IL:=[⟨some 28,.val (.build [.str [],.bool false,.nils,.nils,.nils] []),none⟩,jh 5 4 28,jd 5 (-1)]
abbrev r73:RC:=jQ QI8 (.seq (jQ QI9 (.block 0 (.loop QJe))) (jQ QJf (.ret)))
abbrev o73:List RR:=[.cell 4 (some 5),.tmp 5]
theorem k73:CT 73 29 r73 o73:=ck Tryz.func73 Tryz.ntmps73 (by decide +kernel)
abbrev QJg:IL:=[jf 2 2 0,zz 4 4,jd 5 0]
abbrev QJh:IL:=[jd 6 0]
abbrev QJi:IL:=[ja 7 6,jb 8 0 2,jc 9 8,jl 10 1 9,js 11 7 10]
abbrev QJj:IL:=[jb 14 0 2,jc 15 14,ja 16 6,jj 17 5 15 16,jb 18 0 17,jc 19 18,ja 20 1,ym 21 19 20]
abbrev QJk:IL:=[jb 22 0 2,jc 23 22,ja 24 6,jj 25 5 23 24,je 26 5 25,ja 27 6,jh 5 4 26,ja 5 27]
abbrev QJl:IL:=[ja 12 6,jp 13 12 1,ja 6 13]
abbrev QJm:RC:=.seq (jQ QJi (jX 11 0)) (.seq (.block 1 (jQ QJj (.cond (.t 21) (jQ QJk (.ret)) (.skip)))) (.reg QJl))
abbrev QJn:IL:=[⟨some 28,.val (.build [.str [],.nils,.nils,.nils,.nils] []),none⟩,jh 5 4 28,jd 5 (-1)]
abbrev r72:RC:=jQ QJg (.seq (jQ QJh (.block 0 (.loop QJm))) (jQ QJn (.ret)))
abbrev o72:List RR:=[.cell 4 (some 5),.tmp 5]
theorem k72:CT 72 29 r72 o72:=ck Tryz.func72 Tryz.ntmps72 (by decide +kernel)
abbrev QJo:IL:=[zk 4 4,jg 5]
abbrev QJp:IL:=[ja 7 0,ja 8 1,jx 9 114 7 8,ja 6 9]
abbrev QJq:IL:=[ja 10 6,yr 11 10 0]
abbrev QJr:IL:=[zn 12,jh 7 4 12,jg 5]
abbrev QJs:IL:=[ja 13 0,ja 14 6,jj 15 8 13 14,jb 16 1 15,je 17 7 16,jh 7 4 17,jz 5]
abbrev r71:RC:=jQ QJo (jQ QJp (.seq (jQ QJq (.cond (.t 11) (jQ QJr (.ret)) (.skip))) (jQ QJs (.ret))))
abbrev o71:List RR:=[.cell 4 (some 7),.tmp 5]
theorem k71:CT 71 18 r71 o71:=ck Tryz.func71 Tryz.ntmps71 (by decide +kernel)
abbrev Qyu:IL:=[jd 4 0]
abbrev Qyv:IL:=[jd 5 0]
abbrev Qyw:IL:=[ja 6 5,ja 7 0,jl 8 1 7,js 9 6 8]
abbrev Qyx:IL:=[ja 12 0,ja 13 5,jj 14 8 12 13,jb 15 0 14,jc 16 15,ja 17 1,ym 18 16 17]
abbrev Qyy:IL:=[ja 19 5,ja 4 19]
abbrev Qyz:IL:=[ja 10 5,jp 11 10 1,ja 5 11]
abbrev QyA:RC:=.seq (jQ Qyw (jX 9 0)) (.seq (.block 1 (jQ Qyx (.cond (.t 18) (jQ Qyy (.ret)) (.skip)))) (.reg Qyz))
abbrev QyB:IL:=[jd 4 (-1)]
abbrev QOe:RC:=jQ Qyu (.seq (jQ Qyv (.block 0 (.loop QyA))) (jQ QyB (.ret)))
abbrev QOf:List RR:=[.tmp 4]
theorem QOg:CT 114 20 QOe QOf:=ck Tryz.func114 Tryz.ntmps114 (by decide +kernel)
abbrev QOh:IL:=[jg 4]
abbrev QOi:IL:=[ja 7 0,jl 8 1 7,ja 9 1,jl 10 1 9,⟨some 11,.val (.bin .num .neq (.t 8) (.t 10)),none⟩]
abbrev QOj:IL:=[jg 4]
abbrev QOk:IL:=[jd 5 0]
abbrev QOl:IL:=[ja 12 5,ja 13 0,jl 14 1 13,js 15 12 14]
abbrev QOm:IL:=[ja 18 0,ja 19 5,jj 20 4 18 19,jb 21 0 20,yp 22 21,ja 23 1,ja 24 5,jj 25 4 23 24,jb 26 0 25,yp 27 26,⟨some 28,.val (.bin .str .neq (.t 22) (.t 27)),none⟩,ja 29 28,jq 30 0 29,jq 31 5 29,zh 32 4 30 31 29,ju 33 1 32 29,zo 34 33 29,jq 35 1 29,jq 36 5 29,zh 37 4 35 36 29,ju 38 1 37 29,zo 39 38 29,Ub 40 34 39 29,jn 41 29 40,ja 42 41,jq 43 0 42,jq 44 5 42,zh 45 4 43 44 42,ju 46 2 45 42,zo 47 46 42,jq 48 1 42,jq 49 5 42,zh 50 4 48 49 42,ju 51 2 50 42,zo 52 51 42,Ub 53 47 52 42,jn 54 42 53,ja 55 54,jq 56 0 55,jq 57 5 55,zh 58 4 56 57 55,ju 59 3 58 55,zo 60 59 55,UY 61 1 60 55,jq 62 1 55,jq 63 5 55,zh 64 4 62 63 55,ju 65 3 64 55,zo 66 65 55,UY 67 1 66 55,Ub 68 61 67 55,jn 69 55 68]
abbrev QOn:IL:=[jg 4]
abbrev QOo:IL:=[jd 6 0]
abbrev QOp:IL:=[ja 70 6,ja 71 0,ja 72 5,jj 73 4 71 72,jb 74 3 73,jc 75 74,jl 76 1 75,js 77 70 76]
abbrev QJt:IL:=[ja 80 0,ja 81 5,jj 82 4 80 81,jb 83 3 82,yp 84 83,ja 85 6,jj 86 1 84 85,yp 87 86,ja 88 1,ja 89 5,jj 90 4 88 89,jb 91 3 90,yp 92 91,ja 93 6,jj 94 1 92 93,yp 95 94,⟨some 96,.val (.bin .num .neq (.t 87) (.t 95)),none⟩]
abbrev QJu:IL:=[jg 4]
abbrev QJv:IL:=[ja 78 6,jp 79 78 1,ja 6 79]
abbrev QOq:RC:=.seq (jQ QOp (jX 77 2)) (.seq (.block 3 (jD QJt (.cond (.t 96) (jQ QJu (.ret)) (.skip)))) (.reg QJv))
abbrev QOr:IL:=[ja 16 5,jp 17 16 1,ja 5 17]
abbrev QOs:RC:=.seq (jQ QOl (jX 15 0)) (.seq (.block 1 (.seq (jD QOm (.cond (.t 69) (jQ QOn (.ret)) (.skip))) (jQ QOo (.block 2 (.loop QOq))))) (.reg QOr))
abbrev QJw:IL:=[jz 4]
abbrev r9:RC:=jQ QOh (.seq (jQ QOi (.cond (.t 11) (jQ QOj (.ret)) (.skip))) (.seq (jQ QOk (.block 0 (.loop QOs))) (jQ QJw (.ret))))
abbrev o9:List RR:=[.tmp 4]
theorem k9:CT 9 97 r9 o9:=ck Tryz.func9 Tryz.ntmps9 (by decide +kernel)
abbrev QOt:IL:=[jf 4 4 0,jf 5 5 1,F1 8 8,jg 9]
abbrev QOu:IL:=[je 11 3 4,je 12 3 5,ja 13 2,ja 14 3,zq 15 11 11 12 13 14,ja 10 15]
abbrev QOv:IL:=[ja 16 10,jl 17 1 16,jr 18 17 0]
abbrev QOw:IL:=[⟨some 19,.val (.build [.str [],.int .i64 0,.int .i64 0,.nils] []),none⟩,jh 4 8 19,jg 9]
abbrev QOx:IL:=[ja 20 10,⟨some 21,.val (.iaddr 4 none (.t 20) (.c (.int .i64 0))),none⟩,je 22 4 21,jh 4 8 22,jz 9]
abbrev r8:RC:=jQ QOt (jQ QOu (.seq (jQ QOv (.cond (.t 18) (jQ QOw (.ret)) (.skip))) (jQ QOx (.ret))))
abbrev o8:List RR:=[.cell 8 (some 4),.tmp 9]
theorem k8:CT 8 23 r8 o8:=ck Tryz.func8 Tryz.ntmps8 (by decide +kernel)
abbrev QJx:IL:=[jf 5 5 0,jf 6 6 1,yf 10]
abbrev QJy:IL:=[yf 11]
abbrev QJz:IL:=[jd 12 1]
abbrev QJA:IL:=[ja 14 12,Ud 15 14 4]
abbrev QJB:IL:=[ja 19 3,N4 20 25 19 1,ja 21 20,ji 22 4 21,ji 23 12 21,Ue 24 25 22 23 21,jk 25 21 24]
abbrev QJC:IL:=[ja 26 11,je 27 3 5,je 28 3 6,ja 29 2,ja 30 12,zq 31 11 27 28 29 30,yd 32 4 56 32 26 31,ja 11 32]
abbrev QJD:IL:=[ja 16 12,ja 17 12,zs 18 16 17,ja 12 18]
abbrev QJE:RC:=.seq (jQ QJA (jX 15 0)) (.seq (.block 1 (jQ QJB (.cond (.t 25) (.reg QJC) (.skip)))) (.reg QJD))
abbrev QJF:IL:=[jd 13 1]
abbrev QJG:IL:=[ja 33 13,Ud 34 33 4]
abbrev QyC:IL:=[ja 38 3,N4 39 25 38 2,ja 40 39,ji 41 4 40,ji 42 13 40,Ue 43 25 41 42 40,jk 44 40 43]
abbrev QyD:IL:=[ja 45 11,je 46 3 6,je 47 3 5,ja 48 2,ja 49 13,zq 50 11 46 47 48 49,yd 51 4 56 32 45 50,ja 11 51]
abbrev QJH:IL:=[ja 35 13,ja 36 13,zs 37 35 36,ja 13 37]
abbrev QJI:RC:=.seq (jQ QJG (jX 34 2)) (.seq (.block 3 (jQ QyC (.cond (.t 44) (.reg QyD) (.skip)))) (.reg QJH))
abbrev QyE:IL:=[ja 52 11,ja 10 52]
abbrev r15:RC:=jQ QJx (jQ QJy (.gho (.vec 11 11 4) (.seq (jQ QJz (.block 0 (.loop QJE))) (.seq (jQ QJF (.block 2 (.loop QJI))) (jQ QyE (.ret))))))
abbrev o15:List RR:=[.tmp 10]
theorem k15:CT 15 53 r15 o15:=ck Tryz.func15 Tryz.ntmps15 (by decide +kernel)
abbrev QJJ:IL:=[jg 4]
abbrev QJK:IL:=[ja 5 0,ja 6 1,⟨some 7,.val (.bin .num .and (.t 5) (.t 6)),none⟩,ye 8 7 0,ja 4 8]
abbrev r25:RC:=jQ QJJ (jQ QJK (.ret))
abbrev o25:List RR:=[.tmp 4]
theorem k25:CT 25 9 r25 o25:=ck Tryz.func25 Tryz.ntmps25 (by decide +kernel)
abbrev QJL:IL:=[jf 5 5 0,jf 6 6 1,yf 10]
abbrev QJM:IL:=[yf 11]
abbrev QJN:IL:=[⟨some 17,.bsl 1 3 [.int .i64 0] [(0,1,(.c (.int .i64 1))),(1,1,(.c (.int .i64 2))),(2,1,(.c (.int .i64 4)))],none⟩,ja 12 17]
abbrev QJO:IL:=[ja 18 12,jl 19 1 18,jd 20 0]
abbrev QJP:IL:=[js 21 20 19]
abbrev QJQ:IL:=[jj 22 1 18 20,jc 23 22,ja 14 23]
abbrev QJR:IL:=[ja 24 3,⟨some 25,.val (.bin .num .and (.t 24) (.c (.int .i64 1))),none⟩,ye 26 25 0,ja 27 26,ji 28 4 27,ji 29 14 27,⟨some 30,.val (.bin .num .and (.t 28) (.t 29)),(some (27,true))⟩,yu 31 30 0 27,jk 32 27 31]
abbrev QJS:IL:=[ja 33 11,je 34 3 5,je 35 3 6,ja 36 2,ja 37 14,zq 38 10 34 35 36 37,yd 39 4 56 32 33 38,ja 11 39]
abbrev QJT:IL:=[jp 40 20 1,ja 20 40]
abbrev QJU:RC:=jQ QJP (.seq (jX 21 0) (.seq (.block 1 (jQ QJQ (jQ QJR (.cond (.t 32) (.reg QJS) (.skip))))) (.reg QJT)))
abbrev QJV:IL:=[ja 41 12,jl 42 1 41,jd 43 0]
abbrev QyF:IL:=[js 44 43 42]
abbrev QyG:IL:=[jj 45 1 41 43,jc 46 45,ja 16 46]
abbrev QyH:IL:=[ja 47 3,⟨some 48,.val (.bin .num .and (.t 47) (.c (.int .i64 2))),none⟩,ye 49 48 0,ja 50 49,ji 51 4 50,ji 52 16 50,⟨some 53,.val (.bin .num .and (.t 51) (.t 52)),(some (50,true))⟩,yu 54 53 0 50,jk 55 50 54]
abbrev QyI:IL:=[ja 56 11,je 57 3 6,je 58 3 5,ja 59 2,ja 60 16,zq 61 10 57 58 59 60,yd 62 4 56 32 56 61,ja 11 62]
abbrev QyJ:IL:=[jp 63 43 1,ja 43 63]
abbrev QJW:RC:=jQ QyF (.seq (jX 44 2) (.seq (.block 3 (jQ QyG (jQ QyH (.cond (.t 55) (.reg QyI) (.skip))))) (.reg QyJ)))
abbrev QyK:IL:=[ja 64 11,ja 10 64]
abbrev r14:RC:=jQ QJL (jQ QJM (.gho (.vec 11 11 4) (jQ QJN (.seq (jQ QJO (.block 0 (.loop QJU))) (.seq (jQ QJV (.block 2 (.loop QJW))) (jQ QyK (.ret)))))))
abbrev o14:List RR:=[.tmp 10]
theorem k14:CT 14 65 r14 o14:=ck Tryz.func14 Tryz.ntmps14 (by decide +kernel)
end Go.Proofs.YtjjmjopabpakoaaGreatDoor.Rc

set_option linter.unusedSimpArgs false
namespace Go.Proofs.YtjjmjopabpakoaaGreatDoor.Va
open Go Am Rc Bt

def RB (v:AV):Prop:=∃b,v=.bool b
theorem RB.rf {v:AV}{l:List AV}(h:RB v):v.rf=true∧(AV.rfL l=true∨v.nl=true):=by
 obtain⟨b,rfl⟩:=h;exact⟨rfl,.inr rfl⟩

def Uj (k:Int):Bool:=decide (k≥1)&&decide (k≤9)
def Wj (k:Int):Bool:=k==7||k==8
theorem QOy (k:Int):Qj Tryz.prog 154 [.int .i64 k] (.bool (Uj k)):=by
 refine QsH.fn (by simp) ?_;simp only[Uj,Qa,seval];cases h:decide (k≥1)<;>simp only[QWY,QWL,Qa,seval]

theorem QOz (k:Int):Qj Tryz.prog 182 [.int .i64 k] (.bool (Uj k)):=by
 refine Qku.fn (by simp) ?_;simp only[Uj,Qa,seval];cases h:decide (k≥1)<;>simp only[QWY,QWL,Qa,seval]

theorem QOA (k:Int):Qj Tryz.prog 156 [.int .i64 k] (.bool (Wj k)):=by
 refine QsR.fn (by simp) ?_;simp only[Wj,Qa,seval];cases h:(k==7)<;>simp only[QW0,QW1,Qa,seval]

theorem QOB (k:Int):Qj Tryz.prog 234 [.int .i64 k] (.bool (Wj k)):=by
 refine QpT.fn (by simp) ?_;simp only[Wj,Qa,seval];cases h:(k==7)<;>simp only[QW0,QW1,Qa,seval]

def oc (n:Int)(s a:List UInt8)(c k kd t u:Int):AV:=.agg [.int .i64 n,.str s,.str a,.int .i64 c,.int .i64 k,.int .i64 kd,.int .i64 t,.int .i64 u]

def pk (c kd:Int):Bool:=c==4&&((decide (kd≥1)&&decide (kd≤6))||kd==9)
section
variable (n:Int)(s a:List UInt8)(c k kd t u:Int)

theorem y69:Qj Tryz.prog 69 [oc n s a c k kd t u] (.bool (pk c kd)):=by
 refine k69.fn (by simp) ?_;simp only[oc,pk,eE,seval];cases h0:(c==4)<;>cases h1:decide (kd≥1)<;>cases h2:decide (kd≤6)<;>simp only[h1,h2,QWY,QWL,QW0,QW1,eE,seval]

theorem y76:Qj Tryz.prog 76 [oc n s a c k kd t u] (.bool (pk c kd)):=by
 refine k76.fn (by simp) ?_;simp only[oc,pk,eE,seval];cases h0:(c==4)<;>cases h1:decide (kd≥1)<;>cases h2:decide (kd≤6)<;>simp only[h1,h2,QWY,QWL,QW0,QW1,eE,seval]

end

theorem Qh (i:Nat)(n:Nat)(h:i<n)(hn:n≤maxLen):IntKind.i64.wrap ((i:Int)+1)=((i+1:Nat):Int):=by
 simp only[maxLen]at hn;rw[Jb];omega

theorem Qs {i n:Nat}(h:i<n):decide ((i:Int)<(n:Int))=true:=by simp;omega
theorem Qu {i n:Nat}(h:¬i<n):decide ((i:Int)<(n:Int))=false:=by simp;omega
theorem Qd (i:Nat):(0≤(i:Int))=True:=by simp

open Br

def QW {α:Type}(p:α→Bool):List α→Nat→Int
 | [],_=>-1
 |x :: l,i=>if p x=true then(i:Int)else QW p l (i+1)

theorem Xn {α:Type}(p:α→Bool):∀(l:List α) (i:Nat),(QW p l i = -1∧l.find? p=none)∨∃k o,QW p l i=((i+k:Nat):Int)∧l[k]? = some o∧l.find? p=some o
 | [],_=>.inl ⟨rfl,rfl⟩
 |x :: l,i=>by
  unfold QW;rw[QW2];cases h:p x with
  |true=>exact .inr ⟨0,x,by simp,rfl,rfl⟩
  |false=>
   simp only[QVB,if_false];rcases Xn p l (i+1)with h'|⟨k,o,h1,h2,h3⟩
   ·exact .inl h'
   ·exact .inr ⟨k+1,o,by rw[h1];congr 1;omega,by simpa using h2,h3⟩

theorem XD {α:Type}(p:α→Bool){l:List α}{i:Nat}{x:α}(hx:l[i]? = some x):QW p (l.drop i) i=if p x=true then(i:Int)else QW p (l.drop (i+1)) (i+1):=by
 have hlt:i<l.length:=(QVk.1 hx).1;rw[QVZ hlt,show l[i]=x from(QVk.1 hx).2];rfl

def QB (o:PO):AV:=.agg o.cells
def Xk (g:PG):AV:=.agg g.cells
def Zp (x:PI):AV:=.agg x.cells
def Z2 (x:PE):AV:=.agg x.cells

section ops
variable (L:List PO)(hl:L.length≤maxLen)(p:PO→Bool)(c:Nat)(cap:AV)(m:Qo)

def IxO (k:Nat)(st:St):Prop :=
 ∃f i,st=⟨f,Qg :: m,[]⟩∧k=L.length-i∧QW p L 0=QW p (L.drop i) i∧f 0=.list (L.map QB)∧f 1=.fn (.func c) [] [cap.sh]∧f 7=.int .i64 (L.length:Nat)∧f 8=.int .i64 (i:Nat)

include hl in
theorem QOC (hc:∀o∈L,Qp Tryz.prog c [QB o,cap.sh] (Qg :: m) fun y m1=>y=.bool (p o)∧m1=Qg :: m) :
  Qp Tryz.prog 143 [.list (L.map QB),.fn (.func c) [] [cap]] m fun y m1=>y=.int .i64 (QW p L 0)∧m1=m:=by
 refine QhV.go (by simp) ?_;simp only[QWE,Qa,seval];refine Qf (IxO L p c cap m) _ ⟨_,0,rfl,rfl,rfl,(by rfl),(by rfl),(by rfl),(by rfl)⟩ ?_;rintro _ st ⟨f,i,rfl,rfl,hx,h0,h1,h7,h8⟩;simp only[h7,h8,Qa,seval];by_cases hlt:i<L.length
 ·obtain⟨x,hi⟩:∃x,L[i]? = some x:=⟨L[i],QVl hlt⟩;have hcl:=hc x (QVw hi);have hg:(L.map QB)[i]? = some (QB x):=by simp[hi]
  have e1:=Qh i _ hlt hl;simp only[QB,PO.cells]at hcl;simp only[Qs hlt,Qd,QWH,Qb,hg,QB,PO.cells,h0,h1,h8,eE,seval];refine Xp (fa:=[]) (fb:=[cap.sh]) (by rfl) hcl (by simp only[QVP,QWe,QVE,QVD,Qa,seval]) ?_;rw[XD p hi]at hx;cases hp:p x
  ·rw[hp]at hx;simp only[QVB,if_false]at hx;simp only[h8,e1,Qa,seval];exact⟨L.length-(i+1),by omega,_,i+1,rfl,rfl,hx,(by exact h0),(by exact h1),(by exact h7),(by rfl)⟩
  ·rw[hp]at hx;simp only[if_true]at hx;simp only[hx,Qa,seval]
 ·have hx':QW p L 0 = -1:=by rw[hx,QVT (by omega)];rfl
  simp only[Qu hlt,hx',Qa,seval]

end ops

def JK:PO:=⟨0,[],[],0,0,0,0,0⟩
def Kn (p:PO→Bool)(L:List PO):AV:=.tup [QB ((L.find? p).getD JK),.bool (L.find? p).isSome]

theorem TM (g:PG)(hl:g.ops.length≤maxLen)(p:PO→Bool)(c:Nat)(cap:AV)(m:Qo)(hc:∀fr,∀o∈g.ops,Qp Tryz.prog c [QB o,cap.sh.sh] (Qg :: fr :: m) fun y m1=>y=.bool (p o)∧m1=Qg :: fr :: m) :
  Qp Tryz.prog 106 [.agg [.fn (.func c) [] [cap]],Xk g] m fun y m1=>y=Kn p g.ops∧m1=m:=by
 refine Qe2.go (by simp) ?_;simp only[Xk,PG.cells,eE,seval];refine Qc (QOC g.ops hl p c cap.sh _ fun o ho=>hc _ o ho) (by simp only[QVP,QWe,Qa,seval];rfl) ?_;rcases Xn p g.ops 0 with⟨h1,h2⟩|⟨j,o,h1,h2,h3⟩
 ·simp only[h1,Kn,h2,QWP,QV5,JK,QB,PO.cells,splice,QWm,QVE,QVS,QVY,QWt,QWg,QVx,QWp,QWq,QWr,AV.leaf,eE,seval]
 ·have hj:(g.ops.map fun o=>AV.agg o.cells)[j]? = some (.agg o.cells):=by simp[h2]
  have d:decide ((j:Int)<0)=false:=QW3 (by omega);rw[QVH]at h1;simp only[PO.cells]at hj;simp only[h1,d,Qd,QWH,Qb,QVH,hj,Kn,h3,QWo,QW4,QB,PO.cells,splice,QWm,QVE,QVS,QVY,QWt,QWg,QVx,QWp,QWq,QWr,AV.leaf,eE,seval]

section
variable (o:PO)(fr frO:Nat→Ob)

theorem QOD (n:Int)(hf:frO 3=.cells [.int .i64 n]):Qp Tryz.prog 108 [QB o,.ptr 2 3 0] [Qg,fr,frO] fun y m1=>y=.bool (o.num==n)∧m1=[Qg,fr,frO]:=by
 refine Qfc.go (by simp) ?_;simp only[hf,QB,PO.cells,eE,seval]

theorem QOE (s:List UInt8)(hf:frO 3=.cells [.str s]):Qp Tryz.prog 105 [QB o,.ptr 2 3 0] [Qg,fr,frO] fun y m1=>y=.bool (o.name==s)∧m1=[Qg,fr,frO]:=by
 refine QeU.go (by simp) ?_;simp only[hf,QB,PO.cells,Qz,eE,seval]

theorem QOF (s:List UInt8)(hf:frO 3=.cells [.str s]):Qp Tryz.prog 107 [QB o,.ptr 2 3 0] [Qg,fr,frO] fun y m1=>y=.bool (o.alias==s && !(s==[]))∧m1=[Qg,fr,frO]:=by
 refine Qe7.go (by simp) ?_;simp only[hf,QB,PO.cells,Qz,eE,seval];cases h:(o.alias==s)<;>simp only[hf,QWY,QWL,Qz,eE,seval]

end

theorem y63 (g:PG)(hl:g.ops.length≤maxLen)(n:Int):Qj Tryz.prog 63 [Xk g,.int .i64 n] (Kn (fun o=>o.num==n) g.ops):=by
 refine k63.fn (by simp) ?_;simp only[Xk,PG.cells,eE,seval];refine Qc (TM g hl (fun o=>o.num==n) 108 (.ptr 0 3 0) _ fun fr o _=>QOD o fr _ n (by rfl)) (by simp only[QVP,QWe,Xk,PG.cells,Qa,seval]) ?_;simp only[Kn,QB,PO.cells,splice,QWm,QVE,QVS,QVY,QWt,QWg,QVx,QWp,QWq,QWr,AV.leaf,eE,seval]

def DN (s:List UInt8)(L:List PO):AV:=if (L.find? fun o=>o.name==s).isSome=true then Kn (fun o=>o.name==s) L else Kn (fun o=>o.alias==s && !(s==[])) L

theorem y62 (g:PG)(hl:g.ops.length≤maxLen)(s:List UInt8):Qj Tryz.prog 62 [Xk g,.str s] (DN s g.ops):=by
 refine k62.fn (by simp) ?_;simp only[Xk,PG.cells,eE,seval];refine Qc (TM g hl (fun o=>o.name==s) 105 (.ptr 0 3 0) _ fun fr o _=>QOE o fr _ s (by rfl)) (by simp only[QVP,QWe,Xk,PG.cells,Qa,seval]) ?_;unfold DN;cases h:(g.ops.find? fun o=>o.name==s).isSome
 ·simp only[Kn,h,QVB,QB,PO.cells,splice,QWm,QVE,QVS,QVY,QWt,QWg,QVx,QWp,QWq,QWr,AV.leaf,eE,seval];refine Qc (TM g hl (fun o=>o.alias==s && !(s==[])) 107 (.ptr 0 3 0) _ fun fr o _=>QOF o fr _ s (by rfl)) (by simp only[QVP,QWe,Xk,PG.cells,PO.cells,Qa,seval]) ?_;simp only[Kn,QB,PO.cells,splice,QWm,QVE,QVS,QVY,QWt,QWg,QVx,QWp,QWq,QWr,AV.leaf,eE,seval]
 ·simp only[Kn,h,QB,PO.cells,splice,QWm,QVE,QVS,QVY,QWt,QWg,QVx,QWp,QWq,QWr,AV.leaf,eE,seval]

def Xq (p:Nat→Bool):Nat→Bool
 |0=>true
 |n+1=>Xq p n&&p n

theorem QU {p:Nat→Bool}{n:Nat}:Xq p n=true↔∀i,i<n→p i=true:=by
 induction n with
 |zero=>simp[Xq]
 |succ n ih=>
  simp only[Xq,QVF,ih]
  constructor
  ·rintro⟨h1,h2⟩ i hi;rcases QW5.1 hi with h|rfl
   ·exact h1 i h
   ·exact h2
  ·intro h;exact⟨fun i hi=>h i (by omega),h n (by omega)⟩

theorem C0 {p:Nat→Bool}{n i:Nat}(hi:i<n)(h:p i=false):Xq p n=false:=by
 rw[QW6];intro h';rw[QU.1 h' i hi]at h;cases h

theorem Gr {p q:Nat→Bool}{n:Nat}(h:∀i,i<n→p i=q i):Xq p n=Xq q n:=by
 induction n with
 |zero=>rfl
 |succ n ih=>simp only[Xq,ih fun i hi=>h i (by omega),h n (by omega)]

def Uk {α:Type}(l:List α)(lt:α→α→Bool)(i:Nat):Bool:=match i with
 |0=>true
 |k+1=>match l[k]?,l[k+1]? with
  |some x,some y=>lt x y
  |_,_=>true

theorem JL {α:Type}{l:List α}{lt:α→α→Bool}{k:Nat}{x y:α}(h:l[k]? = some x)(h':l[k+1]? = some y):Uk l lt (k+1)=lt x y:=by
 unfold Uk;simp only[h,h']
def XN {α:Type}(l:List α)(lt:α→α→Bool):Bool:=Xq (Uk l lt) l.length

def uniq {α:Type}(l:List α)(nm:α→List UInt8)(i:Nat):Bool:=match l[i]? with
 |some x=>(l.take i).all fun y=>!(nm y==nm x)
 |none=>true
theorem WZ {α:Type}{l:List α}{nm:α→List UInt8}{i:Nat}{x:α}(h:l[i]? = some x):uniq l nm i=(l.take i).all fun y=>!(nm y==nm x):=by
 unfold uniq;rw[h]
def Yr {α:Type}(l:List α)(nm:α→List UInt8):Bool:=Xq (uniq l nm) l.length

theorem TN {α:Type}{l:List α}{q:α→Bool}{i:Nat}{x:α}(h:l[i]? = some x):(l.take (i+1)).all q=((l.take i).all q&&q x):=by
 rw[QWT,h];simp
theorem Zh {α:Type}{l:List α}{q:α→Bool}{i:Nat}{x:α}(h:l[i]? = some x):(l.take (i+1)).any q=((l.take i).any q||q x):=by
 rw[QWT,h];simp
theorem VB {α:Type}{l:List α}{q:α→Bool}:(l.all fun x=>!q x)=!l.any q:=by
 induction l with
 |nil=>rfl
 |cons x l ih=>simp[ih]

def JM (c:UInt8):Bool:=(decide (97≤c.toNat)&&decide (c.toNat≤122))||(decide (65≤c.toNat)&&decide (c.toNat≤90))
def Jh (c:UInt8):Bool:=JM c||c.toNat==95||(decide (48≤c.toNat)&&decide (c.toNat≤57))
def Q5:List UInt8→Bool
 | []=>false
 |c :: t=>decide ((c :: t).length≤40)&&JM c&&t.all Jh
def Ys:List (List UInt8):=[[109,101,115,115,97,103,101],[101,110,117,109],[115,101,114,118,105,99,101],[117,110,105,111,110],[109,97,112],[108,105,115,116],[114,101,113,117,105,114,101,100],[111,112,116,105,111,110,97,108],[112,108,97,105,110],[100,101,102,97,117,108,116],[114,101,115,101,114,118,101,100],
 [105,109,112,111,114,116],[115,112,97,99,101],[114,112,99],[115,116,114,101,97,109],[114,101,116,117,114,110,115],[111,112,101,110],[116,114,117,101],[102,97,108,115,101],[110,97,110],[105,110,102]]
def ZA (s:List UInt8):Bool:=Ys.any fun w=>s==w
def Xo (s:List UInt8):Bool:=Q5 s && !ZA s
def Qi:List UInt8→List (List UInt8)
 | []=>[[]]
 |c :: t=>if c=46 then [] :: Qi t else match Qi t with
  | []=>[[c]]
  |p :: ps=>(c :: p) :: ps
def XE (s:List UInt8):Bool:=decide (s.length≤120)&&(Qi s).all Q5 && !(Qi s).any ZA

theorem Kz:∀s:List UInt8,Qi s≠[]
 | []=>by simp[Qi]
 |c :: t=>by
  unfold Qi;split
  ·simp
  ·split<;>simp

theorem DO (a:List UInt8):∀s:List UInt8,(∀c∈a,c≠46)→Qi (a++s)=match Qi s with
  | []=>[a]
  |p :: ps=>(a++p) :: ps:=by
 induction a with
 |nil=>intro s _;cases h:Qi s with
  |nil=>exact absurd h (Kz s)
  |cons p ps=>simp[h]
 |cons c a ih=>
  intro s h;have hc:c≠46:=h c (by simp);rw[QVD,Qi,QVp hc,ih s fun x hx=>h x (by simp[hx])];cases hs:Qi s with
  |nil=>exact absurd hs (Kz s)
  |cons p ps=>rfl

theorem WA {s:List UInt8}(h:∀c∈s,c≠46):Qi s=[s]:=by
 have:=DO s [] h
 simpa [Qi]using this

theorem Gs {a t:List UInt8}(h:∀c∈a,c≠46):Qi (a++46 :: t)=a :: Qi t:=by
 rw[DO a _ h,Qi,QVq rfl];simp

theorem Gt {a t:List UInt8}(h:∀c∈t,c≠46):Qi (a++46 :: t)=Qi a++[t]:=by
 induction a with
 |nil=>
  show Qi (46 :: t)=[[]]++[t];rw[show Qi (46 :: t)=[] :: Qi t from by rw[Qi,QVq rfl],WA h];rfl
 |cons c a ih=>
  rw[QVD,Qi,Qi,ih];split
  ·rfl
  ·cases hs:Qi a with
   |nil=>exact absurd hs (Kz a)
   |cons p ps=>rfl

theorem Ul (s:List UInt8):(Qi s).length=s.count 46+1:=by
 induction s with
 |nil=>rfl
 |cons c t ih=>
  unfold Qi;split
  ·rename_i h;subst h;simp[ih]
  ·rename_i h;rw[List.count_cons_of_ne (by simpa using h)];cases hs:Qi t with
   |nil=>exact absurd hs (Kz t)
   |cons p ps=>rw[hs]at ih;simpa using ih

def TO (g:PG):Bool:=decide (g.ops.length≤64)
def TP (e:PE):Bool:=decide (1≤e.items.length)&&decide (e.items.length≤64)&&decide (e.free.length≤16)
def VC (P:PL):Bool:=decide (P.progs.length≤64)&&decide (P.enums.length≤64)&&P.progs.all TO&&P.enums.all TP
def QyL (g:PG):Bool:=XE g.name&&g.ops.all fun o=>Xo o.name
def QyM (e:PE):Bool:=XE e.name&&e.items.all fun o=>Xo o.name
def Iw (P:PL):Bool:=P.progs.all QyL&&P.enums.all QyM
def C1 {α:Type}(f:α→Int)(x y:α):Bool:=decide (f x<f y)
def Wk {α:Type}(f:α→List UInt8)(x y:α):Bool:=Op.bytesLess (f x) (f y)
def QyN (g:PG):Bool:=XN g.ops (C1 PO.num)
def QyO (e:PE):Bool:=XN e.items (C1 PI.num)
def Iy (P:PL):Bool:=XN P.progs (Wk PG.name)&&XN P.enums (Wk PE.name)&&P.progs.all QyN&&P.enums.all QyO
def TQ (P:PL)(g:PG):Bool:=(P.enums.all fun e=>!(e.name==g.name))&&Yr g.ops PO.name
def QyP (e:PE):Bool:=Yr e.items PI.name
def Iz (P:PL):Bool:=P.progs.all (TQ P)&&P.enums.all QyP
def QyQ (o:PO):Bool:=decide (o.num≥1)&&decide (o.num≤65535)
def spn (x:PS):Bool:=decide (x.lo≥0)&&decide (x.hi≤2147483647)&&decide (x.lo≤x.hi)
def spt (x y:PS):Bool:=decide (y.lo > x.hi)
def kept (l:List PS)(n:Int):Bool:=l.any fun x=>decide (x.lo≤n)&&decide (n≤x.hi)
def QyR (e:PE)(x:PI):Bool:=decide (x.num≤2147483647) && !kept e.free x.num
def QyS (e:PE):Bool:=match e.items with
 | []=>true
 |x :: _=>x.num==0
def QyT (e:PE):Bool:=e.free.all spn&&XN e.free spt&&QyS e&&e.items.all (QyR e)
def rng (P:PL):Bool:=P.progs.all (fun g=>g.ops.all QyQ)&&P.enums.all QyT

def QV (x:PS):AV:=.agg x.cells
def Qk (x:List UInt8):AV:=.str x

theorem Wl {α:Type}(p:α→Bool)(l:List α):decide (QW p l 0≥0)=l.any p:=by
 rcases Xn p l 0 with⟨h1,h2⟩|⟨k,o,h1,_,h3⟩
 ·rw[h1];have:l.any p=false:=by
   rw[QW7];intro x hx;exact fun h=>by have:=QW8.1 h2 x hx;exact this h
  rw[this];rfl
 ·rw[h1];have:l.any p=true:=QWR.2 ⟨o,QW9 h3,QXa h3⟩;rw[this];exact QXb (by omega)

theorem KA (k n:Nat)(h:k+1<n)(hn:n≤maxLen):IntKind.i64.wrap (((k+1:Nat):Int)-1)=(k:Int):=by
 rw[Jb];simp only[maxLen]at hn;omega

section
variable (L:List PG)(hl:L.length≤maxLen)(p:PG→Bool)(c:Nat)(cs:List AV)(m:Qo)

end

section
variable (L:List PO)(hl:L.length≤maxLen)(p:PO→Bool)(c:Nat)(cs:List AV)(m:Qo)

end

section
variable (L:List PE)(hl:L.length≤maxLen)(p:PE→Bool)(c:Nat)(cs:List AV)(m:Qo)

end

section
variable (L:List PI)(hl:L.length≤maxLen)(p:PI→Bool)(c:Nat)(cs:List AV)(m:Qo)

end

section
variable (L:List PS)(hl:L.length≤maxLen)(p:PS→Bool)(c:Nat)(cs:List AV)(m:Qo)

def JxS (k:Nat)(st:St):Prop :=
 ∃f i,st=⟨f,Qg :: m,[]⟩∧k=L.length-i∧QW p L 0=QW p (L.drop i) i∧f 0=.list (L.map QV)∧f 1=.fn (.func c) [] (AV.shL cs)∧f 7=.int .i64 (L.length:Nat)∧f 8=.int .i64 (i:Nat)

include hl in
theorem QOG (hc:∀o∈L,Qp Tryz.prog c (QV o :: AV.shL cs) (Qg :: m) fun y m1=>y=.bool (p o)∧m1=Qg :: m) :
  Qp Tryz.prog 233 [.list (L.map QV),.fn (.func c) [] cs] m fun y m1=>y=.int .i64 (QW p L 0)∧m1=m:=by
 refine QpO.go (by simp) ?_;simp only[QWE,Qa,seval];refine Qf (JxS L p c cs m) _ ⟨_,0,rfl,rfl,rfl,(by rfl),(by rfl),(by rfl),(by rfl)⟩ ?_;rintro _ st ⟨f,i,rfl,rfl,hx,h0,h1,h7,h8⟩;simp only[h7,h8,Qa,seval];by_cases hlt:i<L.length
 ·obtain⟨x,hi⟩:∃x,L[i]? = some x:=⟨L[i],QVl hlt⟩;have hcl:=hc x (QVw hi);have hg:(L.map QV)[i]? = some (QV x):=by simp[hi]
  have e1:=Qh i _ hlt hl;simp only[QV,PS.cells]at hcl;simp only[Qs hlt,Qd,QWH,Qb,hg,QV,PS.cells,h0,h1,h8,eE,seval];refine Xp (fa:=[]) (fb:=AV.shL cs) (by rfl) hcl (by simp only[QVP,QWe,QVE,QVD,Qa,seval]) ?_;rw[XD p hi]at hx;cases hp:p x
  ·rw[hp]at hx;simp only[QVB,if_false]at hx;simp only[h8,e1,Qa,seval];exact⟨L.length-(i+1),by omega,_,i+1,rfl,rfl,hx,(by exact h0),(by exact h1),(by exact h7),(by rfl)⟩
  ·rw[hp]at hx;simp only[if_true]at hx;simp only[hx,Qa,seval]
 ·have hx':QW p L 0 = -1:=by rw[hx,QVT (by omega)];rfl
  simp only[Qu hlt,hx',Qa,seval]

include hl in
theorem QOH (hc:∀o∈L,Qp Tryz.prog c (QV o :: AV.shL (AV.shL cs)) (Qg :: Qg :: m) fun y m1=>y=.bool (p o)∧m1=Qg :: Qg :: m) :
  Qp Tryz.prog 213 [.list (L.map QV),.fn (.func c) [] cs] m fun y m1=>y=.bool (L.any p)∧m1=m:=by
 refine Qnm.go (by simp) ?_;simp only[Qa,seval];refine Qc (QOG L hl p c (AV.shL cs) _ hc) (by simp only[QVP,QWe,Qa,seval]<;>rfl) ?_;simp only[Wl,Qa,seval]

end

section
variable (L:List (List UInt8))(hl:L.length≤maxLen)(p:(List UInt8)→Bool)(c:Nat)(cs:List AV)(m:Qo)

def JxR (k:Nat)(st:St):Prop :=
 ∃f i,st=⟨f,Qg :: m,[]⟩∧k=L.length-i∧QW p L 0=QW p (L.drop i) i∧f 0=.list (L.map Qk)∧f 1=.fn (.func c) [] (AV.shL cs)∧f 7=.int .i64 (L.length:Nat)∧f 8=.int .i64 (i:Nat)

include hl in
theorem QOI (hc:∀o∈L,Qp Tryz.prog c (Qk o :: AV.shL cs) (Qg :: m) fun y m1=>y=.bool (p o)∧m1=Qg :: m) :
  Qp Tryz.prog 196 [.list (L.map Qk),.fn (.func c) [] cs] m fun y m1=>y=.int .i64 (QW p L 0)∧m1=m:=by
 refine Qk6.go (by simp) ?_;simp only[QWE,Qa,seval];refine Qf (JxR L p c cs m) _ ⟨_,0,rfl,rfl,rfl,(by rfl),(by rfl),(by rfl),(by rfl)⟩ ?_;rintro _ st ⟨f,i,rfl,rfl,hx,h0,h1,h7,h8⟩;simp only[h7,h8,Qa,seval];by_cases hlt:i<L.length
 ·obtain⟨x,hi⟩:∃x,L[i]? = some x:=⟨L[i],QVl hlt⟩;have hcl:=hc x (QVw hi);have hg:(L.map Qk)[i]? = some (Qk x):=by simp[hi]
  have e1:=Qh i _ hlt hl;simp only[Qk]at hcl;simp only[Qs hlt,Qd,QWH,Qb,hg,Qk,h0,h1,h8,eE,seval];refine Xp (fa:=[]) (fb:=AV.shL cs) (by rfl) hcl (by simp only[QVP,QWe,QVE,QVD,Qa,seval]) ?_;rw[XD p hi]at hx;cases hp:p x
  ·rw[hp]at hx;simp only[QVB,if_false]at hx;simp only[h8,e1,Qa,seval];exact⟨L.length-(i+1),by omega,_,i+1,rfl,rfl,hx,(by exact h0),(by exact h1),(by exact h7),(by rfl)⟩
  ·rw[hp]at hx;simp only[if_true]at hx;simp only[hx,Qa,seval]
 ·have hx':QW p L 0 = -1:=by rw[hx,QVT (by omega)];rfl
  simp only[Qu hlt,hx',Qa,seval]

include hl in
theorem C2 (hc:∀o∈L,Qp Tryz.prog c (Qk o :: AV.shL (AV.shL cs)) (Qg :: Qg :: m) fun y m1=>y=.bool (p o)∧m1=Qg :: Qg :: m) :
  Qp Tryz.prog 162 [.list (L.map Qk),.fn (.func c) [] cs] m fun y m1=>y=.bool (L.any p)∧m1=m:=by
 refine QiM.go (by simp) ?_;simp only[Qa,seval];refine Qc (QOI L hl p c (AV.shL cs) _ hc) (by simp only[QVP,QWe,Qa,seval]<;>rfl) ?_;simp only[Wl,Qa,seval]

end

section
variable (L:List PG)(hl:L.length≤maxLen)(lt:PG→PG→Bool)(c:Nat)(cs:List AV)(m:Qo)

end

section
variable (L:List PO)(hl:L.length≤maxLen)(lt:PO→PO→Bool)(c:Nat)(cs:List AV)(m:Qo)

end

section
variable (L:List PE)(hl:L.length≤maxLen)(lt:PE→PE→Bool)(c:Nat)(cs:List AV)(m:Qo)

end

section
variable (L:List PI)(hl:L.length≤maxLen)(lt:PI→PI→Bool)(c:Nat)(cs:List AV)(m:Qo)

end

def cl (c:Nat):Int:=if 97≤c∧c≤122 then 1 else if 65≤c∧c≤90 then 2 else if 48≤c∧c≤57 then 3 else if c=95 then 4 else 0

theorem QOJ (c:Nat):Qj Tryz.prog 231 [.int .i32 (c:Nat)] (.int .i64 (cl c)):=by
 refine Qpq.fn (by simp) ?_;simp only[Qa,seval]
 repeat' (first|(refine Zb (fun h=>?_) (fun h=>?_)<;>simp only[h,Qa,seval])|(refine ZP (fun h=>?_) (fun h=>?_)<;>simp only[h,Qm,Qa,seval])|(refine ZQ (fun h=>?_) (fun h=>?_)<;>simp only[h,Qm,eE,seval]))
 all_goals((try simp only[QWA,QXc,QVG,QXd,ne_eq]at *)<;>unfold cl<;>(repeat' split)<;>first|rfl|(exfalso;omega))

theorem C3 {s:List UInt8}{i:Nat}{c:UInt8}(h:s[i]? = some c):(c.toNat<128→Xz s i=(c.toNat,1))∧(128≤c.toNat→128≤(Xz s i).1):=by
 have g0:(⟨⟨s⟩⟩:ByteArray).get! (i+0)=c:=by
  show(⟨s⟩:Array UInt8)[i+0]! = c;simp[h]
 constructor
 ·intro hc;simp only[Xz,Utf8.decode,g0];rw[QVq hc]
 ·intro hc;simp only[Xz,Utf8.decode,g0];rw[QVp (by omega)]
  (repeat' split)<;>simp only[ge_iff_le,QVF,QWA,Utf8.runeError]at *<;>omega

def pq (s:List UInt8)(j:Nat):Bool:=match s[j]? with
 |some c=>if j=0 then JM c else Jh c
 |none=>true
theorem WB {s:List UInt8}{j:Nat}{c:UInt8}(h:s[j]? = some c):pq s j=if j=0 then JM c else Jh c:=by
 unfold pq;rw[h]

theorem B5 {c:UInt8}(h:JM c=true):Jh c=true:=by unfold Jh;rw[h];rfl

theorem KP (s:List UInt8):Q5 s=(decide (1≤s.length)&&decide (s.length≤40)&&Xq (pq s) s.length):=by
 cases s with
 |nil=>rfl
 |cons c t=>
  have h1:decide (1≤(c :: t).length)=true:=by simp
  rw[h1,QWY];show(decide ((c :: t).length≤40)&&JM c&&t.all Jh)=_;rw[Bool.and_assoc];congr 1
  rw[QV7,QVF,QU,QVv]
  constructor
  ·rintro⟨h2,h3⟩ i hi;cases i with
   |zero=>rw[WB (c:=c) rfl,QVq rfl];exact h2
   |succ i=>
    have hlt:i<t.length:=by simpa using hi
    rw[WB (c:=t[i]) (by simp[QVl hlt]),QVp (by omega)];exact h3 _ (List.getElem_mem _)
  ·intro h;refine⟨?_,fun x hx=>?_⟩
   ·have:=h 0 (by simp)
    rwa [WB (c:=c) rfl,QVq rfl]at this
   ·obtain⟨i,hi⟩:=QVu.1 hx;have hlt:=(QVk.1 hi).1;have:=h (i+1) (by simpa using hlt)
    rwa [WB (c:=x) (by simpa using hi),QVp (by omega)]at this

theorem QJX {s:List UInt8}{i:Nat}{c:UInt8}(h:s[i]? = some c)(r:Nat)(hr:(c.toNat<128→r=c.toNat)∧(128≤c.toNat→128≤r)) :
  (cl r==0||((i:Int)==0&&(cl r != 1&&cl r != 2)))=!pq s i:=by
 rw[WB h];obtain⟨h1,h2⟩:=hr;have hc:=c.toNat_lt;unfold cl JM Jh JM;generalize c.toNat=x at *;by_cases hx:x<128
 ·have e:=h1 hx;subst e;by_cases hi:i=0
  ·subst hi;rw[QVq rfl]
   (repeat' split)<;>simp<;>omega
  ·rw[QVp hi];have hz:((i:Int)==0)=false:=by simp;omega
   rw[hz]
   (repeat' split)<;>simp<;>omega
 ·have:=h2 (by omega);have e:(if 97≤r∧r≤122 then(1:Int)else if 65≤r∧r≤90 then 2 else if 48≤r∧r≤57 then 3 else if r=95 then 4 else 0)=0:=by
   rw[QVp (by omega),QVp (by omega),QVp (by omega),QVp (by omega)]
  rw[e];split<;>simp<;>omega

def PaI (s:List UInt8)(k:Nat)(st:St):Prop :=
 ∃f fr i,st=⟨f,[fr],[]⟩∧k=s.length-i∧i≤s.length∧Xq (pq s) i=true∧f 0=.str s∧f 7=.ptr 0 7 0∧fr 7=.iter (.str s) i

theorem QyV (s:List UInt8):Qj Tryz.prog 210 [.str s] (.bool (Q5 s)):=by
 refine Qnc.fn (by simp) ?_;simp only[Qa,seval];refine Dy rfl rfl ?_;simp only[Qa,seval];refine Qf (PaI s) s.length ⟨_,_,0,rfl,rfl,QVr _,rfl,(by rfl),(by rfl),(by rfl)⟩ ?_;rintro _ st ⟨f,fr,i,rfl,rfl,hi,hx,h0,h7,m7⟩;simp only[Qa,seval];refine Dz (by exact h7) m7 (fun hlt=>?_) (fun hge=>?_)
 ·obtain⟨c,hc⟩:∃c,s[i]? = some c:=⟨s[i],QVl hlt⟩;obtain⟨u1,u2⟩:=C3 hc;have hcl:=QOJ (Xz s i).1;have hq:=QJX hc (Xz s i).1 ⟨fun h=>by rw[u1 h],u2⟩;have hw:pq s i=true→(Xz s i).2=1:=by
   intro h;rw[u1];rw[WB hc]at h;have hp:Jh c=true:=by
    split at h
    ·exact B5 h
    ·exact h
   unfold Jh JM at hp;simp at hp;omega
  generalize Xz s i=cw at hcl hq hw;obtain⟨r,w⟩:=cw;simp only[Qa,seval];refine aC hcl ?_;have hstep:Xq (pq s) (i+1)=pq s i:=by rw[Xq,hx,QWY]
  have hend:pq s i=false→Q5 s=false:=by
   intro h;rw[KP,C0 hlt h,QXe]
  simp only at hq hw;generalize cl r=k at hq;cases hp:pq s i
  ·rw[hp]at hq;have he:=hend hp;simp only[he,Qa,seval];cases a1:(k==0)
   ·cases a2:((i:Int)==0)
    ·simp[a1,a2]at hq
    ·cases a3:(k != 1)
     ·simp[a1,a2,a3]at hq
     ·cases a4:(k != 2)
      ·simp[a1,a2,a3,a4]at hq
      ·simp only[a2,a3,a4,Qa,seval]
   ·simp only[Qa,seval]
  ·rw[hp]at hq;have hw:=hw hp;subst hw;simp only[Qa,seval];cases a1:(k==0)
   ·cases a2:((i:Int)==0)
    ·simp only[a2,Qa,seval];exact⟨s.length-(i+1),by omega,_,_,i+1,rfl,rfl,by omega,by rw[hstep,hp],(by exact h0),(by exact h7),(by rfl)⟩
    ·cases a3:(k != 1)
     ·simp only[a2,a3,Qa,seval];exact⟨s.length-(i+1),by omega,_,_,i+1,rfl,rfl,by omega,by rw[hstep,hp],(by exact h0),(by exact h7),(by rfl)⟩
     ·cases a4:(k != 2)
      ·simp only[a2,a3,a4,Qa,seval];exact⟨s.length-(i+1),by omega,_,_,i+1,rfl,rfl,by omega,by rw[hstep,hp],(by exact h0),(by exact h7),(by rfl)⟩
      ·simp[a1,a2,a3,a4]at hq
   ·simp[a1]at hq
 ·have hii:i=s.length:=by omega
  subst hii;have e1:decide (((s.length:Nat):Int)≥1)=decide (1≤s.length):=by rw[decide_eq_decide];omega
  have e2:decide (((s.length:Nat):Int)≤40)=decide (s.length≤40):=by rw[decide_eq_decide];omega
  have e3:Q5 s=(decide (1≤s.length)&&decide (s.length≤40)):=by rw[KP,hx,QWs]
  simp only[h0,e1,e3,Qa,seval];cases a1:decide (1≤s.length)<;>simp only[QWY,QWL,h0,e2,Qa,seval]

theorem QOK (s:List UInt8):Qj Tryz.prog 200 [.str s] (.bool (ZA s)):=by
 refine TG.fn (by simp) ?_;simp only[Qz,Qa,seval];have e:ZA s=Ys.any fun w=>s==w:=rfl
 simp only[Ys,List.any_cons,List.any_nil,QXf]at e
 repeat' (first|(refine Zb (fun h=>?_) (fun h=>?_)<;>simp only[h,Qz,Qa,seval])|(refine ZP (fun h=>?_) (fun h=>?_)<;>simp only[h,Qm,Qz,eE,seval])|(refine ZQ (fun h=>?_) (fun h=>?_)<;>simp only[h,Qm,Qz,eE,seval]))
 all_goals(simp only[*,QW0,QXg,QXf]at e;simp only[e])

theorem QOL (s:List UInt8):Qj Tryz.prog 236 [.str s,.str [46]] (.int .i64 (s.count 46:Nat)):=by
 refine Qqk.fn (by simp) ?_;have b0:(((1:Nat):Int)==0)=false:=rfl;have b1:(((1:Nat):Int)==1)=true:=rfl;have b2:([(46:UInt8)])[Int.toNat 0]? = some 46:=rfl;simp only[QVx,QWp,QVH,Qa,seval];refine NR rfl rfl ?_;simp only[HP,Lib.countByte,Qa,seval]
 try rfl

theorem QOM (s:List UInt8):Qj Tryz.prog 250 [.str s,.int .u8 46] (.int .i64 (Lib.indexByte s 46)):=by
 refine QrA.fn (by simp) ?_;simp only[Qa,seval];refine NR rfl rfl ?_;simp only[HP,QVB,Qa,seval]
 try rfl

theorem QON (s:List UInt8):Qj Tryz.prog 246 [.str s,.str [46]] (.int .i64 (Lib.indexByte s 46)):=by
 refine Qra.fn (by simp) ?_;have b0:(((1:Nat):Int)==0)=false:=rfl;have b1:(((1:Nat):Int)==1)=true:=rfl;have b2:([(46:UInt8)])[Int.toNat 0]? = some 46:=rfl;have hk:=QOM s;simp only[CJ,PW,PX,PY,PZ,P0,P1,P2,P3,P4,CJ,TJ,QVx,QWp,QVH,Qz,Qa,seval];cases h:(([46]:List UInt8)==s)
 ·simp only[Qa,seval];refine aC hk ?_;simp only[Qa,seval]
 ·have hs:s=[46]:=by simpa using (QVG.1 h).symm
  subst hs;simp only[Qa,seval]
  try rfl

theorem QOO (s:List UInt8):Qj Tryz.prog 237 [.str s,.str [46]] (.int .i64 (Lib.indexByte s 46)):=by
 refine Qqp.fn (by simp) ?_;simp only[Qa,seval];refine aC (QON s) ?_;simp only[Qa,seval]

theorem R8 {t:List UInt8}{o:Nat}(h:Lib.indexByte t 46=(o:Int)):o<t.length∧t=t.take o++46 :: t.drop (o+1)∧∀c∈t.take o,c≠46:=by
 obtain⟨h1,h2⟩:=Lib.indexByte_some h;have hlt:=(QVk.1 h1).1;refine⟨hlt,?_,?_⟩
 ·have h3:t[o]=46:=(QVk.1 h1).2;rw[←h3,←QVZ hlt,QWu]
 ·intro c hc e;subst e;obtain⟨k,hk⟩:=QVu.1 hc;rw[QVV]at hk;split at hk
  ·exact h2 k ‹_› hk
  ·cases hk

theorem TR {t:List UInt8}(h:Lib.indexByte t 46 = -1):Qi t=[t]:=by
 refine WA fun c hc e=>?_
 subst e;obtain⟨k,hk⟩:=QVu.1 hc;exact Lib.indexByte_none h k hk

theorem R9 {t:List UInt8}{o:Nat}(h:Lib.indexByte t 46=(o:Int)):Qi t=t.take o :: Qi (t.drop (o+1)):=by
 obtain⟨_,h2,h3⟩:=R8 h
 conv=>lhs;rw[h2]
 exact Gs h3

theorem QyW (t:List UInt8):Lib.indexByte t 46 = -1∨∃o:Nat,Lib.indexByte t 46=(o:Int):=by
 have:=Lib.indexByte_ge t 46;by_cases h:Lib.indexByte t 46 = -1
 ·exact .inl h
 ·obtain⟨o,ho⟩:=Int.eq_ofNat_of_zero_le (a:=Lib.indexByte t 46) (by omega);exact .inr ⟨o,ho⟩

def SpI (s:List UInt8)(n:Nat)(k:Nat)(st:St):Prop :=
 ∃f fr t done,st=⟨f,[fr],[]⟩∧k=(Qi t).length∧Qi s=done++Qi t∧n=done.length+(Qi t).length∧t.length≤s.length∧
  f 0=.str t∧f 1=.str [46]∧f 2=.int .i64 0∧f 3=.int .i64 ((n-1:Nat):Int)∧f 9=.vec 0 31 1 0 n false∧f 10=.int .i64 (done.length:Nat)∧fr 31=.vec 1 1 (done.map Qk++List.replicate (Qi t).length (.str []))

theorem TS (done:List (List UInt8))(x:List UInt8)(n:Nat)(h:0<n):(done.map Qk++List.replicate n (AV.str [])).set done.length (.str x)=(done++[x]).map Qk++List.replicate (n-1) (AV.str []):=by
 obtain⟨k,rfl⟩:∃k,n=k+1:=⟨n-1,by omega⟩;rw[List.set_append_right _ _ (by simp)];simp[Qk,List.replicate_succ]

theorem QOP (s:List UInt8)(hs:s.length≤17592186044000):Qj Tryz.prog 221 [.str s,.str [46],.int .i64 0,.int .i64 (-1)] (.list ((Qi s).map Qk)):=by
 have hl:=Ul s;have hc:s.count 46≤s.length:=List.count_le_length;have hm:(Qi s).length≤s.length+1:=by omega
 have b0:((-1:Int)==0)=false:=rfl;have b1:decide ((-1:Int)<0)=true:=rfl;have e1:IntKind.i64.wrap ((s.count 46:Nat)+1:Int)=((Qi s).length:Nat):=by rw[Jb];omega
 have e2:IntKind.i64.wrap ((s.length:Nat)+1:Int)=((s.length+1:Nat):Int):=by rw[Jb];omega
 have e3':(((s.length+1:Nat):Int)<((Qi s).length:Nat))=False:=eq_false (by omega);have e4:IntKind.i64.wrap (((Qi s).length:Nat)-1:Int)=(((Qi s).length-1:Nat):Int):=by rw[Jb];omega
 have hz:Km 1 [AV.str []]=.str []:=rfl;refine Qoo.fn (by simp) ?_;simp only[b0,Qz,Qa,seval];have b2:(([46]:List UInt8)==[])=false:=rfl;simp only[b2,Qa,seval];refine aC (QOL s) ?_;simp only[e1,e2,e3',Qa,seval];refine NS (n:=(Qi s).length) (k:=(Qi s).length) rfl rfl (QVi _) (by omega) (by omega) rfl ?_;simp only[e4,hz,Qa,seval];refine Qf (SpI s (Qi s).length) _ ⟨_,_,s,[],rfl,rfl,rfl,by simp,QVi _,(by rfl),(by rfl),(by rfl),(by rfl),(by rfl),(by rfl),(by rfl)⟩ ?_;rintro _ st ⟨f,fr,t,done,rfl,rfl,hp,hn,ht,h0,h1,h2,h3,h9,h10,m31⟩;simp only[h3,h10,Qa,seval];have hpos:0<(Qi t).length:=QWx.2 (Kz t);have ia:Qb [fr] 1 none (.vec 0 31 1 0 (Qi s).length false) ((done.length:Nat):Int)=some (.vptr 0 31 1 done.length 0):=by
  have e:Am.Qe [fr] 0 31=.vec 1 1 (done.map Qk++List.replicate (Qi t).length (.str [])):=m31;simp only[Qb,e,Qd,if_true,QWH];simp;omega
 have ist:∀x:List UInt8,Xb [fr] (.vptr 0 31 1 done.length 0) [.str x]=some [Qn fr 31 (.vec 1 1 ((done++[x]).map Qk++List.replicate ((Qi t).length-1) (.str [])))]:=by
  intro x;have e:Am.Qe [fr] 0 31=.vec 1 1 (done.map Qk++List.replicate (Qi t).length (.str [])):=m31;have hy:(done.map Qk++List.replicate (Qi t).length (.str []))[done.length]? = some (.str []):=by
   rw[QWG (by simp)];simp[hpos]
  have hx:J3 (.str []) 0 [.str x]=.str x:=rfl;simp only[Xb,e,hy,if_true,←TS done x _ hpos];simp[AV.cells,AV.rfL,AV.rf,Am.put,hx]
 have ew:IntKind.i64.wrap ((done.length:Nat)+1:Int)=((done.length+1:Nat):Int):=by rw[Jb];omega
 rcases QyW t with hd|⟨o,ho⟩
 ·have hp1:=TR hd;have hl1:(Qi t).length=1:=by rw[hp1];rfl
  have d1:decide (((done.length:Nat):Int)<(((Qi s).length-1:Nat):Int))=false:=QW3 (by omega);have hi:=ist t;have hrow:(done++[t]).map Qk++List.replicate ((Qi t).length-1) (AV.str [])=(Qi s).map Qk:=by
   rw[hl1,hp,hp1];simp
  have hlen:done.length+1=(Qi s).length:=by omega
  rw[hrow]at hi;rw[hlen]at ew;have hle:((Qi s).length≤(Qi s).length)=True:=eq_true (QVi _);have ht:(((Qi s).map Qk).drop 0).take (Qi s).length=(Qi s).map Qk:=by rw[QVY];exact QVQ (by simp)
  simp only[d1,ia,hi,h0,h9,h10,ew,eE,seval];simp only[Qd,if_true,QWH,QVr,hle,true_and,and_true,QWb,QV5,QXf,Hg,QWo,FR,QW4];have el:Am.Qe [Qn fr 31 (Ob.vec 1 1 ((Qi s).map Qk))] 0 31=.vec 1 1 ((Qi s).map Qk):=QP _ _ _;simp only[AV.still,el,QWY,bne_self_eq_false,QVB,if_false,QVH,QWE,hle,QWh,if_true,ht,QWn,AV.un,QW4,QWo]
 ·have hp1:=R9 ho;obtain⟨ho1,ho2,ho3⟩:=R8 ho;have hl1:(Qi t).length=(Qi (t.drop (o+1))).length+1:=by rw[hp1];simp
  have hpos2:0<(Qi (t.drop (o+1))).length:=QWx.2 (Kz _);have d1:decide (((done.length:Nat):Int)<(((Qi s).length-1:Nat):Int))=true:=QXb (by omega);have d2:decide ((o:Int)<0)=false:=QW3 (by omega);have w1:IntKind.i64.wrap ((o:Int)+0)=(o:Int):=by rw[Jb];omega
  have w2:IntKind.i64.wrap ((o:Int)+1)=((o+1:Nat):Int):=by rw[Jb];omega
  have hi:=ist (t.take o);simp only[d1,h0,h1,Qa,seval];refine aC (QOO t) ?_;have hle1:(0≤o∧o≤t.length)=True:=eq_true ⟨QVr _,by omega⟩;have hle2:(o+1≤t.length∧t.length≤t.length)=True:=eq_true ⟨by omega,QVi _⟩;have ht2:(t.drop (o+1)).take (t.length-(o+1))=t.drop (o+1):=QVQ (by simp);simp only[ho,d2,w1,w2,Qd,QWH,hle1,hle2,ht2,QWb,h0,h1,h2,h9,h10,eE,seval];simp only[ia,hi,ew,Qa,seval];have hlen:(done++[t.take o]).length=done.length+1:=by simp
  have hk:(Qi t).length-1=(Qi (t.drop (o+1))).length:=by omega
  exact⟨(Qi (t.drop (o+1))).length,by omega,_,_,t.drop (o+1),done++[t.take o],rfl,rfl,by rw[hp,hp1];simp,by rw[hlen];omega,by simp;omega,(by rfl),(by exact h1),(by exact h2),(by exact h3),(by exact h9),by rw[hlen]<;>first|rfl|simp only[eE,seval],by rw[←hk]<;>exact QP _ _ _⟩

def B6 (c:UInt8):Bool:=decide (97≤c.toNat)&&decide (c.toNat≤122)
def B7 (c:UInt8):Bool:=decide (65≤c.toNat)&&decide (c.toNat≤90)

theorem QyX (c:UInt8):Qj Tryz.prog 152 [.int .u8 (c.toNat:Nat)] (.bool (B6 c)):=by
 refine QNC.fn (by simp) ?_;have e1:decide ((c.toNat:Int)≥97)=decide (97≤c.toNat):=by rw[decide_eq_decide];omega
 have e2:decide ((c.toNat:Int)≤122)=decide (c.toNat≤122):=by rw[decide_eq_decide];omega
 simp only[e1,B6,Qa,seval];cases h:decide (97≤c.toNat)<;>simp only[e2,QWY,QWL,Qa,seval]

theorem QyY (c:UInt8):Qj Tryz.prog 153 [.int .u8 (c.toNat:Nat)] (.bool (B7 c)):=by
 refine QNF.fn (by simp) ?_;have e1:decide ((c.toNat:Int)≥65)=decide (65≤c.toNat):=by rw[decide_eq_decide];omega
 have e2:decide ((c.toNat:Int)≤90)=decide (c.toNat≤90):=by rw[decide_eq_decide];omega
 simp only[e1,B7,Qa,seval];cases h:decide (65≤c.toNat)<;>simp only[e2,QWY,QWL,Qa,seval]

theorem TT (c:UInt8):Jh c=(B6 c||B7 c || !((c.toNat:Int) != 95) || !(decide ((c.toNat:Int)<48)||decide ((c.toNat:Int) > 57))):=by
 unfold Jh JM B6 B7;generalize c.toNat=x;rw[QV7];simp only[QWc,QVF,QWA,QVG,QV9,bne_eq_false_iff_eq,QV6,QXc];omega

def PrI (s:List UInt8)(k:Nat)(st:St):Prop :=
 ∃f i,st=⟨f,[Qg],[]⟩∧k=s.length-i∧1≤i∧Xq (pq s) i=true∧f 0=.str s∧f 3=.int .i64 (i:Nat)

theorem TU (s:List UInt8):Qj Tryz.prog 123 [.str s] (.bool (Q5 s)):=by
 refine QNn.fn (by simp) ?_;simp only[Qa,seval];by_cases hl:s.length=0
 ·have d0:((s.length:Int)==0)=true:=by rw[hl];rfl
  have e:Q5 s=false:=by rw[KP,hl];rfl
  simp only[d0,e,Qa,seval]
 have d0:((s.length:Int)==0)=false:=by rw[QXd];omega
 by_cases hm:s.length≤40
 case neg=>
  have d1:decide ((s.length:Int) > 40)=true:=QXb (by omega);have e:Q5 s=false:=by rw[KP,QW3 hm,QXe,QWL]
  simp only[d0,d1,e,Qa,seval]
 have d1:decide ((s.length:Int) > 40)=false:=QW3 (by omega);have hp:Q5 s=Xq (pq s) s.length:=by rw[KP,QXb hm,QXb (by omega:1≤s.length)];rfl
 obtain⟨c,hc⟩:∃c,s[0]? = some c:=⟨s[0]'(by omega),QVl (by omega)⟩;have hq0:Xq (pq s) 1=(B6 c||B7 c):=by
  show(true&&pq s 0)=_;rw[WB hc,QVq rfl];rfl
 have h1:=QyX c;have h2:=QyY c;have hn:Xq (pq s) 1=false→Q5 s=false:=fun h=>by
  rw[hp,QW6];intro h';rw[QU.2 fun k hk=>QU.1 h' k (by omega)]at h;cases h
 have z1:Int.toNat 0=0:=rfl;have go:Xq (pq s) 1=true→∀(f:Fr),f 0=.str s→f 3=.int .i64 1→∀Q:Exit→St→Prop,(∀f,Xq (pq s) s.length=true→Q (.exit 0) ⟨f,[Qg],[]⟩)→(∀f,f 2=.bool false→Xq (pq s) s.length=false→Q .ret ⟨f,[Qg],[]⟩)→QJ Tryz.prog (.loop RF) ⟨f,[Qg],[]⟩ Q:=by
  intro hq1 f h0 h3 Q hx hr;refine Qf (PrI s) _ ⟨_,1,rfl,rfl,QVi _,hq1,h0,h3⟩ ?_;clear h0 h3 hc hq0 h1 h2 hn;rintro _ st ⟨f,i,rfl,rfl,h1i,hx1,h0,h3⟩;simp only[h0,h3,Qa,seval];by_cases hlt:i<s.length
  ·obtain⟨c,hc⟩:∃c,s[i]? = some c:=⟨s[i],QVl hlt⟩;have e1:=Qh i _ hlt (by simp only[maxLen];omega);have hs1:=QyX c;have hs2:=QyY c;have hstep:Xq (pq s) (i+1)=Jh c:=by
    rw[Xq,hx1,QWY,WB hc,QVp (by omega)]
   have hend:Jh c=false→Xq (pq s) s.length=false:=fun h=>by
    rw[QW6];intro h';rw[QU.2 fun k hk=>QU.1 h' k (by omega)]at hstep;rw[h]at hstep;cases hstep
   have fin:∀f':Fr,Jh c=true→f' 0=.str s→f' 3=.int .i64 ((i+1:Nat):Int)→∃k,k<s.length-i∧PrI s k ⟨f',[Qg],[]⟩:=by
    intro f' hp h0 h3;exact⟨s.length-(i+1),by omega,f',i+1,rfl,rfl,by omega,by rw[hstep,hp],h0,h3⟩
   have hpc:=TT c;simp only[Qs hlt,Qd,QWH,hc,h0,h3,Qa,seval];refine aC hs1 ?_;cases a1:B6 c
   ·simp only[Qd,QWH,hc,h0,h3,QWl,Qa,seval];refine aC hs2 ?_;cases a2:B7 c
    ·cases a3:((c.toNat:Int) != 95)
     ·rw[a1,a2,a3]at hpc;simp only[a3,Qd,QWH,hc,h0,h3,e1,QWl,Qa,seval];exact fin _ (by rw[hpc];rfl) (by exact h0) (by rfl)
     ·cases a4:decide ((c.toNat:Int)<48)
      ·cases a5:decide ((c.toNat:Int) > 57)
       ·rw[a1,a2,a3,a4,a5]at hpc;simp only[a3,a4,a5,Qd,QWH,hc,h0,h3,e1,QWl,Qa,seval];exact fin _ (by rw[hpc];rfl) (by exact h0) (by rfl)
       ·rw[a1,a2,a3,a4,a5]at hpc;simp only[a3,a4,a5,Qd,QWH,hc,h0,h3,QWl,Qa,seval];exact hr _ (by rfl) (hend (by rw[hpc];rfl))
      ·rw[a1,a2,a3,a4]at hpc;simp only[a3,a4,Qd,QWH,hc,h0,h3,QWl,Qa,seval];exact hr _ (by rfl) (hend (by rw[hpc];rfl))
    ·rw[a1,a2]at hpc;simp only[h3,e1,QWZ,Qa,seval];exact fin _ (by rw[hpc];rfl) (by exact h0) (by rfl)
   ·rw[a1]at hpc;simp only[h3,e1,QWZ,Qa,seval];exact fin _ (by rw[hpc];rfl) (by exact h0) (by rfl)
  ·simp only[Qu hlt,Qa,seval];exact hx _ (QU.2 fun k hk=>QU.1 hx1 k (by omega))
 simp only[d0,d1,z1,hc,Qa,seval];refine aC h1 ?_;cases a1:B6 c
 ·simp only[z1,hc,QWl,Qa,seval];refine aC h2 ?_;cases a2:B7 c
  ·rw[a1,a2]at hq0;simp only[hn hq0,QWl,Qa,seval]
  ·rw[a1,a2]at hq0;simp only[QWZ,Qa,seval];refine go hq0 _ (by rfl) (by rfl) _ (fun f h=>?_) (fun f h2 h=>?_)
   ·simp only[hp,h,Qa,seval]
   ·simp only[hp,h,h2,Qa,seval]
 ·rw[a1,QW0]at hq0;simp only[QWZ,Qa,seval];refine go hq0 _ (by rfl) (by rfl) _ (fun f h=>?_) (fun f h2 h=>?_)
  ·simp only[hp,h,Qa,seval]
  ·simp only[hp,h,h2,Qa,seval]

theorem QyZ (s:List UInt8):Qj Tryz.prog 122 [.str s] (.bool (ZA s)):=by
 refine QNk.fn (by simp) ?_;simp only[Qz,Qa,seval];have e:ZA s=Ys.any fun w=>s==w:=rfl
 simp only[Ys,List.any_cons,List.any_nil,QXf]at e
 repeat' (first|(refine Zb (fun h=>?_) (fun h=>?_)<;>simp only[h,Qz,Qa,seval])|(refine ZP (fun h=>?_) (fun h=>?_)<;>simp only[h,Qm,Qz,eE,seval])|(refine ZQ (fun h=>?_) (fun h=>?_)<;>simp only[h,Qm,Qz,eE,seval]))
 all_goals(simp only[*,QW0,QXg,QXf]at e;simp only[e])

def FuI (s:List UInt8)(k:Nat)(st:St):Prop :=
 ∃f i p,st=⟨f,[Qg],[]⟩∧k=s.length-i∧i≤s.length∧p.length≤i∧(∀c∈p,c≠(46:UInt8))∧(Qi s).all Q5=(Qi (p++s.drop i)).all Q5∧f 0=.str s∧f 3=.str p∧f 4=.int .i64 (i:Nat)

theorem QOQ (s:List UInt8):Qj Tryz.prog 120 [.str s] (.bool (decide (s.length≤120)&&(Qi s).all Q5)):=by
 refine QNe.fn (by simp) ?_;simp only[Qa,seval];by_cases hm:s.length≤120
 case neg=>
  have d1:decide ((s.length:Int) > 120)=true:=QXb (by omega);simp only[d1,QW3 hm,QWL,Qa,seval]
 have d1:decide ((s.length:Int) > 120)=false:=QW3 (by omega);simp only[d1,QXb hm,QWY,Qa,seval];refine Qf (FuI s) _ ⟨_,0,[],rfl,rfl,QVr _,QVi _,by simp,rfl,(by rfl),(by rfl),(by rfl)⟩ ?_;rintro _ st ⟨f,i,p,rfl,rfl,hi,hpl,hpd,hx,h0,h3,h4⟩;simp only[h0,h4,Qa,seval];by_cases hlt:i<s.length
 ·obtain⟨c,hc⟩:∃c,s[i]? = some c:=⟨s[i],QVl hlt⟩;have e1:=Qh i _ hlt (by simp only[maxLen];omega);have hd:s.drop i=c :: s.drop (i+1):=by
   rw[QVZ hlt];congr 1
   exact(QVk.1 hc).2
  have hts:(s.drop i).take (i+1-i)=[c]:=by
   rw[hd,show i+1-i=1 by omega];rfl
  simp only[Qs hlt,Qd,QWH,hc,h0,h4,Qa,seval];by_cases hdot:c=46
  ·subst hdot;have b0:((((46:UInt8).toNat:Nat):Int) != 46)=false:=rfl;have hs:(Qi s).all Q5=(Q5 p&&(Qi (s.drop (i+1))).all Q5):=by
    rw[hx,hd,Gs hpd];rfl
   simp only[h3,Qa,seval];refine aC (TU p) ?_;cases hp:Q5 p
   ·rw[hp,QWL]at hs;simp only[hs,QWl,Qa,seval]
   ·rw[hp,QWY]at hs;simp only[h4,e1,QWZ,Qa,seval];exact⟨s.length-(i+1),by omega,_,i+1,[],rfl,rfl,by omega,QVr _,by simp,by rw[hs];rfl,(by exact h0),(by rfl),(by rfl)⟩
  ·have b0:(((c.toNat:Nat):Int) != 46)=true:=by
    rw[QVL];intro h
    apply hdot
    rw[←UInt8.toNat_inj];have:c.toNat=46:=by omega
    rw[this];rfl
   have hle:(i≤i+1∧i+1≤s.length)=True:=eq_true ⟨by omega,by omega⟩;have hsum:(p.length≤9223372036854775806)=True:=eq_true (by omega);simp only[b0,h0,h3,h4,e1,KN,Ja,XI,Qd,QWH,hle,hts,Qz,hsum,Qa,seval];exact⟨s.length-(i+1),by omega,_,i+1,p++[c],rfl,rfl,by omega,by simp;omega,fun x hx=>by
    rcases QWw.1 hx with h|h
    ·exact hpd x h
    ·simp at h;subst h;exact hdot,by rw[hx,hd];simp,(by exact h0),(by rfl),(by rfl)⟩
 ·have hx':(Qi s).all Q5=Q5 p:=by
   rw[hx,QVT (by omega),QWg,WA hpd];simp
  simp only[Qu hlt,h3,hx',Qa,seval];refine aC (TU p) ?_;simp only[Qa,seval]

def WR (s:List UInt8):Nat→Option Nat
 |0=>none
 |j+1=>if s[j]? = some 46 then some j else WR s j

theorem Um (s:List UInt8):∀n,match WR s n with
  |none=>∀k,k<n→s[k]?≠some 46
  |some j=>j<n∧s[j]? = some 46∧∀k,j<k→k<n→s[k]?≠some 46
 |0=>by simp[WR]
 |n+1=>by
  unfold WR;split
  ·rename_i h;split at h
   ·cases h
   ·rename_i h';have:=Um s n;rw[h]at this;intro k hk;rcases QW5.1 hk with h1|rfl
    ·exact this k h1
    ·exact h'
  ·rename_i j h;split at h
   ·rename_i h';cases h;exact⟨by omega,h',fun k h1 h2=>by omega⟩
   ·rename_i h';have:=Um s n;rw[h]at this;exact⟨by omega,this.2.1,fun k h1 h2=>by
     rcases QW5.1 h2 with h3|rfl
     ·exact this.2.2 k h1 h3
     ·exact h'⟩

def Z3 (s:List UInt8):List UInt8×List UInt8:=match WR s s.length with
 |none=>([],s)
 |some j=>(s.take j,s.drop (j+1))

theorem B8 (s:List UInt8):((Z3 s).1=[]∧(Z3 s).2=s∧∀c∈s,c≠46)∨(s=(Z3 s).1++46 :: (Z3 s).2∧∀c∈(Z3 s).2,c≠46):=by
 have h:=Um s s.length;unfold Z3;cases hl:WR s s.length with
 |none=>
  rw[hl]at h;refine .inl ⟨rfl,rfl,fun c hc e=>?_⟩;subst e;obtain⟨k,hk⟩:=QVu.1 hc;exact h k (QVk.1 hk).1 hk
 |some j=>
  rw[hl]at h;obtain⟨h1,h2,h3⟩:=h;refine .inr ⟨?_,fun c hc e=>?_⟩
  ·have:s[j]=46:=(QVk.1 h2).2;show s=s.take j++46 :: s.drop (j+1);rw[←this,←QVZ h1,QWu]
  ·subst e;obtain⟨k,hk⟩:=QVu.1 hc;rw[QVW]at hk;exact h3 (j+1+k) (by omega) (QVk.1 hk).1 hk

def SdI (s:List UInt8)(k:Nat)(st:St):Prop :=
 ∃f,st=⟨f,[Qg],[]⟩∧k≤s.length∧WR s s.length=WR s k∧f 0=.str s∧f 4=.int .i64 ((k:Int)-1)

theorem QOR (s:List UInt8)(hs:s.length≤120):Qj Tryz.prog 121 [.str s] (.tup [.str (Z3 s).1,.str (Z3 s).2]):=by
 refine QNh.fn (by simp) ?_;have w0:IntKind.i64.wrap ((s.length:Int)-1)=(s.length:Int)-1:=by rw[Jb];omega
 simp only[w0,Qa,seval];refine Qf (SdI s) _ ⟨_,rfl,QVi _,rfl,(by rfl),(by rfl)⟩ ?_;rintro k st ⟨f,rfl,hk,hx,h0,h4⟩;simp only[h4,Qa,seval];cases k with
 |zero=>
  have d0:decide (((0:Nat):Int)-1≥0)=false:=rfl;have e:Z3 s=([],s):=by unfold Z3;rw[hx];rfl
  simp only[e,h0,Qa,seval]
 |succ j=>
  have j1:((j+1:Nat):Int)-1=(j:Int):=by omega
  have d0:decide (((j:Nat):Int)≥0)=true:=QXb (by omega);have w1:IntKind.i64.wrap ((j:Int)-1)=(j:Int)-1:=by rw[Jb];omega
  have w2:IntKind.i64.wrap ((j:Int)+1)=((j+1:Nat):Int):=by rw[Jb];omega
  obtain⟨c,hc⟩:∃c,s[j]? = some c:=⟨s[j]'(by omega),QVl (by omega)⟩;simp only[j1,Qd,QWH,hc,h0,h4,Qa,seval];by_cases hdot:c=46
  ·subst hdot;have b0:((((46:UInt8).toNat:Nat):Int)==46)=true:=rfl;have e:Z3 s=(s.take j,s.drop (j+1)):=by
    unfold Z3;rw[hx];show(match (if s[j]? = some 46 then some j else WR s j)with|none=>([],s)|some j=>(s.take j,s.drop (j+1)))=_;rw[QVq hc]
   have hle:(0≤j∧j≤s.length)=True:=eq_true ⟨by omega,by omega⟩;have hle2:(j+1≤s.length∧s.length≤s.length)=True:=eq_true ⟨by omega,QVi _⟩;have ht:((s.drop 0).take j)=s.take j:=by simp
   have ht2:((s.drop (j+1)).take (s.length-(j+1)))=s.drop (j+1):=QVQ (by simp);simp only[w2,j1,e,KN,Ja,XI,QWb,Qd,QWH,hle,hle2,ht2,h0,h4,Qa,seval]
  ·have b0:(((c.toNat:Nat):Int)==46)=false:=by
    rw[QXd];intro h
    apply hdot
    rw[←UInt8.toNat_inj];have:c.toNat=46:=by omega
    rw[this];rfl
   have hne:¬s[j]? = some 46:=fun h=>by rw[hc]at h;cases h;exact hdot rfl
   simp only[b0,j1,w1,h4,Qa,seval];exact⟨j,by omega,_,rfl,by omega,by rw[hx];show(if s[j]? = some 46 then some j else WR s j)=_;rw[QVp hne],(by exact h0),(by rfl)⟩

def Sa (u:List UInt8):Bool:=if u=[]then false else(Qi u).any ZA

theorem Qy0 (s:List UInt8)(hs:s.length≤17592186044000):Qj Tryz.prog 199 [.str s,.str [46]] (.list ((Qi s).map Qk)):=by
 refine Qls.fn (by simp) ?_;simp only[Qa,seval];refine aC (QOP s hs) ?_;simp only[Qa,seval]

def IfI (s:List UInt8)(k:Nat)(st:St):Prop :=
 ∃f i,st=⟨f,[Qg],[]⟩∧k=(Qi s).length-i∧((Qi s).take i).all Q5=true∧f 0=.str s∧f 6=.list ((Qi s).map Qk)∧f 7=.int .i64 ((Qi s).length:Nat)∧f 8=.int .i64 (i:Nat)

theorem QOS (s:List UInt8)(hs:s.length≤17592186044000):Qj Tryz.prog 198 [.str s] (.bool (decide (s.length≤120)&&(Qi s).all Q5)):=by
 have hl:=Ul s;have hc:s.count 46≤s.length:=List.count_le_length;refine Qln.fn (by simp) ?_;simp only[Qa,seval];refine aC (Qy0 s hs) ?_;simp only[QWE,Qa,seval];refine Qf (IfI s) _ ⟨_,0,rfl,rfl,rfl,(by rfl),(by rfl),(by rfl),(by rfl)⟩ ?_;rintro _ st ⟨f,i,rfl,rfl,hx,h0,h6,h7,h8⟩;simp only[h7,h8,Qa,seval];by_cases hlt:i<(Qi s).length
 ·obtain⟨x,hi⟩:∃x,(Qi s)[i]? = some x:=⟨(Qi s)[i],QVl hlt⟩;have hg:((Qi s).map Qk)[i]? = some (.str x):=by simp[hi,Qk]
  have e1:=Qh i _ hlt (by simp only[maxLen];omega);have ht:=TN (q:=Q5) hi;rw[hx,QWY]at ht;simp only[Qs hlt,Qd,QWH,Qb,hg,h6,h8,eE,seval];refine aC (QyV x) ?_;cases hp:Q5 x
  ·have hf:(Qi s).all Q5=false:=by
    rw[QW6];intro h';rw[QVv.1 h' x (QVw hi)]at hp;cases hp
   simp only[hf,QWl,QXe,Qa,seval]
  ·rw[hp]at ht;simp only[h8,e1,QWZ,Qa,seval];exact⟨(Qi s).length-(i+1),by omega,_,i+1,rfl,rfl,ht,(by exact h0),(by exact h6),(by exact h7),(by rfl)⟩
 ·rw[QVQ (by omega)]at hx;have e:decide ((s.length:Int)≤120)=decide (s.length≤120):=by rw[decide_eq_decide];omega
  simp only[Qu hlt,h0,hx,e,QWs,Qa,seval]

theorem QJY (s:List UInt8)(m:Qo):Qp Tryz.prog 200 [Qk s] m fun y m1=>y=.bool (ZA s)∧m1=m:=by
 refine TG.go (by simp) ?_;simp only[Qk,Qz,Qa,seval];have e:ZA s=Ys.any fun w=>s==w:=rfl
 simp only[Ys,List.any_cons,List.any_nil,QXf]at e
 repeat' (first|(refine Zb (fun h=>?_) (fun h=>?_)<;>simp only[h,Qz,Qa,seval])|(refine ZP (fun h=>?_) (fun h=>?_)<;>simp only[h,Qm,Qz,eE,seval])|(refine ZQ (fun h=>?_) (fun h=>?_)<;>simp only[h,Qm,Qz,eE,seval]))
 all_goals(simp only[*,QW0,QXg,QXf]at e;simp only[e])

section
variable (m:Qo)

end

section
variable {M:Nat}(P:PL)(hP:P.ok M)(hM:M≤17592186044000)
include hP hM

end

theorem Fs (n c:Nat):AV.shN n (.fn (.func c) [] [])=.fn (.func c) [] []:=by
 induction n with
 |zero=>rfl
 |succ n ih=>rw[AV.shN,ih];rfl

section
variable (L:List PO)(hl:L.length≤maxLen)(nm:PO→List UInt8)(c:Nat)(m:Qo)

end

section
variable (L:List PI)(hl:L.length≤maxLen)(nm:PI→List UInt8)(c:Nat)(m:Qo)

end

section
variable {M:Nat}(P:PL)(hP:P.ok M)
include hP

end

theorem QOT (x:PS)(n:Int)(fr:Nat→Ob)(m:Qo)(h3:fr 3=.cells [.int .i64 n]):Qp Tryz.prog 214 [QV x,.ptr 2 3 0] (Qg :: Qg :: fr :: m) fun y m1=>y=.bool (decide (x.lo≤n)&&decide (n≤x.hi))∧m1=Qg :: Qg :: fr :: m:=by
 refine Qnr.go (by simp) ?_;simp only[QV,PS.cells,h3,eE,seval];cases h:decide (x.lo≤n)<;>simp only[h3,QWY,QWL,eE,seval]

theorem Qy1 (L:List PS)(hl:L.length≤maxLen)(n:Int):Qj Tryz.prog 176 [.list (L.map QV),.int .i64 n] (.bool (kept L n)):=by
 refine QjO.fn (by simp) ?_;simp only[eE,seval];refine Qc (QOH L hl (fun x=>decide (x.lo≤n)&&decide (n≤x.hi)) 214 [.ptr 0 3 0] _ fun o _=>QOT o n _ _ (by rfl)) (by simp only[QVP,QWe,Qa,seval]<;>rfl) ?_;simp only[kept,Qa,seval]

end Go.Proofs.YtjjmjopabpakoaaGreatDoor.Va

namespace Go.Proofs.YtjjmjopabpakoaaGreatDoor.Va
open Go Am Rc Bt

def bt (s:List UInt8)(i lo hi:Nat):Bool :=
 match s[i]? with
 |some b=>decide (lo≤b.toNat)&&decide (b.toNat≤hi)
 |none=>false
def tl (s:List UInt8):Nat→Nat→Bool
 |_,0=>true
 |i,n+1=>bt s i 128 191&&tl s (i+1) n
def DP (s:List UInt8)(i b:Nat):Nat :=
 if b<128 then 1
 else if 194≤b∧b≤223∧tl s (i+1) 1=true then 2
 else if b=224∧bt s (i+1) 160 191=true∧tl s (i+2) 1=true then 3
 else if b=237∧bt s (i+1) 128 159=true∧tl s (i+2) 1=true then 3
 else if 225≤b∧b≤239∧b≠237∧tl s (i+1) 2=true then 3
 else if b=240∧bt s (i+1) 144 191=true∧tl s (i+2) 2=true then 4
 else if 241≤b∧b≤243∧tl s (i+1) 3=true then 4
 else if b=244∧bt s (i+1) 128 143=true∧tl s (i+2) 2=true then 4
 else 0
def sz (s:List UInt8)(i:Nat):Nat :=
 match s[i]? with
 |none=>0
 |some c=>DP s i c.toNat
def Z4 (s:List UInt8):Nat→Nat→Int
 |0,_=>-1
 |k+1,i=>if i<s.length then(if sz s i=0 then(i:Int)else Z4 s k (i+sz s i))else -1
def Ji (s:List UInt8):Bool:=decide (Z4 s s.length 0<0)

theorem QOU (c:UInt8)(n:Nat):decide ((c.toNat:Int)≥(n:Int))=decide (n≤c.toNat):=by simp
theorem QOV (c:UInt8)(n:Nat):decide ((c.toNat:Int)≤(n:Int))=decide (c.toNat≤n):=by simp

theorem B9 (s:List UInt8)(i lo hi:Nat):Qj Tryz.prog 195 [.str s,.int .i64 (i:Nat),.int .u8 (lo:Nat),.int .u8 (hi:Nat)] (.bool (bt s i lo hi)):=by
 refine Qtl.fn (by simp) ?_;by_cases hlt:i<s.length
 ·obtain⟨c,hc⟩:∃c,s[i]? = some c:=⟨s[i],QVl hlt⟩;have hb:bt s i lo hi=(decide (lo≤c.toNat)&&decide (c.toNat≤hi)):=by simp only[bt,hc]
  simp only[Qs hlt,Qd,QWH,hc,QOU,Qa,seval];by_cases h1:lo≤c.toNat
  ·have d1:decide (lo≤c.toNat)=true:=by simpa using h1
   simp only[d1,Qd,QWH,hc,hb,QOV,QWY,Qa,seval]
  ·have d1:decide (lo≤c.toNat)=false:=by simpa using h1
   simp only[d1,hb,QWL,Qa,seval]
 ·have hb:bt s i lo hi=false:=by simp only[bt,QWD (Nat.le_of_not_lt hlt)]
  simp only[Qu hlt,hb,Qa,seval]

def QJZ (s:List UInt8)(i n:Nat)(k:Nat)(st:St):Prop :=
 ∃f j,st=⟨f,[Qg],[]⟩∧k=n-j∧j≤n∧tl s i n=tl s (i+j) (n-j)∧f 0=.str s∧f 1=.int .i64 (i:Nat)∧f 2=.int .i64 (n:Nat)∧f 7=.int .i64 (j:Nat)

theorem JC (a b:Nat)(h:a+b≤maxLen):IntKind.i64.wrap ((a:Int)+(b:Int))=((a+b:Nat):Int):=by
 simp only[maxLen]at h;rw[Jb];omega

theorem Hk (s:List UInt8)(i n:Nat)(hi:i+n≤maxLen):Qj Tryz.prog 194 [.str s,.int .i64 (i:Nat),.int .i64 (n:Nat)] (.bool (tl s i n)):=by
 refine Qtg.fn (by simp) ?_;simp only[Qa,seval];refine Qf (QJZ s i n) _ ⟨_,0,rfl,rfl,QVr _,rfl,rfl,rfl,rfl,rfl⟩ ?_;rintro _ st ⟨f,j,rfl,rfl,hj,ht,h0,h1,h2,h7⟩;simp only[h2,h7,Qa,seval];by_cases hlt:j<n
 ·have e0:=JC i j (by omega);have e1:=Qh j _ hlt (by omega);simp only[Qs hlt,h0,h1,h7,e0,Qa,seval];refine aC (B9 s (i+j) 128 191) ?_;have hs:tl s i n=(bt s (i+j) 128 191&&tl s (i+(j+1)) (n-(j+1))):=by
   rw[ht];obtain⟨m,hm⟩:∃m,n-j=m+1:=⟨n-j-1,by omega⟩;rw[hm,show n-(j+1)=m by omega];rfl
  cases hb:bt s (i+j) 128 191
  ·rw[hb]at hs;simp only[hs,QWL,Qa,seval]
  ·rw[hb,QWY]at hs;simp only[h7,e1,Qa,seval];exact⟨n-(j+1),by omega,_,j+1,rfl,rfl,by omega,hs,(by exact h0),(by exact h1),(by exact h2),(by rfl)⟩
 ·have hs:tl s i n=true:=by
   rw[ht,show n-j=0 by omega];rfl
  simp only[Qu hlt,hs,Qa,seval]

def Na (s:List UInt8)(i:Nat)(c:UInt8)(D:Nat)(cond:Prop)(g:List Am.Item):Prop :=
 ∀Q:St→Prop,(∀f' B,(B=true↔cond)→f' 0=.str s→f' 1=.int .i64 (i:Nat)→f' 5=.int .u8 (c.toNat:Nat)→f' D=.bool B→Q ⟨f',[Qg],[]⟩)→
  ∀f,f 0=.str s→f 1=.int .i64 (i:Nat)→f 5=.int .u8 (c.toNat:Nat)→Ql Tryz.prog g ⟨f,[Qg],[]⟩ Q

section
variable {s:List UInt8}{i:Nat}{c:UInt8}(hi:i<s.length)(hs:s.length+8≤maxLen)
include hi hs

theorem QOW:Na s i c 12 (194≤c.toNat∧c.toNat≤223∧tl s (i+1) 1=true) Bp:=by
 intro Q hQ f h0 h1 h5;have e1:IntKind.i64.wrap ((i:Int)+1)=((i+1:Nat):Int):=JC i 1 (by omega);have e2:IntKind.i64.wrap ((i:Int)+2)=((i+2:Nat):Int):=JC i 2 (by omega);simp only[Bp,h5,Qa,seval]
 repeat' (first|(refine Zb (fun h=>?_) (fun h=>?_)<;>simp only[h,h0,h1,h5,e1,e2,eE,seval])|(refine ZP (fun h=>?_) (fun h=>?_)<;>simp only[h,Qm,h0,h1,h5,e1,Qa,seval])|(refine ZQ (fun h=>?_) (fun h=>?_)<;>simp only[h,Qm,h0,h1,h5,e1,e2,eE,seval])|((with_reducible apply Xe (k:=194));(case hy=>rfl);(case h1=>rfl);(case hk=>exact Hk s (i+1) 1 (by omega));(case h2=>rfl);(case h3=>first|exact .inl rfl|exact .inr rfl);simp only[Qa,seval]))
 all_goals(refine hQ _ _ ?_ (by exact h0) (by exact h1) (by exact h5) rfl)
 all_goals simp only[QWA,QXc]at *
 all_goals
  constructor
  ·intro hh
   first
    |cases hh
    |(refine⟨by omega,?_⟩;first|exact hh|(refine⟨by omega,?_⟩;first|exact hh|(refine⟨by omega,?_⟩;exact hh))|exact⟨by assumption,hh⟩)
  ·intro hh
   first
    |exact hh.2.2.2
    |exact hh.2.2
    |(exfalso;omega)
    |(exfalso;simp_all;done)

theorem QOX:Na s i c 25 (c.toNat=224∧bt s (i+1) 160 191=true∧tl s (i+2) 1=true) Bq:=by
 intro Q hQ f h0 h1 h5;have e1:IntKind.i64.wrap ((i:Int)+1)=((i+1:Nat):Int):=JC i 1 (by omega);have e2:IntKind.i64.wrap ((i:Int)+2)=((i+2:Nat):Int):=JC i 2 (by omega);simp only[Bq,h5,Qa,seval]
 repeat' (first|(refine Zb (fun h=>?_) (fun h=>?_)<;>simp only[h,h0,h1,h5,e1,e2,eE,seval])|(refine ZP (fun h=>?_) (fun h=>?_)<;>simp only[h,Qm,h0,h1,e1,e2,Qa,seval])|(refine ZQ (fun h=>?_) (fun h=>?_)<;>simp only[h,Qm,h0,h1,h5,e1,e2,eE,seval])|((with_reducible apply Xe (k:=195));(case hy=>rfl);(case h1=>rfl);(case hk=>exact B9 s (i+1) 160 191);(case h2=>rfl);(case h3=>first|exact .inl rfl|exact .inr rfl);simp only[Qa,seval])|((with_reducible apply Xe (k:=194));(case hy=>rfl);(case h1=>rfl);(case hk=>exact Hk s (i+2) 1 (by omega));(case h2=>rfl);(case h3=>first|exact .inl rfl|exact .inr rfl);simp only[Qa,seval]))
 all_goals(refine hQ _ _ ?_ (by exact h0) (by exact h1) (by exact h5) rfl)
 all_goals simp only[QVG,QXd,ne_eq]at *
 all_goals
  constructor
  ·intro hh
   first
    |cases hh
    |(refine⟨by omega,?_⟩;first|exact hh|(refine⟨by omega,?_⟩;first|exact hh|(refine⟨by omega,?_⟩;exact hh))|exact⟨by assumption,hh⟩)
  ·intro hh
   first
    |exact hh.2.2.2
    |exact hh.2.2
    |(exfalso;omega)
    |(exfalso;simp_all;done)

theorem QOY:Na s i c 40 (c.toNat=237∧bt s (i+1) 128 159=true∧tl s (i+2) 1=true) Bs:=by
 intro Q hQ f h0 h1 h5;have e1:IntKind.i64.wrap ((i:Int)+1)=((i+1:Nat):Int):=JC i 1 (by omega);have e2:IntKind.i64.wrap ((i:Int)+2)=((i+2:Nat):Int):=JC i 2 (by omega);simp only[Bs,h5,Qa,seval]
 repeat' (first|(refine Zb (fun h=>?_) (fun h=>?_)<;>simp only[h,h0,h1,h5,e1,e2,eE,seval])|(refine ZP (fun h=>?_) (fun h=>?_)<;>simp only[h,Qm,h0,h1,e1,e2,Qa,seval])|(refine ZQ (fun h=>?_) (fun h=>?_)<;>simp only[h,Qm,h0,h1,h5,e1,e2,eE,seval])|((with_reducible apply Xe (k:=195));(case hy=>rfl);(case h1=>rfl);(case hk=>exact B9 s (i+1) 128 159);(case h2=>rfl);(case h3=>first|exact .inl rfl|exact .inr rfl);simp only[Qa,seval])|((with_reducible apply Xe (k:=194));(case hy=>rfl);(case h1=>rfl);(case hk=>exact Hk s (i+2) 1 (by omega));(case h2=>rfl);(case h3=>first|exact .inl rfl|exact .inr rfl);simp only[Qa,seval]))
 all_goals(refine hQ _ _ ?_ (by exact h0) (by exact h1) (by exact h5) rfl)
 all_goals simp only[QVG,QXd,ne_eq]at *
 all_goals
  constructor
  ·intro hh
   first
    |cases hh
    |(refine⟨by omega,?_⟩;first|exact hh|(refine⟨by omega,?_⟩;first|exact hh|(refine⟨by omega,?_⟩;exact hh))|exact⟨by assumption,hh⟩)
  ·intro hh
   first
    |exact hh.2.2.2
    |exact hh.2.2
    |(exfalso;omega)
    |(exfalso;simp_all;done)

theorem QJ0:Na s i c 55 (225≤c.toNat∧c.toNat≤239∧c.toNat≠237∧tl s (i+1) 2=true) GT:=by
 intro Q hQ f h0 h1 h5;have e1:IntKind.i64.wrap ((i:Int)+1)=((i+1:Nat):Int):=JC i 1 (by omega);have e2:IntKind.i64.wrap ((i:Int)+2)=((i+2:Nat):Int):=JC i 2 (by omega);simp only[GT,h5,Qa,seval]
 repeat' (first|(refine Zb (fun h=>?_) (fun h=>?_)<;>simp only[h,h0,h1,h5,e1,e2,eE,seval])|(refine ZP (fun h=>?_) (fun h=>?_)<;>simp only[h,Qm,h0,h1,h5,e1,Qa,seval])|(refine ZQ (fun h=>?_) (fun h=>?_)<;>simp only[h,Qm,h0,h1,h5,e1,e2,eE,seval])|((with_reducible apply Xe (k:=194));(case hy=>rfl);(case h1=>rfl);(case hk=>exact Hk s (i+1) 2 (by omega));(case h2=>rfl);(case h3=>first|exact .inl rfl|exact .inr rfl);simp only[Qa,seval]))
 all_goals(refine hQ _ _ ?_ (by exact h0) (by exact h1) (by exact h5) rfl)
 all_goals simp only[QWA,QXc,QVL,bne_eq_false_iff_eq,ne_eq]at *
 all_goals
  constructor
  ·intro hh
   first
    |cases hh
    |(refine⟨by omega,?_⟩;first|exact hh|(refine⟨by omega,?_⟩;first|exact hh|(refine⟨by omega,?_⟩;exact hh))|exact⟨by assumption,hh⟩)
  ·intro hh
   first
    |exact hh.2.2.2
    |exact hh.2.2
    |(exfalso;omega)
    |(exfalso;simp_all;done)

theorem QJ1:Na s i c 72 (c.toNat=240∧bt s (i+1) 144 191=true∧tl s (i+2) 2=true) GU:=by
 intro Q hQ f h0 h1 h5;have e1:IntKind.i64.wrap ((i:Int)+1)=((i+1:Nat):Int):=JC i 1 (by omega);have e2:IntKind.i64.wrap ((i:Int)+2)=((i+2:Nat):Int):=JC i 2 (by omega);simp only[GU,h5,Qa,seval]
 repeat' (first|(refine Zb (fun h=>?_) (fun h=>?_)<;>simp only[h,h0,h1,h5,e1,e2,eE,seval])|(refine ZP (fun h=>?_) (fun h=>?_)<;>simp only[h,Qm,h0,h1,e1,e2,Qa,seval])|(refine ZQ (fun h=>?_) (fun h=>?_)<;>simp only[h,Qm,h0,h1,h5,e1,e2,eE,seval])|((with_reducible apply Xe (k:=195));(case hy=>rfl);(case h1=>rfl);(case hk=>exact B9 s (i+1) 144 191);(case h2=>rfl);(case h3=>first|exact .inl rfl|exact .inr rfl);simp only[Qa,seval])|((with_reducible apply Xe (k:=194));(case hy=>rfl);(case h1=>rfl);(case hk=>exact Hk s (i+2) 2 (by omega));(case h2=>rfl);(case h3=>first|exact .inl rfl|exact .inr rfl);simp only[Qa,seval]))
 all_goals(refine hQ _ _ ?_ (by exact h0) (by exact h1) (by exact h5) rfl)
 all_goals simp only[QVG,QXd,ne_eq]at *
 all_goals
  constructor
  ·intro hh
   first
    |cases hh
    |(refine⟨by omega,?_⟩;first|exact hh|(refine⟨by omega,?_⟩;first|exact hh|(refine⟨by omega,?_⟩;exact hh))|exact⟨by assumption,hh⟩)
  ·intro hh
   first
    |exact hh.2.2.2
    |exact hh.2.2
    |(exfalso;omega)
    |(exfalso;simp_all;done)

theorem QJ2:Na s i c 87 (241≤c.toNat∧c.toNat≤243∧tl s (i+1) 3=true) GV:=by
 intro Q hQ f h0 h1 h5;have e1:IntKind.i64.wrap ((i:Int)+1)=((i+1:Nat):Int):=JC i 1 (by omega);have e2:IntKind.i64.wrap ((i:Int)+2)=((i+2:Nat):Int):=JC i 2 (by omega);simp only[GV,h5,Qa,seval]
 repeat' (first|(refine Zb (fun h=>?_) (fun h=>?_)<;>simp only[h,h0,h1,h5,e1,e2,eE,seval])|(refine ZP (fun h=>?_) (fun h=>?_)<;>simp only[h,Qm,h0,h1,h5,e1,Qa,seval])|(refine ZQ (fun h=>?_) (fun h=>?_)<;>simp only[h,Qm,h0,h1,h5,e1,e2,eE,seval])|((with_reducible apply Xe (k:=194));(case hy=>rfl);(case h1=>rfl);(case hk=>exact Hk s (i+1) 3 (by omega));(case h2=>rfl);(case h3=>first|exact .inl rfl|exact .inr rfl);simp only[Qa,seval]))
 all_goals(refine hQ _ _ ?_ (by exact h0) (by exact h1) (by exact h5) rfl)
 all_goals simp only[QWA,QXc]at *
 all_goals
  constructor
  ·intro hh
   first
    |cases hh
    |(refine⟨by omega,?_⟩;first|exact hh|(refine⟨by omega,?_⟩;first|exact hh|(refine⟨by omega,?_⟩;exact hh))|exact⟨by assumption,hh⟩)
  ·intro hh
   first
    |exact hh.2.2.2
    |exact hh.2.2
    |(exfalso;omega)
    |(exfalso;simp_all;done)

theorem QJ3:Na s i c 100 (c.toNat=244∧bt s (i+1) 128 143=true∧tl s (i+2) 2=true) GW:=by
 intro Q hQ f h0 h1 h5;have e1:IntKind.i64.wrap ((i:Int)+1)=((i+1:Nat):Int):=JC i 1 (by omega);have e2:IntKind.i64.wrap ((i:Int)+2)=((i+2:Nat):Int):=JC i 2 (by omega);simp only[GW,h5,Qa,seval]
 repeat' (first|(refine Zb (fun h=>?_) (fun h=>?_)<;>simp only[h,h0,h1,h5,e1,e2,eE,seval])|(refine ZP (fun h=>?_) (fun h=>?_)<;>simp only[h,Qm,h0,h1,e1,e2,Qa,seval])|(refine ZQ (fun h=>?_) (fun h=>?_)<;>simp only[h,Qm,h0,h1,h5,e1,e2,eE,seval])|((with_reducible apply Xe (k:=195));(case hy=>rfl);(case h1=>rfl);(case hk=>exact B9 s (i+1) 128 143);(case h2=>rfl);(case h3=>first|exact .inl rfl|exact .inr rfl);simp only[Qa,seval])|((with_reducible apply Xe (k:=194));(case hy=>rfl);(case h1=>rfl);(case hk=>exact Hk s (i+2) 2 (by omega));(case h2=>rfl);(case h3=>first|exact .inl rfl|exact .inr rfl);simp only[Qa,seval]))
 all_goals(refine hQ _ _ ?_ (by exact h0) (by exact h1) (by exact h5) rfl)
 all_goals simp only[QVG,QXd,ne_eq]at *
 all_goals
  constructor
  ·intro hh
   first
    |cases hh
    |(refine⟨by omega,?_⟩;first|exact hh|(refine⟨by omega,?_⟩;first|exact hh|(refine⟨by omega,?_⟩;exact hh))|exact⟨by assumption,hh⟩)
  ·intro hh
   first
    |exact hh.2.2.2
    |exact hh.2.2
    |(exfalso;omega)
    |(exfalso;simp_all;done)

end

theorem QOZ (s:List UInt8)(i:Nat)(hi:i<s.length)(hs:s.length+8≤maxLen):Qj Tryz.prog 161 [.str s,.int .i64 (i:Nat)] (.int .i64 (sz s i:Nat)):=by
 refine Qs5.fn (by simp) ?_;obtain⟨c,hc⟩:∃c,s[i]? = some c:=⟨s[i],QVl hi⟩;have hz:sz s i=DP s i c.toNat:=by simp only[sz,hc]
 unfold DP at hz;simp only[P5,P6,P7,P8,P9,Ra,Rb,Vr,Vs,Vt,Vu,Vv,TK,TL,Qd,QWH,hc,Qa,seval];refine Zb (fun h=>?_) (fun h=>?_)
 ·have h:c.toNat<128:=by simp at h;omega
  rw[hz,QVq h];simp only[Qa,seval]
  try rfl
 have h:¬c.toNat<128:=by simp at h;omega
 rw[hz,QVp h];simp only[Qa,seval];refine QOW hi hs _ (fun f B hB h0 h1 h5 hd=>?_) _ (by rfl) (by rfl) (by rfl);by_cases hB1:B=true
 ·rw[QVq (hB.1 hB1)];subst hB1;simp only[hd,Qa,seval]
  try rfl
 rw[QVp (fun hh=>hB1 (hB.2 hh))];have hB2:B=false:=by simpa using hB1
 subst hB2;simp only[hd,Qa,seval];refine QOX hi hs _ (fun f B hB h0 h1 h5 hd=>?_) _ (by exact h0) (by exact h1) (by exact h5);by_cases hB1:B=true
 ·rw[QVq (hB.1 hB1)];subst hB1;simp only[hd,Qa,seval]
  try rfl
 rw[QVp (fun hh=>hB1 (hB.2 hh))];have hB2:B=false:=by simpa using hB1
 subst hB2;simp only[hd,Qa,seval];refine QOY hi hs _ (fun f B hB h0 h1 h5 hd=>?_) _ (by exact h0) (by exact h1) (by exact h5);by_cases hB1:B=true
 ·rw[QVq (hB.1 hB1)];subst hB1;simp only[hd,Qa,seval]
  try rfl
 rw[QVp (fun hh=>hB1 (hB.2 hh))];have hB2:B=false:=by simpa using hB1
 subst hB2;simp only[hd,Qa,seval];refine QJ0 hi hs _ (fun f B hB h0 h1 h5 hd=>?_) _ (by exact h0) (by exact h1) (by exact h5);by_cases hB1:B=true
 ·rw[QVq (hB.1 hB1)];subst hB1;simp only[hd,Qa,seval]
  try rfl
 rw[QVp (fun hh=>hB1 (hB.2 hh))];have hB2:B=false:=by simpa using hB1
 subst hB2;simp only[hd,Qa,seval];refine QJ1 hi hs _ (fun f B hB h0 h1 h5 hd=>?_) _ (by exact h0) (by exact h1) (by exact h5);by_cases hB1:B=true
 ·rw[QVq (hB.1 hB1)];subst hB1;simp only[hd,Qa,seval]
  try rfl
 rw[QVp (fun hh=>hB1 (hB.2 hh))];have hB2:B=false:=by simpa using hB1
 subst hB2;simp only[hd,Qa,seval];refine QJ2 hi hs _ (fun f B hB h0 h1 h5 hd=>?_) _ (by exact h0) (by exact h1) (by exact h5);by_cases hB1:B=true
 ·rw[QVq (hB.1 hB1)];subst hB1;simp only[hd,Qa,seval]
  try rfl
 rw[QVp (fun hh=>hB1 (hB.2 hh))];have hB2:B=false:=by simpa using hB1
 subst hB2;simp only[hd,Qa,seval];refine QJ3 hi hs _ (fun f B hB h0 h1 h5 hd=>?_) _ (by exact h0) (by exact h1) (by exact h5);by_cases hB1:B=true
 ·rw[QVq (hB.1 hB1)];subst hB1;simp only[hd,Qa,seval]
  try rfl
 rw[QVp (fun hh=>hB1 (hB.2 hh))];have hB2:B=false:=by simpa using hB1
 subst hB2;simp only[hd,Qa,seval]
 try rfl

theorem IA (s:List UInt8)(i:Nat)(hi:i<s.length)(_h:sz s i≠0):i+sz s i≤s.length:=by
 have tl1:∀n j,tl s j n=true→n≠0→j+n≤s.length:=by
  intro n
  induction n with
  |zero=>intro j _ h;exact absurd rfl h
  |succ n ih=>
   intro j hj _;simp only[tl,QVF]at hj;have hb:j<s.length:=by
    have h1:=hj.1;unfold bt at h1;split at h1
    ·rename_i b hb;exact(QVk.1 hb).1
    ·cases h1
   by_cases h0:n=0
   ·subst h0;omega
   ·have:=ih (j+1) hj.2 h0;omega
 obtain⟨c,hc⟩:∃c,s[i]? = some c:=⟨s[i],QVl hi⟩;simp only[sz,hc]at _h ⊢;unfold DP at _h ⊢
 (repeat' split)<;>first
  |omega
  |(rename_i hh;have:=tl1 _ _ hh.2.2 (by decide);omega)
  |(rename_i hh;have:=tl1 _ _ hh.2.2.2 (by decide);omega)
  |simp_all

def QO0 (s:List UInt8)(k:Nat)(st:St):Prop :=
 ∃f i,st=⟨f,[Qg],[]⟩∧i≤s.length∧s.length-i≤k∧Z4 s s.length 0=Z4 s k i∧f 0=.str s∧f 3=.int .i64 (i:Nat)

theorem QO1 (s:List UInt8)(hs:s.length+8≤maxLen):Qj Tryz.prog 129 [.str s] (.int .i64 (Z4 s s.length 0)):=by
 refine QsC.fn (by simp) ?_;simp only[Qa,seval];refine Qf (QO0 s) s.length ⟨_,0,rfl,QVr _,QVi _,rfl,rfl,rfl⟩ ?_;rintro k st ⟨f,i,rfl,hi,hk,hb,h0,h3⟩;simp only[h0,h3,Qa,seval];by_cases hlt:i<s.length
 ·simp only[Qs hlt,h0,h3,Qa,seval];refine aC (QOZ s i hlt hs) ?_;obtain⟨k,rfl⟩:∃n,k=n+1:=⟨k-1,by omega⟩;have hbk:Z4 s (k+1) i=if sz s i=0 then(i:Int)else Z4 s k (i+sz s i):=by
   show(if i<s.length then _ else _)=_;rw[QVq hlt]
  by_cases hz:sz s i=0
  ·have b0:((sz s i:Int)==0)=true:=by simp[hz]
   simp only[b0,h3,hb,hbk,QVq hz,Qa,seval]
  ·have b0:((sz s i:Int)==0)=false:=by simp;omega
   have hle:=IA s i hlt hz;have e0:=JC i (sz s i) (by omega);simp only[b0,h3,e0,Qa,seval];exact⟨k,by omega,_,i+sz s i,rfl,hle,by omega,by rw[hb,hbk,QVp hz],(by exact h0),(by rfl)⟩
 ·have hbk:Z4 s k i = -1:=by
   cases k with
   |zero=>rfl
   |succ k=>
    show(if i<s.length then _ else _)=_;rw[QVp hlt]
  simp only[Qu hlt,hb,hbk,Qa,seval]

theorem c96 (s:List UInt8)(hs:s.length+8≤maxLen):Qj Tryz.prog 96 [.str s] (.bool (Ji s)):=by
 refine k96.fn (by simp) ?_;simp only[Qa,seval];refine aC (QO1 s hs) ?_;simp only[Qa,seval]
 try rfl

def KU (s:List UInt8)(i:Nat):Bool:=(s.drop i).take 3==[239,191,189]

theorem QO2 (s t:List UInt8):Qj Tryz.prog 247 [.str s,.str t] (.bool (s.take t.length==t)):=by
 refine Qrf.fn (by simp) ?_;by_cases h:t.length≤s.length
 ·have d0:decide ((s.length:Int)≥(t.length:Int))=true:=by simp;omega
  have s1:(0≤t.length∧t.length≤s.length)=True:=by simp;omega
  simp only[d0,Qd,s1,QWH,Qz,QWb,QVY,Qa,seval]
 ·have d0:decide ((s.length:Int)≥(t.length:Int))=false:=by simp;omega
  have e0:(s.take t.length==t)=false:=by
   rw[QXd];intro hh;have:=congrArg List.length hh;simp at this;omega
  simp only[d0,e0,Qa,seval]

theorem QO3 (s t:List UInt8):Qj Tryz.prog 240 [.str s,.str t] (.bool (s.take t.length==t)):=by
 refine QqL.fn (by simp) ?_;simp only[Qa,seval];refine aC (QO2 s t) ?_;simp only[Qa,seval]

theorem QO4 (s:List UInt8)(i:Nat)(hi:i≤s.length)(c:Nat):Qj Tryz.prog 229 [.str s,.int .i64 (i:Nat),.int .i32 (c:Nat)] (.bool (decide (c=65533) && !KU s i)):=by
 refine Qo0.fn (by simp) ?_;by_cases hc:c=65533
 ·have b0:((c:Int)==65533)=true:=by simp[hc]
  have s1:(i≤s.length∧s.length≤s.length)=True:=by simp;omega
  simp only[b0,Qd,s1,QWH,Qa,seval];refine aC (QO3 (List.take (s.length-i) (List.drop i s)) [239,191,189]) ?_;have ht:List.take (s.length-i) (List.drop i s)=List.drop i s:=QVQ (by simp);simp only[ht,KU,hc,Qa,seval]
 ·have b0:((c:Int)==65533)=false:=by simp;omega
  simp only[b0,hc,Qa,seval];simp

open Vp

theorem JN (s:List UInt8)(j:Nat)(c:UInt8)(h:s[j]? = some c):(⟨⟨s⟩⟩:ByteArray).get! j=c:=by
 show(⟨s⟩:Array UInt8)[j]! = c;simp[h]

theorem G3 (a:UInt8)(n:Nat)(hn:n<256):(a==UInt8.ofNat n)=decide (a.toNat=n):=by
 rw[QV7,QVG,QWA]
 constructor
 ·rintro rfl;rw[UW _ hn]
 ·intro h;rw[←UInt8.toNat_inj,UW _ hn,h]

set_option maxHeartbeats 4000000 in
theorem QO5 (s:List UInt8)(i:Nat)(a b c d:UInt8)(t:List UInt8)(hr:s.drop i=a :: b :: c :: d :: t):(decide ((Xz s i).1=65533) && !KU s i)=decide (sz s i=0)∧(sz s i≠0→(Xz s i).2=sz s i):=by
 have hsz:∀j,(s[i+j]? = (a :: b :: c :: d :: t)[j]?):=fun j=>by rw[←hr,QVW]
 have hn:ByteArray.size ⟨⟨s⟩⟩=s.length:=rfl;have hl:s.length=i+(a :: b :: c :: d :: t).length:=by
  have h:=congrArg List.length hr;simp at h ⊢;omega
 have h0:=hsz 0;have h1:=hsz 1;have h2:=hsz 2;have h3:=hsz 3;simp only[QVO]at h0;have g0:=JN s i a h0;have g1:=JN s (i+1) b h1;have g2:=JN s (i+2) c h2;have g3:=JN s (i+3) d h3;have l1:(i+1<s.length)=True:=by simp at hl ⊢;omega
 have l2:(i+2<s.length)=True:=by simp at hl ⊢;omega
 have l3:(i+3<s.length)=True:=by simp at hl ⊢;omega
 have wa:=a.toNat_lt;have wb:=b.toNat_lt;have wc:=c.toNat_lt;have wd:=d.toNat_lt;have hrep:KU s i=(decide (a.toNat=239)&&(decide (b.toNat=191)&&decide (c.toNat=189))):=by
  rw[←G3 a 239 (by decide),←G3 b 191 (by decide),←G3 c 189 (by decide)];simp[KU,hr]
 simp only[QWk,QWf]at h0 h1 h2 h3;generalize hD:Xz s i=D;generalize hS:sz s i=S;rw[hrep];simp only[Xz,Utf8.decode,Utf8.valid,Utf8.runeError,hn,l1,l2,l3,QVO,g0,g1,g2,g3,sz,h0,DP,tl,bt,QVh,seval,h1,h2,h3,decide_true,QWY,QWs,QVF,QWc,QWA,QVG,ge_iff_le]at hD hS;clear hsz hr hl h0 h1 h2 h3 g0 g1 g2 g3 l1 l2 l3 hrep hn;generalize a.toNat=x at *;generalize b.toNat=y at *;generalize c.toNat=z at *;generalize d.toNat=u at *
 (repeat' split at hD)<;>subst hD<;>(repeat' split at hS)<;>subst hS<;>refine⟨?_,?_⟩<;>(try rw[QV7])<;>(try simp only[QVF,QWA,QV9,QXh,QXc])<;>first|omega|(intro _;rfl)|(simp;done)|(simp;omega)

theorem TW (s:List UInt8)(i:Nat)(hi:i<s.length):(decide ((Xz s i).1=65533) && !KU s i)=decide (sz s i=0)∧(sz s i≠0→(Xz s i).2=sz s i):=by
 have hsz:∀j,(s[i+j]? = (s.drop i)[j]?):=fun j=>by rw[QVW]
 have hn:ByteArray.size ⟨⟨s⟩⟩=s.length:=rfl;have hl:s.length=i+(s.drop i).length:=by simp;omega
 generalize hr:s.drop i=r at hsz hl;have h0:=hsz 0;have h1:=hsz 1;have h2:=hsz 2;have h3:=hsz 3;simp only[QVO]at h0
 match r,hl with
 | [],hl=>simp at hl;omega
 | [a],hl=>
  have g0:=JN s i a h0;have l1:(i+1<s.length)=False:=by simp at hl ⊢;omega
  have l2:(i+2<s.length)=False:=by simp at hl ⊢;omega
  have l3:(i+3<s.length)=False:=by simp at hl ⊢;omega
  have wa:=a.toNat_lt;have hrep:KU s i=false:=by simp[KU,hr]
  simp only[QWk,List.getElem?_nil,QWf]at h0 h1 h2 h3;simp only[Xz,Utf8.decode,Utf8.runeError,hn,l1,l2,l3,QVO,g0,sz,h0,DP,tl,bt,QVh,seval,h1,h2,h3,hrep,decide_false,QWL,QXe,QWs,QVB,and_false]
  (repeat' split)<;>refine⟨?_,?_⟩<;>(try rw[QV7])<;>(try simp only[QWA,QWl,QWs])<;>first|omega|(intro _;rfl)|(intro _;omega)|(simp;done)|(simp;omega)
 | [a,b],hl=>
  have g0:=JN s i a h0;have g1:=JN s (i+1) b h1;have l1:(i+1<s.length)=True:=by simp at hl ⊢;omega
  have l2:(i+2<s.length)=False:=by simp at hl ⊢;omega
  have l3:(i+3<s.length)=False:=by simp at hl ⊢;omega
  have wa:=a.toNat_lt;have wb:=b.toNat_lt;have hrep:KU s i=false:=by simp[KU,hr]
  simp only[QWk,List.getElem?_nil,QWf]at h0 h1 h2 h3;simp only[Xz,Utf8.decode,Utf8.runeError,hn,l1,l2,l3,QVO,g0,g1,sz,h0,DP,tl,bt,QVh,seval,h1,h2,h3,hrep,decide_false,decide_true,QWL,QXe,QWY,QWs,QVB,and_false,QVF,QWA,QVG,ge_iff_le]
  (repeat' split)<;>refine⟨?_,?_⟩<;>(try rw[QV7])<;>(try simp only[QWA,QWl,QWs])<;>first|omega|(intro _;rfl)|(intro _;omega)|(simp;done)|(simp;omega)
 | [a,b,c],hl=>
  have g0:=JN s i a h0;have g1:=JN s (i+1) b h1;have g2:=JN s (i+2) c h2;have l1:(i+1<s.length)=True:=by simp at hl ⊢;omega
  have l2:(i+2<s.length)=True:=by simp at hl ⊢;omega
  have l3:(i+3<s.length)=False:=by simp at hl ⊢;omega
  have wa:=a.toNat_lt;have wb:=b.toNat_lt;have wc:=c.toNat_lt;have hrep:KU s i=(decide (a.toNat=239)&&(decide (b.toNat=191)&&decide (c.toNat=189))):=by
   rw[←G3 a 239 (by decide),←G3 b 191 (by decide),←G3 c 189 (by decide)];simp[KU,hr]
  simp only[QWk,List.getElem?_nil,QWf]at h0 h1 h2 h3;simp only[Xz,Utf8.decode,Utf8.valid,Utf8.runeError,hn,l1,l2,l3,QVO,g0,g1,g2,sz,h0,DP,tl,bt,QVh,seval,h1,h2,h3,hrep,decide_false,decide_true,QWL,QXe,QWY,QWs,QVB,and_false,QVF,QWc,QWA,QVG,ge_iff_le]
  (repeat' split)<;>refine⟨?_,?_⟩<;>(try rw[QV7])<;>(try simp only[QVF,QWA,QV9,QXc,QXh])<;>first|omega|(intro _;rfl)|(intro _;omega)|(simp;done)|(simp;omega)
 |a :: b :: c :: d :: t,hl=>exact QO5 s i a b c d t hr

def QO6 (s:List UInt8)(k:Nat)(st:St):Prop :=
 ∃f fr i,st=⟨f,[fr],[]⟩∧i≤s.length∧s.length-i≤k∧Z4 s s.length 0=Z4 s k i∧f 0=.str s∧f 6=.ptr 0 6 0∧fr 6=.iter (.str s) i

theorem QO7 (s:List UInt8):Qj Tryz.prog 207 [.str s] (.int .i64 (Z4 s s.length 0)):=by
 refine QmG.fn (by simp) ?_;simp only[Qa,seval];refine Dy rfl rfl ?_;simp only[Qa,seval];refine Qf (QO6 s) s.length ⟨_,_,0,rfl,QVr _,QVi _,rfl,(by rfl),(by rfl),(by rfl)⟩ ?_;rintro k st ⟨f,fr,i,rfl,hi,hk,hb,h0,h6,m6⟩;simp only[Qa,seval];refine Dz (by exact h6) m6 (fun hlt=>?_) (fun hge=>?_)
 ·obtain⟨hd,hw⟩:=TW s i hlt;obtain⟨k,rfl⟩:∃n,k=n+1:=⟨k-1,by omega⟩;have hbk:Z4 s (k+1) i=if sz s i=0 then(i:Int)else Z4 s k (i+sz s i):=by
   show(if i<s.length then _ else _)=_;rw[QVq hlt]
  have hwr:=QO4 s i hi (Xz s i).1;rw[hd]at hwr;generalize Xz s i=cw at hw hwr;obtain⟨c,w⟩:=cw;simp only[h0,Qa,seval];refine aC hwr ?_;by_cases hz:sz s i=0
  ·simp only[hz,decide_true,hb,hbk,Qa,seval]
  ·have hw:=hw hz;simp only at hw;have hle:=IA s i hlt hz;simp only[hz,decide_false,Qa,seval];exact⟨k,by omega,_,_,i+sz s i,rfl,hle,by omega,by rw[hb,hbk,QVp hz],(by exact h0),(by exact h6),by rw[←hw]<;>first|rfl|simp only[eE,seval]⟩
 ·have hbk:Z4 s k i = -1:=by
   cases k with
   |zero=>rfl
   |succ k=>
    show(if i<s.length then _ else _)=_;rw[QVp (by omega)]
  simp only[hb,hbk,Qa,seval]

theorem Qy2 (s:List UInt8):Qj Tryz.prog 170 [.str s] (.bool (Ji s)):=by
 refine Qjv.fn (by simp) ?_;simp only[Qa,seval];refine aC (QO7 s) ?_;simp only[Qa,seval]
 try rfl

end Go.Proofs.YtjjmjopabpakoaaGreatDoor.Va

namespace Go.Proofs.YtjjmjopabpakoaaGreatDoor.Va
open Go Am Rc Bt

def G4 (k:Int)(b:Nat):Bool :=
 if k=1 then decide ((b:Int)≤1)else if k=2 then decide (IntKind.i64.wrap (b:Int)≥-2147483648)&&decide (IntKind.i64.wrap (b:Int)≤2147483647)
 else if k=4 then decide ((b:Int)<4294967296)else if k=9 then decide ((b:Int)<2147483648)else true

theorem QO8 (k:Int)(b:Nat):Qj Tryz.prog 217 [.int .i64 k,.int .u64 (b:Nat)] (.bool (G4 k b)):=by
 have e1:decide ((b:Int)≤4294967295)=decide ((b:Int)<4294967296):=by rw[decide_eq_decide];omega
 have e2:decide ((b:Int)≤2147483647)=decide ((b:Int)<2147483648):=by rw[decide_eq_decide];omega
 refine QnT.fn (by simp) ?_;simp only[Qa,seval];unfold G4;by_cases h1:k=1
 ·subst h1;have b1:((1:Int)==1)=true:=rfl;simp only[b1,Qa,seval]
 ·have b1:(k==1)=false:=by simp[h1]
  by_cases h2:k=2
  ·subst h2;have b2:((2:Int)==2)=true:=rfl;simp only[b1,b2,h1,Qa,seval];cases hd:decide (IntKind.i64.wrap (b:Int)≥-2147483648)<;>simp only[QWY,QWL,Qa,seval]
  ·have b2:(k==2)=false:=by simp[h2]
   by_cases h9:k=9
   ·subst h9;have b9:((9:Int)==9)=true:=rfl;simp only[b1,b2,b9,h1,h2,e2,Qa,seval]
   ·have b9:(k==9)=false:=by simp[h9]
    by_cases h4:k=4
    ·subst h4;have b4:((4:Int)==4)=true:=rfl;simp only[b1,b2,b9,b4,h1,h2,e1,Qa,seval]
    ·have b4:(k==4)=false:=by simp[h4]
     simp only[b1,b2,b9,b4,h1,h2,h4,h9,Qa,seval]

end Go.Proofs.YtjjmjopabpakoaaGreatDoor.Va

namespace Go.Proofs.YtjjmjopabpakoaaGreatDoor.Ev
open Go Am Rc

def tab:FY:=fun k=>match k with
 |6=>some (r6,o6,27)
 |10=>some (Bb,XG,51)
 |17=>some (r17,o17,13)
 |12=>some (Kr,o12,21)
 |27=>some (r27,o27,13)
 |18=>some (r18,o18,67)
 |19=>some (r19,o19,121)
 |20=>some (DM,J4,130)
 |7=>some (r7,o7,64)
 |28=>some (r28,o28,45)
 |29=>some (r29,o29,15)
 |30=>some (r30,KO,19)
 |31=>some (r31,o31,29)
 |32=>some (r32,o32,23)
 |33=>some (r33,o33,43)
 |34=>some (r34,o34,89)
 |35=>some (r35,o35,72)
 |36=>some (r36,o36,61)
 |37=>some (r37,o37,91)
 |57=>some (r57,o57,7)
 |58=>some (r58,o58,68)
 |60=>some (r60,MZ,19)
 |61=>some (r61,o61,8)
 |62=>some (r62,o62,23)
 |63=>some (r63,o63,12)
 |64=>some (r64,o64,76)
 |65=>some (r65,o65,54)
 |66=>some (r66,o66,11)
 |67=>some (r67,o67,15)
 |68=>some (r68,o68,43)
 |69=>some (r69,o69,21)
 |98=>some (r98,o98,99)
 |99=>some (r99,o99,12)
 |100=>some (Qep,Bd,19)
 |101=>some (Qet,Qeu,9)
 |102=>some (QeF,QeG,19)
 |104=>some (QeN,QeO,18)
 |105=>some (QeS,QeT,8)
 |106=>some (Qe0,Qe1,20)
 |107=>some (Qe5,Qe6,12)
 |108=>some (Qfa,Qfb,8)
 |109=>some (Qfm,Qfn,40)
 |110=>some (Qft,Qfu,6)
 |111=>some (QfH,QfI,28)
 |112=>some (QfW,QfX,68)
 |113=>some (Qf8,Qf9,19)
 |130=>some (Qgl,Qgm,56)
 |131=>some (Qgq,Qgr,27)
 |132=>some (QgA,QgB,20)
 |133=>some (QgO,QgP,19)
 |134=>some (Qg2,Qg3,42)
 |135=>some (Tw,Tx,79)
 |137=>some (Tz,TA,106)
 |138=>some (Qhg,Qhh,19)
 |139=>some (Qhl,Qhm,9)
 |140=>some (Qhx,Qhy,19)
 |141=>some (QhC,QhD,9)
 |142=>some (QhH,QhI,8)
 |143=>some (QhT,QhU,19)
 |144=>some (Qh6,Qh7,45)
 |145=>some (Qii,Qij,61)
 |146=>some (Qiu,Qiv,77)
 |147=>some (QiF,QiG,19)
 |162=>some (QiK,QiL,9)
 |163=>some (QiP,QiQ,10)
 |164=>some (QiX,QiY,19)
 |165=>some (Qja,Qjb,30)
 |166=>some (Qjg,Qjh,20)
 |167=>some (Qjl,Qjm,11)
 |168=>some (TB,TC,112)
 |169=>some (TD,TE,52)
 |170=>some (Qjt,Qju,6)
 |171=>some (Qjy,Qjz,15)
 |172=>some (QjC,QjD,11)
 |173=>some (QjH,QjI,10)
 |176=>some (QjM,QjN,8)
 |177=>some (QjY,QjZ,19)
 |178=>some (Qj3,Qj4,8)
 |179=>some (Qj9,Qka,20)
 |180=>some (Qkd,Qke,9)
 |181=>some (Qko,Qkp,10)
 |182=>some (Qks,Qkt,9)
 |183=>some (Qkz,QkA,9)
 |184=>some (QkF,QkG,39)
 |185=>some (QkM,QkN,28)
 |186=>some (QkS,QkT,14)
 |196=>some (Qk4,Qk5,19)
 |197=>some (Qk9,Qla,8)
 |198=>some (Qll,Qlm,19)
 |199=>some (Qlq,Qlr,8)
 |200=>some (QlD,QlE,27)
 |201=>some (QlH,QlI,12)
 |202=>some (QlM,QlN,5)
 |203=>some (QlT,QlU,19)
 |204=>some (Ql6,Ql7,57)
 |205=>some (Qmh,Qmi,50)
 |206=>some (Qmt,Qmu,59)
 |207=>some (QmE,QmF,16)
 |208=>some (QmS,QmT,31)
 |209=>some (QmY,QmZ,20)
 |210=>some (Qna,Qnb,36)
 |211=>some (Qnf,Qng,9)
 |213=>some (Qnk,Qnl,9)
 |214=>some (Qnp,Qnq,14)
 |215=>some (Qnw,Qnx,20)
 |216=>some (QnE,QnF,28)
 |217=>some (QnR,QnS,28)
 |218=>some (QnW,QnX,9)
 |219=>some (Qn8,Qn9,29)
 |221=>some (Qom,Qon,66)
 |222=>some (Qor,Qos,9)
 |224=>some (Qoz,QoA,19)
 |225=>some (QoE,QoF,9)
 |226=>some (QoJ,QoK,9)
 |227=>some (QoO,QoP,34)
 |228=>some (QoT,QoU,11)
 |229=>some (QoY,QoZ,16)
 |230=>some (Qpb,Qpc,56)
 |231=>some (Qpo,Qpp,27)
 |232=>some (QpA,QpB,19)
 |233=>some (QpM,QpN,19)
 |234=>some (QpR,QpS,9)
 |235=>some (Qp5,Qp6,50)
 |236=>some (Qqi,Qqj,34)
 |237=>some (Qqn,Qqo,8)
 |238=>some (Qqz,QqA,19)
 |239=>some (QqE,QqF,8)
 |240=>some (QqJ,QqK,8)
 |241=>some (TH,TI,16)
 |242=>some (QqS,QqT,15)
 |243=>some (Qq1,Qq2,10)
 |244=>some (Qq7,Qq8,19)
 |246=>some (CJ,TJ,143)
 |247=>some (Qrd,Qre,18)
 |248=>some (Qri,Qrj,7)
 |249=>some (Qru,Qrv,117)
 |250=>some (Qry,Qrz,8)
 |252=>some (QrD,QrE,6)
 |253=>some (QrR,QrS,81)
 |255=>some (Qr5,Qr6,39)
 |96=>some (r96,o96,6)
 |126=>some (Qsh,Qsi,70)
 |127=>some (Qso,Qsp,14)
 |129=>some (QsA,QsB,18)
 |154=>some (QsF,QsG,9)
 |155=>some (QsK,QsL,25)
 |156=>some (QsP,QsQ,9)
 |157=>some (Qs2,Qs3,18)
 |161=>some (TK,TL,115)
 |194=>some (Qte,Qtf,19)
 |195=>some (Qtj,Qtk,27)
 |148=>some (Qtv,Qtw,35)
 |149=>some (QtH,QtI,49)
 |150=>some (QtT,QtU,101)
 |189=>some (QtX,QtY,13)
 |190=>some (Qt1,Qt2,9)
 |191=>some (Qt7,Qt8,9)
 |220=>some (Qub,Quc,17)
 |193=>some (Quf,Qug,9)
 |188=>some (Quj,Quk,19)
 |192=>some (Quv,Quw,13)
 |187=>some (QuH,QuI,45)
 |_=>none

theorem ZR:H3 Tryz.prog tab:=by
 intro k c rs N h;unfold tab at h;split at h
 ·cases h;exact k6
 ·cases h;exact DL
 ·cases h;exact k17
 ·cases h;exact k12
 ·cases h;exact k27
 ·cases h;exact k18
 ·cases h;exact k19
 ·cases h;exact k20
 ·cases h;exact k7
 ·cases h;exact k28
 ·cases h;exact k29
 ·cases h;exact k30
 ·cases h;exact k31
 ·cases h;exact k32
 ·cases h;exact k33
 ·cases h;exact k34
 ·cases h;exact k35
 ·cases h;exact k36
 ·cases h;exact k37
 ·cases h;exact k57
 ·cases h;exact k58
 ·cases h;exact k60
 ·cases h;exact k61
 ·cases h;exact k62
 ·cases h;exact k63
 ·cases h;exact k64
 ·cases h;exact k65
 ·cases h;exact k66
 ·cases h;exact k67
 ·cases h;exact k68
 ·cases h;exact k69
 ·cases h;exact k98
 ·cases h;exact k99
 ·cases h;exact Qeq
 ·cases h;exact Qev
 ·cases h;exact QeH
 ·cases h;exact QeP
 ·cases h;exact QeU
 ·cases h;exact Qe2
 ·cases h;exact Qe7
 ·cases h;exact Qfc
 ·cases h;exact Qfo
 ·cases h;exact Qfv
 ·cases h;exact QfJ
 ·cases h;exact QfY
 ·cases h;exact Qga
 ·cases h;exact Qgn
 ·cases h;exact Hj
 ·cases h;exact QgC
 ·cases h;exact QgQ
 ·cases h;exact Qg4
 ·cases h;exact Qg5
 ·cases h;exact Qg6
 ·cases h;exact Qhi
 ·cases h;exact Qhn
 ·cases h;exact Qhz
 ·cases h;exact QhE
 ·cases h;exact QhJ
 ·cases h;exact QhV
 ·cases h;exact QMK
 ·cases h;exact QML
 ·cases h;exact QMM
 ·cases h;exact QiH
 ·cases h;exact QiM
 ·cases h;exact QiR
 ·cases h;exact QiZ
 ·cases h;exact Qjc
 ·cases h;exact Qji
 ·cases h;exact Qjn
 ·cases h;exact Qjo
 ·cases h;exact Qjq
 ·cases h;exact Qjv
 ·cases h;exact TF
 ·cases h;exact QjE
 ·cases h;exact QjJ
 ·cases h;exact QjO
 ·cases h;exact Qj0
 ·cases h;exact Qj5
 ·cases h;exact QMN
 ·cases h;exact QMO
 ·cases h;exact QMP
 ·cases h;exact Qku
 ·cases h;exact QMQ
 ·cases h;exact QkH
 ·cases h;exact QMR
 ·cases h;exact QkU
 ·cases h;exact Qk6
 ·cases h;exact Qlb
 ·cases h;exact Qln
 ·cases h;exact Qls
 ·cases h;exact TG
 ·cases h;exact QlJ
 ·cases h;exact QlO
 ·cases h;exact QlV
 ·cases h;exact Ql8
 ·cases h;exact Qmj
 ·cases h;exact Qmv
 ·cases h;exact QmG
 ·cases h;exact QmU
 ·cases h;exact Qm0
 ·cases h;exact Qnc
 ·cases h;exact Qnh
 ·cases h;exact Qnm
 ·cases h;exact Qnr
 ·cases h;exact QMS
 ·cases h;exact QnG
 ·cases h;exact QnT
 ·cases h;exact QMT
 ·cases h;exact Qoa
 ·cases h;exact Qoo
 ·cases h;exact Qot
 ·cases h;exact QoB
 ·cases h;exact QoG
 ·cases h;exact QoL
 ·cases h;exact QoQ
 ·cases h;exact QoV
 ·cases h;exact Qo0
 ·cases h;exact Qpd
 ·cases h;exact Qpq
 ·cases h;exact QpC
 ·cases h;exact QpO
 ·cases h;exact QpT
 ·cases h;exact QMU
 ·cases h;exact Qqk
 ·cases h;exact Qqp
 ·cases h;exact QqB
 ·cases h;exact QqG
 ·cases h;exact QqL
 ·cases h;exact QqO
 ·cases h;exact QqU
 ·cases h;exact QMV
 ·cases h;exact QMW
 ·cases h;exact Qra
 ·cases h;exact Qrf
 ·cases h;exact Qrk
 ·cases h;exact QMX
 ·cases h;exact QrA
 ·cases h;exact QMY
 ·cases h;exact QMZ
 ·cases h;exact QM0
 ·cases h;exact k96
 ·cases h;exact Qsj
 ·cases h;exact Qsq
 ·cases h;exact QsC
 ·cases h;exact QsH
 ·cases h;exact QsM
 ·cases h;exact QsR
 ·cases h;exact Qs4
 ·cases h;exact Qs5
 ·cases h;exact Qtg
 ·cases h;exact Qtl
 ·cases h;exact QM1
 ·cases h;exact QM2
 ·cases h;exact QM3
 ·cases h;exact QM4
 ·cases h;exact QM5
 ·cases h;exact QM6
 ·cases h;exact QM7
 ·cases h;exact QM8
 ·cases h;exact QM9
 ·cases h;exact QNa
 ·cases h;exact QNb
 ·cases h

def Xl:Wi:=fun _ _ _=>none

theorem XX:Wz Tryz.prog Xl:=by
 intro k args m v m' h;cases h

end Go.Proofs.YtjjmjopabpakoaaGreatDoor.Ev

namespace Go.Proofs.YtjjmjopabpakoaaGreatDoor.Va
open Go Am Rc Bt

def vo (k:Int)(b:Nat)(t:List UInt8)(l p s r:List AV):AV:=.agg [.int .i64 k,.int .u64 (b:Nat),.str t,.list l,.list p,.list s,.list r]

section
variable (k:Int)(b:Nat)(t:List UInt8)(l p s r:List AV)

def YO:Bool:=(l.length:Int)==0&&(p.length:Int)==0&&(s.length:Int)==0&&(r.length:Int)==0
theorem QO9:Qj Tryz.prog 155 [vo k b t l p s r] (.bool (YO l p s r)):=by
 refine QsM.fn (by simp) ?_;simp only[vo,YO,eE,seval];cases h0:((l.length:Int)==0)<;>cases h1:((p.length:Int)==0)<;>cases h2:((s.length:Int)==0)<;>simp only[h1,h2,QWY,QWL,eE,seval]

theorem QPa (hl:l.length≤140737488351232)(hp:p.length≤140737488351232)(hs:s.length≤140737488351232)(hr:r.length≤140737488351232) :
  Qj Tryz.prog 216 [vo k b t l p s r] (.bool (YO l p s r&&(if Wj k=true then(b:Int)==0 else t==[]))):=by
 refine QnG.fn (by simp) ?_;have w:IntKind.i64.wrap (IntKind.i64.wrap (IntKind.i64.wrap ((l.length:Int)+(p.length:Int))+(s.length:Int))+(r.length:Int))=(l.length+p.length+s.length+r.length:Nat):=by
  simp only[Jb];omega
 simp only[vo,w,eE,seval];by_cases h:l.length+p.length+s.length+r.length=0
 ·have d:decide (((l.length+p.length+s.length+r.length:Nat):Int) > 0)=false:=QW3 (by omega);have e:YO l p s r=true:=by
   unfold YO;simp only[QVF,QVG];omega
  simp only[d,e,QWY,eE,seval];refine aC (QOB k) ?_;cases Wj k
  ·simp only[QVB,Qz,eE,seval]
  ·simp only[eE,seval]
 ·have d:decide (((l.length+p.length+s.length+r.length:Nat):Int) > 0)=true:=QXb (by omega);have e:YO l p s r=false:=by
   unfold YO;rw[QW6];simp only[ne_eq,QVF,QVG];omega
  simp only[d,e,QWL,Qa,seval]

end

open Br

def key (o:PO):Bool:=if o.card=5 then decide (o.key≥1)&&decide (o.key≤7)&&o.key != 6 else o.key==0
def aim (P:PL)(o:PO):Bool :=
 if o.kind=10 then decide (o.target≥0)&&decide (o.target<(P.progs.length:Int))&&o.card != 3
 else if o.kind=9 then decide (o.target≥0)&&decide (o.target<(P.enums.length:Int))else Uj o.kind&&o.target == -1
def TX (P:PL)(o:PO):Bool:=Ji o.alias&&decide ((o.alias.length:Int)≤4096)&&decide (o.card≥1)&&decide (o.card≤5)&&key o&&aim P o
def uok (o:PO):Bool:=o.union == -1||o.card==2
def Jx:List PO→Int→Int→Option Int
 | [],n,_=>some n
 |o :: l,n,b=>if o.union=n then Jx l (n+1) n else if o.union = -1∨o.union=b then Jx l n o.union else none
def TY (g:PG):Bool:=match Jx g.ops 0 (-1)with
 |some n=>g.unions==n
 |none=>false
def Jc (k kd:Int)(b:Nat)(t:List UInt8)(l p s r:List AV):Bool :=
 Uj k&&kd==k&&YO l p s r&&(if Wj kd=true then(b:Int)==0 else t==[])&&G4 k b&&decide ((t.length:Int)≤4096)&&(k != 7||Ji t)
def alias:List UInt8:=[97,108,105,97,115]
def nok:List AV→Bool
 | [.int _ kd,.int _ b,.str t,.list l,.list p,.list s,.list r]=>Jc 7 kd b.toNat t l p s r
 |_=>false
def nte (i:PI):Bool:=match i.notes with
 | []=>true
 | [n]=>n.name==alias&&nok n.val
 |_=>false
def C4 (P:PL)(g:PG):Bool:=TY g&&g.ops.all fun o=>TX P o&&uok o
def Qy4 (x:PE):Bool:=x.notes.isEmpty&&x.items.all nte
def args (P:PL):Bool:=P.progs.all (C4 P)&&P.enums.all Qy4

theorem Qy5 (k kd:Int)(b:Nat)(t:List UInt8)(l p s r:List AV)(hl:l.length≤140737488351232)(hp:p.length≤140737488351232)(hs:s.length≤140737488351232)(hr:r.length≤140737488351232) :
  Qj Tryz.prog 184 [.int .i64 k,vo kd b t l p s r] (.bool (Jc k kd b t l p s r)):=by
 have hle:=QPa kd b t l p s r hl hp hs hr;have hw:=QO8 k b;simp only[vo]at hle;have n1:(kd != k)=!(kd==k):=rfl;have n2:(k != 7)=!(k==7):=rfl;have n3:decide ((t.length:Int) > 4096)=!decide ((t.length:Int)≤4096):=(by rw[QV7];simp only[QWA,QV9,QXc];omega);refine QkH.fn (by simp) ?_;simp only[vo,Jc,n2,eE,seval];refine aC (QOz k) ?_;cases Uj k
 ·simp only[QWL,QWl,Qa,seval]
 simp only[QWY,QWZ,n1,eE,seval];cases a1:(kd==k)
 ·simp only[QWL,QWl,Qa,seval]
 simp only[QWY,QWZ,eE,seval];refine aC hle ?_;cases(YO l p s r&&(if Wj kd=true then(b:Int)==0 else t==[]))
 ·simp only[QWL,QWl,Qa,seval]
 simp only[QWY,QWZ,eE,seval];refine aC hw ?_;cases G4 k b
 ·simp only[QWL,QWl,Qa,seval]
 simp only[QWY,QWZ,n3,eE,seval];cases a2:decide ((t.length:Int)≤4096)
 ·simp only[QWL,QWl,Qa,seval]
 simp only[QWY,QWZ,n2,Qa,seval];cases a3:(k==7)
 ·simp only[QWl,QW0,Qa,seval]
 ·simp only[QWZ,QW1,eE,seval];refine aC (Qy2 t) ?_;simp only[Qa,seval]

section
variable (P:PL)

end

section
variable (kd:Int)(b:Nat)(t:List UInt8)(l p s r:List AV)(hl:l.length≤140737488351232)(hp:p.length≤140737488351232)(hs:s.length≤140737488351232)(hr:r.length≤140737488351232)

def nv:AV:=.agg [.str alias,.int .i64 kd,.int .u64 (b:Nat),.str t,.list l,.list p,.list s,.list r]

end

end Go.Proofs.YtjjmjopabpakoaaGreatDoor.Va

namespace Go.Proofs.YtjjmjopabpakoaaGreatDoor.Va
open Go Am Rc Bt

def Gu (b:Nat):Nat :=
 let z:=b % 9223372036854775808
 if z > 9218868437227405312 then 0 else if z=9218868437227405312 then 1 else if z=0 then 2 else if z<4503599627370496 then 3 else 4

theorem QPb (b:Nat):Qj Tryz.prog 157 [.int .u64 (b:Nat)] (.int .i64 (Gu b:Nat)):=by
 refine Qs4.fn (by simp) ?_;have hm:(b:Int).tmod 9223372036854775808=((b % 9223372036854775808:Nat):Int):=by
  rw[Int.tmod_eq_emod_of_nonneg (by omega)];omega
 simp only[hm,Qa,seval];unfold Gu;generalize b % 9223372036854775808=z
 repeat' (first|(refine Zb (fun h=>?_) (fun h=>?_)<;>simp only[h,Qa,seval])|(refine ZP (fun h=>?_) (fun h=>?_)<;>simp only[h,Qm,eE,seval])|(refine ZQ (fun h=>?_) (fun h=>?_)<;>simp only[h,Qm,eE,seval]))
 all_goals(simp only[QWA,QXc,QVG,QXd,ne_eq]at *)
 all_goals((repeat' split)<;>first|rfl|(exfalso;omega))

theorem Qy6 (b:Nat):b &&& 4503599627370495=b % 4503599627370496:=Nat.and_two_pow_sub_one_eq_mod b 52
theorem Qy7 (b:Nat):b &&& 9218868437227405312=(b / 4503599627370496 % 2048)*4503599627370496:=by
 have h1:(9218868437227405312:Nat)=2047 <<< 52:=by decide
 have h2:(b / 4503599627370496 % 2048)*4503599627370496=(b >>> 52 % 2 ^ 11) <<< 52:=by
  rw[Nat.shiftLeft_eq,Nat.shiftRight_eq_div_pow]
 rw[h1,h2]
 apply Nat.eq_of_testBit_eq
 intro i;rw[Nat.testBit_and,Nat.testBit_shiftLeft,Nat.testBit_shiftLeft,Nat.testBit_mod_two_pow,Nat.testBit_shiftRight,show(2047:Nat)=2 ^ 11-1 by decide,Nat.testBit_two_pow_sub_one];by_cases h:i≥52
 ·rw[show 52+(i-52)=i by omega];simp[h,Bool.and_comm]
 ·simp[h]

theorem QPc (b:Nat)(hb:b<18446744073709551616):Qj Tryz.prog 219 [.int .u64 (b:Nat)] (.int .i64 (Gu b:Nat)):=by
 refine Qoa.fn (by simp) ?_;have a1:bits .and .u64 (b:Int) 9218868437227405312=(((b / 4503599627370496 % 2048)*4503599627370496:Nat):Int):=by
  have:=NZ b 9218868437227405312 hb (by decide);rw[Qy7]at this;exact this
 have a2:bits .and .u64 (b:Int) 4503599627370495=((b % 4503599627370496:Nat):Int):=by
  have:=NZ b 4503599627370495 hb (by decide);rw[Qy6]at this;exact this
 simp only[a1,a2,Qa,seval];unfold Gu
 repeat' (first|(refine Zb (fun h=>?_) (fun h=>?_)<;>simp only[h,Qa,seval])|(refine ZP (fun h=>?_) (fun h=>?_)<;>simp only[h,Qm,Qa,seval])|(refine ZQ (fun h=>?_) (fun h=>?_)<;>simp only[h,Qm,eE,seval]))
 all_goals(simp only[QVG,QVL,bne_eq_false_iff_eq,QXd,ne_eq]at *)
 all_goals((repeat' split)<;>first|rfl|(exfalso;omega))

def ZB (k:Int)(b:Nat):Nat:=if k=6∧Gu b=0 then 9221120237041090560 else b

theorem Qy8 (b:Nat):((Gu b:Int)==0)=decide (Gu b=0):=by
 rw[QV7,QVG,QWA];omega

end Go.Proofs.YtjjmjopabpakoaaGreatDoor.Va

namespace Go.Proofs.YtjjmjopabpakoaaGreatDoor.So

section
variable {α:Type}

structure SW (lt:α→α→Bool):Prop where
 irr:∀x,lt x x=false
 tr:∀x y z,lt x y=true→lt y z=true→lt x z=true
 nt:∀x y z,lt x y=false→lt y z=false→lt x z=false

variable {lt:α→α→Bool}

theorem SW.as (h:SW lt){x y:α}(hx:lt x y=true):lt y x=false:=by
 cases hy:lt y x with
 |false=>rfl
 |true=>
  have:=h.tr x y x hx hy;rw[h.irr]at this;cases this

end

end Go.Proofs.YtjjmjopabpakoaaGreatDoor.So

namespace Go.Proofs.YtjjmjopabpakoaaGreatDoor.Va
open Go Am Rc Bt Br Up So

def nK:List (List UInt8×Int×List Int):=[
 ([100,101,112,114,101,99,97,116,101,100],1,[1,2,3,4,5,6]),
 ([100,111,99],7,[1,2,3,4,5,6]),
 ([97,108,105,97,115],7,[2,4,6]),
 ([115,105,110,99,101],4,[2,4,6]),
 ([117,110,116,105,108],4,[2,4,6]),
 ([109,105,110],3,[2]),
 ([109,97,120],3,[2]),
 ([108,101,110,103,116,104],4,[2]),
 ([115,101,99,114,101,116],1,[2]),
 ([105,100,101,109,112,111,116,101,110,116],1,[6]),
 ([116,105,109,101,111,117,116],4,[6]),
 ([114,111,117,116,101],7,[6]),
 ([111,119,110,101,114],7,[1,5])]
def VD (s:List UInt8):Option (Int×List Int):=(nK.find? fun x=>x.1==s).map Prod.snd
def XY (s:List UInt8):Int:=((VD s).getD (0,[])).1
def Sb (s:List UInt8)(t:Int):Bool:=((VD s).getD (0,[])).2.contains t
def _root_.Go.Proofs.YtjjmjopabpakoaaGreatDoor.Br.V.fitk (k:Int)(v:V):Bool:=Jc k v.kd v.bits v.text (v.list.map V.av) (v.pairs.map V.pav) (v.slots.map V.sav) (v.raws.map R.av)
def DQ (n:SN):Bool:=XY n.name != 0&&n.val.fitk (XY n.name)
def JO (t:Int)(last:Option (List UInt8))(n:SN):Int :=
 if XY n.name=0 then 8 else if Sb n.name t=false then 1 else if n.val.fitk (XY n.name)=false then 12 else
 match last with
 |none=>0
 |some s=>if Op.bytesLess n.name s=true then 11 else if n.name=s then 9 else 0
def J5 (t:Int):Option (List UInt8)→List SN→Int
 |_,[]=>0
 |last,n :: l=>if JO t last n=0 then J5 t (some n.name) l else JO t last n
def X6 (l:List SN)(t:Int):Int:=if l.length > 8 then 3 else J5 t none l

def Q2 (S:SC)(n:List UInt8):Bool:=S.msgs.any fun m=>m.name==n
def G5 (S:SC)(n:List UInt8):Bool:=S.enums.any fun m=>m.name==n
def Nb (c k:Int):Bool:=if c=5 then decide (k≥1)&&decide (k≤7)&&k != 6 else k==0
def YP (f:SF):Bool:=decide (f.card≥1)&&decide (f.card≤5)&&Nb f.card f.key
def JD (S:SC)(f:SF):Bool :=
 if 1≤f.kind∧f.kind≤8 then f.tname==[]else if f.kind=9 then G5 S f.tname else if f.kind=10 then Q2 S f.tname&&f.card != 3 else false
def Jm (m:SM)(i:Nat):Bool:=match m.fields[i]? with
 |none=>true
 |some f=>f.union==[]||(f.card==2&&Xo f.union && !(m.fields.any fun x=>x.name==f.union) &&
   (!((m.fields.take i).any fun x=>x.union==f.union)||(match i with
    |0=>true
    |j+1=>match m.fields[j]? with
     |none=>true
     |some y=>y.union==f.union)))
def _root_.Go.Proofs.YtjjmjopabpakoaaGreatDoor.Br.V.zro (v:V):Bool:=v.kd==0&&v.bits==0&&v.text==[]&&v.list.length+v.pairs.length+v.slots.length+v.raws.length==0
def WC (S:SC)(f:SF):Bool :=
 if f.hasd=false then f.dflt.zro
 else if f.card=2∧f.union=[]∧f.dflt.fitk f.kind=true∧ZB f.dflt.kd f.dflt.bits=f.dflt.bits then
  (if f.kind=9 then(match S.enums.find? fun e=>e.name==f.tname with
   |none=>false
   |some e=>e.items.any fun it=>(IntKind.u64.wrap it.num)==(f.dflt.bits:Int))else true)
 else false
def Un (S:SC)(m:SM)(i:Nat):Bool:=match m.fields[i]? with
 |none=>true
 |some f=>decide (f.num≥1)&&decide (f.num≤65535)&&(match i with
   |0=>true
   |j+1=>match m.fields[j]? with
    |none=>true
    |some y=>decide (f.num > y.num))&&Xo f.name && !((m.fields.take i).any fun x=>x.name==f.name) && !(kept m.free f.num) && !(m.gone.contains f.name) &&
   YP f&&JD S f&&Jm m i&&WC S f&&X6 f.notes 2==0
def G6 (lo hi:Int)(l:List PS):Bool:=(l.all fun x=>decide (x.lo≥lo)&&decide (x.hi≤hi)&&decide (x.lo≤x.hi))&&XN l spt

def Ze (m:SM):List (List UInt8):=(m.fields.filter fun f=>f.card==1&&f.kind==10).map SF.tname
def ZC (S:SC)(X:List (List UInt8))(m:SM):List (List UInt8):=match S.msgs.find? fun x=>x.name==m.name with
 |none=>X
 |some f=>if (Ze f).any (fun n=>Q2 S n && !X.contains n)=true then X else if X.contains m.name=true then X else X++[m.name]
def Hl (S:SC)(X:List (List UInt8)):List (List UInt8):=S.msgs.foldl (ZC S) X
def Yt (S:SC):Nat→List (List UInt8)
 |0=>[]
 |k+1=>Hl S (Yt S k)
def Yu (S:SC):List (List UInt8):=Yt S (S.msgs.length+1)
def Gv (S:SC)(m:SM):Bool:=(Ze m).any fun n=>Q2 S n && !(Yu S).contains n

def G7 (S:SC)(m:SM):Bool:=XE m.name&&decide (m.fields.length≤64)&&decide (m.free.length≤16)&&decide (m.gone.length≤16)&&Xq (Un S m) m.fields.length&&G6 1 65535 m.free &&
 (m.gone.all Ji)&&X6 m.notes 1==0 && !Gv S m
def WS (e:SE)(i:Nat):Bool:=match e.items[i]? with
 |none=>true
 |some x=>decide (x.num≥0)&&decide (x.num≤2147483647)&&(match i with
   |0=>x.num==0
   |j+1=>match e.items[j]? with
    |none=>true
    |some y=>decide (x.num > y.num))&&Xo x.name && !((e.items.take i).any fun y=>y.name==x.name) && !(kept e.free x.num)&&X6 x.notes 4==0
def Yv (e:SE):Bool:=XE e.name&&decide (e.items.length≥1)&&decide (e.items.length≤64)&&decide (e.free.length≤16)&&Xq (WS e) e.items.length&&G6 0 2147483647 e.free&&X6 e.notes 3==0
def C5 (S:SC)(v:SQ)(i:Nat):Bool:=match v.meths[i]? with
 |none=>true
 |some x=>Xo x.name&&(match i with
   |0=>true
   |j+1=>match v.meths[j]? with
    |none=>true
    |some y=>Op.bytesLess y.name x.name)&&Q2 S x.inn&&Q2 S x.out&&decide (x.shape≥1)&&decide (x.shape≤4)&&X6 x.notes 6==0
def TZ (S:SC)(v:SQ):Bool:=XE v.name&&decide (v.meths.length≤64)&&Xq (C5 S v) v.meths.length&&X6 v.notes 5==0
def JY (S:SC):Bool:=!(S.enums.any fun e=>S.msgs.any fun m=>m.name==e.name) && !(S.servs.any fun v=>S.msgs.any fun m=>m.name==v.name) && !(S.servs.any fun v=>S.enums.any fun e=>e.name==v.name)
def T0 (S:SC):Bool:=XN S.msgs (Wk SM.name)&&XN S.enums (Wk SE.name)&&XN S.servs (Wk SQ.name)
def T1 (S:SC):Bool:=decide (S.msgs.length≤64)&&decide (S.enums.length≤64)&&decide (S.servs.length≤64)
def XR (S:SC):Bool:=T1 S&&T0 S&&JY S&&S.msgs.all (G7 S)&&S.enums.all Yv&&S.servs.all (TZ S)

def unl:List (List UInt8)→List SF→List (List UInt8)
 |us,[]=>us
 |us,f :: l=>unl (if f.union=[]∨us.contains f.union=true then us else us++[f.union]) l
def XH (us:List (List UInt8))(s:List UInt8):Int:=QW (fun u=>u==s) us 0
def Xc (l:List SN):Option V:=(l.find? fun n=>n.name==alias).map SN.val
def Jy (S:SC)(f:SF):Int:=if f.kind=10 then QW (fun m:SM=>m.name==f.tname) S.msgs 0 else if f.kind=9 then QW (fun m:SE=>m.name==f.tname) S.enums 0 else -1
def Kt (S:SC)(us:List (List UInt8))(f:SF):PO :=
 ⟨f.num,f.name,((Xc f.notes).map V.text).getD [],f.card,f.key,f.kind,Jy S f,if f.union=[]then -1 else XH us f.union⟩
def Zq (S:SC)(m:SM):PG:=⟨m.name,m.fields.map (Kt S (unl [] m.fields)),((unl [] m.fields).length:Int)⟩
def ZJ (x:SI):PI:=⟨x.name,x.num,match Xc x.notes with
 |none=>[]
 |some v=>[⟨alias,v.cells⟩]⟩
def ZS (e:SE):PE:=⟨e.name,e.opn,e.items.map ZJ,e.free,[]⟩
def QE (S:SC):PL:=⟨S.msgs.map (Zq S),S.enums.map ZS⟩

end Go.Proofs.YtjjmjopabpakoaaGreatDoor.Va

namespace Go.Proofs.YtjjmjopabpakoaaGreatDoor.Va
open Go Am Rc Bt Br

def KV (B:List Bool)(o:PO):Bool:=o.card==1&&o.kind==10 && !(B[o.target.toNat]?.getD false)
def YQ (G:List PG)(B:List Bool)(i:Nat):List Bool:=match G[i]? with
 |some g=>B.set i (!g.ops.any (KV B))
 |none=>B
def Nc (G:List PG)(B:List Bool):Nat→List Bool
 |0=>B
 |i+1=>YQ G (Nc G B i) i
def its (G:List PG):Nat→List Bool
 |0=>List.replicate G.length false
 |c+1=>Nc G (its G c) G.length
def fin (P:PL):Bool:=(its P.progs P.progs.length).all id

theorem Qcn (G:List PG)(B:List Bool)(i:Nat):(YQ G B i).length=B.length:=by
 unfold YQ;split<;>simp
theorem VE (G:List PG)(B:List Bool):∀i,(Nc G B i).length=B.length
 |0=>rfl
 |i+1=>by rw[Nc,Qcn,VE G B i]
theorem VF (G:List PG):∀c,(its G c).length=G.length
 |0=>by simp[its]
 |c+1=>by rw[its,VE,VF G c]

def DR (G:List PG)(B:List Bool):Prop:=∀(i:Nat) (g:PG),G[i]? = some g→B[i]? = some true→g.ops.any (KV B)=false

theorem Sc {B B':List Bool}(h:∀k:Nat,B[k]?.getD false=true→B'[k]?.getD false=true){o:PO}(hn:KV B o=false):KV B' o=false:=by
 unfold KV at *;cases hc:(o.card==1&&o.kind==10)
 ·rfl
 ·rw[hc]at hn;simp only[QWY,Bool.not_eq_false']at hn ⊢;rw[h _ hn]

theorem Qco {G:List PG}{B:List Bool}(h:DR G B)(i:Nat):DR G (YQ G B i)∧∀k:Nat,B[k]?.getD false=true→(YQ G B i)[k]?.getD false=true:=by
 have mono:∀k:Nat,B[k]?.getD false=true→(YQ G B i)[k]?.getD false=true:=by
  intro k hk;unfold YQ;split
  ·rename_i g hg;by_cases hki:i=k
   ·subst hki;have hb:B[i]? = some true:=by
     cases hB:B[i]? with
     |none=>rw[hB]at hk;cases hk
     |some b=>rw[hB]at hk;simp at hk;rw[hk]
    have hlt:=(QVk.1 hb).1;rw[List.getElem?_set_self hlt,h i g hg hb];rfl
   ·rw[List.getElem?_set_ne hki];exact hk
  ·exact hk
 refine⟨fun j g hg hb=>?_,mono⟩;rw[QW7];intro o ho;rw[Bool.not_eq_true];have hB:B[j]? = some true∨g.ops.any (KV B)=false:=by
  unfold YQ at hb;split at hb
  ·rename_i g' hg';by_cases hij:i=j
   ·subst hij;rw[hg]at hg';cases hg'
    right
    by_cases hlt:i<B.length
    ·rw[List.getElem?_set_self hlt]at hb
     simpa using hb
    ·rw[QWD (by simp;omega)]at hb;cases hb
   ·rw[List.getElem?_set_ne hij]at hb;exact .inl hb
  ·exact .inl hb
 have ha:g.ops.any (KV B)=false:=hB.elim (h j g hg) id;rw[QW7]at ha;exact Sc mono (by simpa using ha o ho)

theorem G8 {G:List PG}{B:List Bool}(h:DR G B):∀i,DR G (Nc G B i)
 |0=>h
 |i+1=>(Qco (G8 h i) i).1
theorem VG (G:List PG):∀c,DR G (its G c)
 |0=>by
  intro i g _ hb;rw[its,List.getElem?_replicate]at hb;split at hb<;>cases hb
 |c+1=>G8 (VG G c) _

theorem Qy9 {G:List PG}{B:List Bool}(h:DR G B){i:Nat}{g:PG}{b:Bool}(hg:G[i]? = some g)(hb:B[i]? = some b):YQ G B i=B.set i (b || !g.ops.any (KV B)):=by
 unfold YQ;rw[hg];cases b with
 |false=>rfl
 |true=>
  show B.set i _=B.set i (true||_);rw[h i g hg hb];rfl

structure En (P:PL)(c:Nat)(B:List Bool)(f:Fr)(fr:Nat→Ob):Prop where
 h1:f 1=.ptr 0 1 0
 m1:fr 1=.cells [.list (P.progs.map Xk),.list (P.enums.map Z2)]
 h3:f 3=.ptr 0 3 0
 m3:fr 3=.cells [.vec 0 9 1 0 P.progs.length false]
 m9:fr 9=.vec 1 1 (B.map AV.bool)
 h12:f 12=.int .i64 (P.progs.length:Nat)
 h13:f 13=.int .i64 (c:Nat)
 r5:∀s∈[5],(fr s).isRow=false

theorem En.drop {P:PL}{c:Nat}{B:List Bool}{f f':Fr}{fr fr':Nat→Ob}(h:En P c B f fr)(hf:∀i,f' i=Yp [5] (f i))(hm:∀i,i∉[5]→fr' i=KL [5] (fr i))(hn:∀i∈[5],fr' i=.none):En P c B f' fr' where
 h1:=by rw[hf,h.h1]<;>rfl
 m1:=by rw[hm 1 (by decide),h.m1]<;>rfl
 h3:=by rw[hf,h.h3]<;>rfl
 m3:=by rw[hm 3 (by decide),h.m3]<;>rfl
 m9:=by rw[hm 9 (by decide),h.m9]<;>rfl
 h12:=by rw[hf,h.h12]<;>rfl
 h13:=by rw[hf,h.h13]<;>rfl
 r5:=fun s hs=>by rw[hn s hs]<;>rfl

def ck (P:PL):Int :=
 if VC P=false then 3 else if Iw P=false then 8 else if Iy P=false then 11 else if Iz P=false then 9 else if rng P=false then 6 else if args P=false then 1 else if fin P=false then 19 else 0

theorem Sd {P:PL}(h:VC P=true):P.progs.length≤64∧P.enums.length≤64∧(∀g∈P.progs,g.ops.length≤64)∧∀e∈P.enums,1≤e.items.length∧e.items.length≤64∧e.free.length≤16:=by
 unfold VC at h;simp only[QVF,QWA,QVv]at h;obtain⟨⟨⟨h1,h2⟩,h3⟩,h4⟩:=h;refine⟨h1,h2,fun g hg=>?_,fun e he=>?_⟩
 ·have:=h3 g hg;unfold TO at this;exact of_decide_eq_true this
 ·have:=h4 e he;unfold TP at this;simp only[QVF,QWA]at this;exact⟨this.1.1,this.1.2,this.2⟩

def Pc (P:PL):List AV:=[.list (P.progs.map Xk),.list (P.enums.map Z2)]

section
variable {M:Nat}(P:PL)(hP:P.ok M)(fr:Nat→Ob)(m1:fr 1=.cells (Pc P))(f:Fr)(b:Bool)(h1:f 1=.ptr 0 1 0)(h3:f 3=.bool b)(Q:Exit→St→Prop)
include hP m1 h1 h3

end

section
variable {M:Nat}(P:PL)(hP:P.ok M)
include hP

end

theorem z89 (L:List PS)(hl:L.length≤maxLen)(n:Int):Qj Tryz.prog 89 [.list (L.map QV),.int .i64 n] (.bool (kept L n)):=by
 let I:Nat→St→Prop:=fun k st=>∃f i,st=⟨f,[Qg],[]⟩∧k=L.length-i∧kept L n=kept (L.drop i) n∧f 0=.list (L.map QV)∧f 1=.int .i64 n∧f 5=.int .i64 (i:Nat)
 refine k89.fn (by simp) ?_;simp only[Qa,seval];refine Qf I _ ⟨_,0,rfl,rfl,rfl,(by rfl),(by rfl),(by rfl)⟩ ?_;rintro _ st ⟨f,i,rfl,rfl,hx,h0,h1,h5⟩;simp only[QWE,h0,h5,Qa,seval];by_cases hlt:i<L.length
 ·obtain⟨x,hi⟩:∃x,L[i]? = some x:=⟨L[i],QVl hlt⟩;have hg:(L.map QV)[i]? = some (QV x):=by simp[hi]
  have e1:=Qh i _ hlt hl;have hd:kept (L.drop i) n=((decide (x.lo≤n)&&decide (n≤x.hi))||kept (L.drop (i+1)) n):=by
   unfold kept;rw[QVZ hlt,show L[i]=x from(QVk.1 hi).2];rfl
  rw[hd]at hx;simp only[Qs hlt,Qd,QWH,Qb,hg,QV,PS.cells,h0,h1,h5,eE,seval];cases a1:decide (x.lo≤n)
  ·rw[a1,QWL,QW1]at hx;simp only[h5,e1,Qa,seval];exact⟨L.length-(i+1),by omega,_,i+1,rfl,rfl,hx,(by exact h0),(by exact h1),(by rfl)⟩
  ·cases a2:decide (n≤x.hi)
   ·rw[a1,a2,QXe,QW1]at hx;simp only[a2,Qd,QWH,Qb,hg,QV,PS.cells,h0,h1,h5,e1,eE,seval];exact⟨L.length-(i+1),by omega,_,i+1,rfl,rfl,hx,(by exact h0),(by exact h1),(by rfl)⟩
   ·rw[a1,a2,QWs,QW0]at hx;simp only[a2,Qd,QWH,Qb,hg,QV,PS.cells,h0,h1,h5,hx,eE,seval]
 ·have hx':kept L n=false:=by rw[hx,QVT (by omega)];rfl
  simp only[Qu hlt,hx',Qa,seval]

section
variable {M:Nat}(P:PL)(hP:P.ok M)(fr:Nat→Ob)(m1:fr 1=.cells (Pc P))(f:Fr)(b:Bool)(h1:f 1=.ptr 0 1 0)(h3:f 3=.bool b)(Q:Exit→St→Prop)

include hP m1 h1 h3

end

section
variable (kd:Int)(b:Nat)(t:List UInt8)(l p s r:List AV)(ht:t.length+8≤maxLen)
include ht

end

section
variable (P:PL)

end

def oth (k:Int)(b:Nat)(t:List UInt8)(l p s r:List AV):Bool :=
 (k != 11&&decide ((l.length:Int) > 0))||(k != 12&&decide ((p.length:Int) > 0))||(k != 10&&decide (((s.length+r.length:Nat):Int) > 0))||((b:Int) != 0&&(Wj k||k==10||k==11||k==12))||(!(t==[]) && !Wj k)

section
variable (k:Int)(b:Nat)(t:List UInt8)(l p s r:List AV)(hs:s.length≤140737488351232)(hr:r.length≤140737488351232)

end

section
variable (k:Int)(b:Nat)(t:List UInt8)(l p s r:List AV)(hs:s.length≤140737488351232)(hr:r.length≤140737488351232)

end

theorem KQ {α:Type}(p:α→Bool){l:List α}{i:Nat}{x:α}(hx:l[i]? = some x):(l.drop i).find? p=if p x=true then some x else(l.drop (i+1)).find? p:=by
 have hlt:i<l.length:=(QVk.1 hx).1;rw[QVZ hlt,show l[i]=x from(QVk.1 hx).2,QW2];cases p x<;>rfl

def zc:List AV:=[.int .i64 0,.str [],.str [],.int .i64 0,.int .i64 0,.int .i64 0,.int .i64 0,.int .i64 0]

def OpI (g:PG)(n:Int)(k:Nat)(st:St):Prop :=
 ∃f fr i,st=⟨f,[fr],[]⟩∧k=g.ops.length-i∧g.ops.find? (fun o=>o.num==n)=(g.ops.drop i).find? (fun o=>o.num==n)∧f 1=.int .i64 n∧f 2=.ptr 0 2 0∧f 4=.ptr 0 4 0∧f 6=.int .i64 (i:Nat)∧fr 2=.cells g.cells∧fr 4=.cells zc

theorem y75 (g:PG)(hl:g.ops.length≤maxLen)(n:Int):Qj Tryz.prog 75 [Xk g,.int .i64 n] (Kn (fun o=>o.num==n) g.ops):=by
 refine k75.fn (by simp) ?_;simp only[Xk,PG.cells,eE,seval];refine Qf (OpI g n) _ ⟨_,_,0,rfl,rfl,rfl,(by rfl),(by rfl),(by rfl),(by rfl),(by rfl),(by rfl)⟩ ?_;rintro _ st ⟨f,fr,i,rfl,rfl,hx,h1,h2,h4,h6,m2,m4⟩;simp only[PG.cells,zc]at m2 m4;simp only[QWE,h2,h6,m2,eE,seval];by_cases hlt:i<g.ops.length
 ·obtain⟨x,hi⟩:∃x,g.ops[i]? = some x:=⟨g.ops[i],QVl hlt⟩;have hg:(g.ops.map fun o=>AV.agg o.cells)[i]? = some (.agg x.cells):=by simp[hi]
  have e1:=Qh i _ hlt hl;rw[KQ _ hi]at hx;simp only[PO.cells]at hg m2;simp only[Qs hlt,Qd,QWH,Qb,hg,PO.cells,h1,h2,h6,m2,eE,seval];cases hp:(x.num==n)
  ·rw[hp]at hx;simp only[QVB,if_false]at hx;simp only[h6,e1,Qa,seval];exact⟨g.ops.length-(i+1),by omega,_,_,i+1,rfl,rfl,hx,(by exact h1),(by exact h2),(by exact h4),(by rfl),m2,m4⟩
  ·rw[hp]at hx;simp only[if_true]at hx;simp only[Qd,QWH,Qb,hg,Kn,hx,QWo,QW4,QB,PO.cells,h2,h4,h6,m2,m4,splice,QWm,QVE,QVS,QVY,QWt,QWg,QVx,QWp,QWq,QWr,AV.leaf,eE,seval]
 ·have hx':g.ops.find? (fun o=>o.num==n)=none:=by rw[hx,QVT (by omega)];rfl
  simp only[Qu hlt,h4,m4,Kn,hx',QWP,QV5,JK,QB,PO.cells,splice,QWm,QVE,QVS,QVY,QWt,QWg,QVx,QWp,QWq,QWr,AV.leaf,eE,seval]

def NmI (g:PG)(s:List UInt8)(k:Nat)(st:St):Prop :=
 ∃f fr i,st=⟨f,[fr],[]⟩∧k=g.ops.length-i∧g.ops.find? (fun o=>o.name==s)=(g.ops.drop i).find? (fun o=>o.name==s)∧f 1=.str s∧f 2=.ptr 0 2 0∧f 4=.ptr 0 4 0∧f 6=.int .i64 (i:Nat)∧fr 2=.cells g.cells∧fr 4=.cells zc

def AlI (g:PG)(s:List UInt8)(k:Nat)(st:St):Prop :=
 ∃f fr i,st=⟨f,[fr],[]⟩∧k=g.ops.length-i∧g.ops.find? (fun o=>o.alias==s && !(s==[]))=(g.ops.drop i).find? (fun o=>o.alias==s && !(s==[]))∧f 1=.str s∧f 2=.ptr 0 2 0∧f 4=.ptr 0 4 0∧f 7=.int .i64 (i:Nat)∧fr 2=.cells g.cells∧fr 4=.cells zc

theorem y74 (g:PG)(hl:g.ops.length≤maxLen)(s:List UInt8):Qj Tryz.prog 74 [Xk g,.str s] (DN s g.ops):=by
 refine k74.fn (by simp) ?_;simp only[Xk,PG.cells,eE,seval];refine Qf (NmI g s) _ ⟨_,_,0,rfl,rfl,rfl,(by rfl),(by rfl),(by rfl),(by rfl),(by rfl),(by rfl)⟩ ?_;rintro _ st ⟨f,fr,i,rfl,rfl,hx,h1,h2,h4,h6,m2,m4⟩;simp only[PG.cells,zc]at m2 m4;simp only[QWE,h2,h6,m2,eE,seval];by_cases hlt:i<g.ops.length
 ·obtain⟨x,hi⟩:∃x,g.ops[i]? = some x:=⟨g.ops[i],QVl hlt⟩;have hg:(g.ops.map fun o=>AV.agg o.cells)[i]? = some (.agg x.cells):=by simp[hi]
  have e1:=Qh i _ hlt hl;rw[KQ _ hi]at hx;simp only[PO.cells]at hg m2;simp only[Qs hlt,Qd,QWH,Qb,hg,PO.cells,h1,h2,h6,m2,Qz,eE,seval];cases hp:(x.name==s)
  ·rw[hp]at hx;simp only[QVB,if_false]at hx;simp only[h6,e1,Qa,seval];exact⟨g.ops.length-(i+1),by omega,_,_,i+1,rfl,rfl,hx,(by exact h1),(by exact h2),(by exact h4),(by rfl),m2,m4⟩
  ·rw[hp]at hx;simp only[if_true]at hx;simp only[Qd,QWH,Qb,hg,DN,Kn,hx,QWo,QW4,QB,PO.cells,h2,h4,h6,m2,m4,splice,QWm,QVE,QVS,QVY,QWt,QWg,QVx,QWp,QWq,QWr,AV.leaf,eE,seval]
 ·have hx':g.ops.find? (fun o=>o.name==s)=none:=by rw[hx,QVT (by omega)];rfl
  have hn:DN s g.ops=Kn (fun o=>o.alias==s && !(s==[])) g.ops:=by unfold DN;rw[hx'];rfl
  simp only[Qu hlt,hn,Qa,seval];refine Qf (AlI g s) _ ⟨_,_,0,rfl,rfl,rfl,(by exact h1),(by exact h2),(by exact h4),(by rfl),m2,m4⟩ ?_;clear hx hx' hlt h6 h1 h2 h4 m2 m4;rintro _ st ⟨f,fr,i,rfl,rfl,hx,h1,h2,h4,h7,m2,m4⟩;simp only[PG.cells,zc]at m2 m4;simp only[QWE,h2,h7,m2,eE,seval];by_cases hlt:i<g.ops.length
  ·obtain⟨x,hi⟩:∃x,g.ops[i]? = some x:=⟨g.ops[i],QVl hlt⟩;have hg:(g.ops.map fun o=>AV.agg o.cells)[i]? = some (.agg x.cells):=by simp[hi]
   have e1:=Qh i _ hlt hl;rw[KQ _ hi]at hx;simp only[PO.cells]at hg m2;simp only[Qs hlt,Qd,QWH,Qb,hg,PO.cells,h1,h2,h7,m2,Qz,eE,seval];cases hp:(x.alias==s)
   ·rw[hp]at hx;simp only[QWL,QVB,if_false]at hx;simp only[h7,e1,Qa,seval];exact⟨g.ops.length-(i+1),by omega,_,_,i+1,rfl,rfl,hx,(by exact h1),(by exact h2),(by exact h4),(by rfl),m2,m4⟩
   ·cases hs:(s==[])
    ·simp only[hp,hs,QWl,QWs,if_true]at hx;simp only[Qd,QWH,Qb,hg,hs,Kn,hx,QWl,QWs,QWo,QW4,QB,PO.cells,h1,h2,h4,h7,m2,m4,Qz,splice,QWm,QVE,QVS,QVY,QWt,QWg,QVx,QWp,QWq,QWr,AV.leaf,eE,seval]
    ·rw[hp,hs]at hx;simp only[QWZ,QXe,QVB,if_false]at hx;simp only[hs,QWZ,QXe,h1,h7,e1,Qz,Qa,seval];exact⟨g.ops.length-(i+1),by omega,_,_,i+1,rfl,rfl,by simpa only [hs,QWZ,QXe]using hx,(by exact h1),(by exact h2),(by exact h4),(by rfl),m2,m4⟩
  ·have hx':g.ops.find? (fun o=>o.alias==s && !(s==[]))=none:=by rw[hx,QVT (by omega)];rfl
   simp only[Qu hlt,h4,m4,Kn,hx',QWP,QV5,JK,QB,PO.cells,splice,QWm,QVE,QVS,QVY,QWt,QWg,QVx,QWp,QWq,QWr,AV.leaf,eE,seval]

section progs
variable (L:List PG)(hl:L.length≤maxLen)(p:PG→Bool)(c:Nat)(cap:AV)(m:Qo)

def IxG (k:Nat)(st:St):Prop :=
 ∃f i,st=⟨f,Qg :: m,[]⟩∧k=L.length-i∧QW p L 0=QW p (L.drop i) i∧f 0=.list (L.map Xk)∧f 1=.fn (.func c) [] [cap.sh]∧f 7=.int .i64 (L.length:Nat)∧f 8=.int .i64 (i:Nat)

include hl in
theorem y60 (hc:∀o∈L,Qp Tryz.prog c [Xk o,cap.sh] (Qg :: m) fun y m1=>y=.bool (p o)∧m1=Qg :: m) :
  Qp Tryz.prog 60 [.list (L.map Xk),.fn (.func c) [] [cap]] m fun y m1=>y=.int .i64 (QW p L 0)∧m1=m:=by
 refine k60.go (by simp) ?_;simp only[QWE,Qa,seval];refine Qf (IxG L p c cap m) _ ⟨_,0,rfl,rfl,rfl,(by rfl),(by rfl),(by rfl),(by rfl)⟩ ?_;rintro _ st ⟨f,i,rfl,rfl,hx,h0,h1,h7,h8⟩;simp only[h7,h8,Qa,seval];by_cases hlt:i<L.length
 ·obtain⟨x,hi⟩:∃x,L[i]? = some x:=⟨L[i],QVl hlt⟩;have hcl:=hc x (QVw hi);have hg:(L.map Xk)[i]? = some (Xk x):=by simp[hi]
  have e1:=Qh i _ hlt hl;simp only[Xk,PG.cells]at hcl;simp only[Qs hlt,Qd,QWH,Qb,hg,Xk,PG.cells,h0,h1,h8,eE,seval];refine Xp (fa:=[]) (fb:=[cap.sh]) (by rfl) hcl (by simp only[QVP,QWe,QVE,QVD,Qa,seval]) ?_;rw[XD p hi]at hx;cases hp:p x
  ·rw[hp]at hx;simp only[QVB,if_false]at hx;simp only[h8,e1,Qa,seval];exact⟨L.length-(i+1),by omega,_,i+1,rfl,rfl,hx,(by exact h0),(by exact h1),(by exact h7),(by rfl)⟩
  ·rw[hp]at hx;simp only[if_true]at hx;simp only[hx,Qa,seval]
 ·have hx':QW p L 0 = -1:=by rw[hx,QVT (by omega)];rfl
  simp only[Qu hlt,hx',Qa,seval]

end progs

section items
variable (L:List PI)(hl:L.length≤maxLen)(p:PI→Bool)(c:Nat)(cap:AV)(m:Qo)

theorem VH {α:Type}(p:α→Bool)(l:List α):decide (QW p l 0≥0)=l.any p:=by
 rcases Xn p l 0 with⟨h1,h2⟩|⟨k,o,h1,_,h3⟩
 ·rw[h1];have:l.any p=false:=by
   rw[QW7];intro x hx;exact fun h=>by have:=QW8.1 h2 x hx;exact this h
  rw[this];rfl
 ·rw[h1];have:l.any p=true:=QWR.2 ⟨o,QW9 h3,QXa h3⟩;rw[this];exact QXb (by omega)

end items

def pmi (b:Nat)(x:PI):Bool:=IntKind.u64.wrap x.num==(b:Int)
theorem y61 (g:PG)(frO:Nat→Ob)(s:List UInt8)(hf:frO 3=.cells [.str s]):Qp Tryz.prog 61 [Xk g,.ptr 1 3 0] [Qg,frO] fun y m1=>y=.bool (g.name==s)∧m1=[Qg,frO]:=by
 refine k61.go (by simp) ?_;simp only[hf,Xk,PG.cells,Qz,eE,seval]

def VI (s:List UInt8)(L:List PG):AV:=.tup [.int .i64 (if QW (fun g:PG=>g.name==s) L 0<0 then 0 else QW (fun g:PG=>g.name==s) L 0),.bool (decide (QW (fun g:PG=>g.name==s) L 0≥0))]

theorem y29 (P:PL)(hl:P.progs.length≤maxLen)(s:List UInt8):Qj Tryz.prog 29 [P.av,.str s] (VI s P.progs):=by
 refine k29.fn (by simp) ?_;simp only[PL.av,eE,seval];refine Qc (y60 P.progs hl (fun g=>g.name==s) 61 (.ptr 0 3 0) _ fun g _=>y61 g _ s (by rfl)) (by simp only[QVP,QWe,Qa,seval]<;>rfl) ?_;unfold VI;by_cases h:QW (fun g:PG=>g.name==s) P.progs 0<0
 ·have d:decide (QW (fun g:PG=>g.name==s) P.progs 0<0)=true:=QXb h;simp only[QVq h,Qa,seval]
 ·have d:decide (QW (fun g:PG=>g.name==s) P.progs 0<0)=false:=QW3 h;simp only[QVp h,Qa,seval]

def FdI (P:PL)(s:List UInt8)(k:Nat)(st:St):Prop :=
 ∃f fr i,st=⟨f,[fr],[]⟩∧k=P.progs.length-i∧QW (fun g:PG=>g.name==s) P.progs 0=QW (fun g:PG=>g.name==s) (P.progs.drop i) i∧f 1=.str s∧f 2=.ptr 0 2 0∧f 6=.int .i64 (i:Nat)∧fr 2=.cells [.list (P.progs.map Xk),.list (P.enums.map Z2)]

theorem y22 (P:PL)(hl:P.progs.length≤maxLen)(s:List UInt8):Qj Tryz.prog 22 [P.av,.str s] (VI s P.progs):=by
 have e0:P.av=.agg [.list (P.progs.map Xk),.list (P.enums.map Z2)]:=rfl;refine k22.fn (by simp) ?_;simp only[e0,eE,seval];refine Qf (FdI P s) _ ⟨_,_,0,rfl,rfl,rfl,(by rfl),(by rfl),(by rfl),(by rfl)⟩ ?_;rintro _ st ⟨f,fr,i,rfl,rfl,hx,h1,h2,h6,m2⟩;simp only[QWE,h2,h6,m2,eE,seval];by_cases hlt:i<P.progs.length
 ·obtain⟨x,hi⟩:∃x,P.progs[i]? = some x:=⟨P.progs[i],QVl hlt⟩;have hg:(P.progs.map Xk)[i]? = some (.agg x.cells):=by simp[hi,Xk]
  have e1:=Qh i _ hlt hl;simp only[PG.cells]at hg;rw[XD _ hi]at hx;simp only[Qs hlt,Qd,QWH,Qb,hg,h1,h2,h6,m2,Qz,eE,seval];cases hp:(x.name==s)
  ·rw[hp]at hx;simp only[QVB,if_false]at hx;simp only[h6,e1,Qa,seval];exact⟨P.progs.length-(i+1),by omega,_,_,i+1,rfl,rfl,hx,(by exact h1),(by exact h2),(by rfl),m2⟩
  ·rw[hp]at hx;simp only[if_true]at hx;have d1:¬((i:Int)<0):=by omega
   have d2:decide ((i:Int)≥0)=true:=QXb (by omega);simp only[VI,hx,QVp d1,d2,h6,Qa,seval]
 ·have hx':QW (fun g:PG=>g.name==s) P.progs 0 = -1:=by rw[hx,QVT (by omega)];rfl
  have d1:((-1:Int)<0):=by omega
  have d2:decide ((-1:Int)≥0)=false:=QW3 (by omega);simp only[Qu hlt,VI,hx',Qa,seval]

def acp (E:List PE)(t:Int)(b:Nat):Bool :=
 if 0≤t∧t<E.length∧b≤2147483647 then
  match E[t.toNat]? with
  |some x=>x.opn||x.items.any (pmi b)
  |none=>false
 else false

def QPd (P:PL)(k tg kd:Int)(b:Nat)(t:List UInt8)(l p s r:List AV):Int :=
 if (kd != k||oth kd b t l p s r)=true then 12 else if decide ((t.length:Int) > 4096)=true then 3 else if (k==7 && !Ji t)=true then 7
 else if (!Jc k kd b t l p s r)=true then 12 else if (k==9 && !acp P.enums tg b)=true then 16 else 0

section
variable {M:Nat}(P:PL)(hP:P.ok M)(k tg kd:Int)(b:Nat)(t:List UInt8)(l p s r:List AV)(hl:l.length≤140737488351232)(hp:p.length≤140737488351232)(hs:s.length≤140737488351232)(hr:r.length≤140737488351232)

end

section
variable {M:Nat}(hM:M≤140737488351232)(P:PL)(hP:P.ok M)(fr:Nat→Ob)(m1:fr 1=.cells (Pc P))(f:Fr)(b:Bool)(h1:f 1=.ptr 0 1 0)(h3:f 3=.bool b)(Q:Exit→St→Prop)
include hM hP m1 h1 h3

end

section
variable {M:Nat}(P:PL)(hP:P.ok M)(fr:Nat→Ob)(m1:fr 1=.cells (Pc P))(f:Fr)(b:Bool)(h1:f 1=.ptr 0 1 0)(h3:f 3=.bool b)(Q:Exit→St→Prop)
include hP m1 h1 h3

end

section
variable (x:PE)(hl1:x.items.length≤maxLen)(hl:x.free.length≤maxLen)(P:PL)(f:Fr)(b:Bool)(j:Nat)(fr:Nat→Ob)(h1:f 1=.ptr 0 1 0)(h3:f 3=.bool b)(h7:f 7=.int .i64 (j:Nat))(h8:f 8=.ptr 0 8 0)(m1:fr 1=.cells (Pc P))(m8:fr 8=.cells x.cells)(Q:Exit→St→Prop)
include hl1 hl h1 h3 h7 h8 m8

end

section
variable {M:Nat}(P:PL)(hP:P.ok M)(fr:Nat→Ob)(m1:fr 1=.cells (Pc P))(f:Fr)(b:Bool)(h1:f 1=.ptr 0 1 0)(h3:f 3=.bool b)(Q:Exit→St→Prop)
include hP m1 h1 h3

end

section
variable (k kd:Int)(b:Nat)(t:List UInt8)(l p s r:List AV)(ht:t.length+8≤maxLen)

include ht in
theorem Qza:Qj Tryz.prog 126 [.int .i64 k,vo kd b t l p s r] (.bool (Jc k kd b t l p s r)):=by
 have hl:=QO9 kd b t l p s r;simp only[vo]at hl;have n1:(kd != k)=!(kd==k):=rfl;have n2:(t != [])=!(t==[]):=rfl;refine Qsj.fn (by simp) ?_;simp only[vo,Jc,eE,seval];refine aC (QOy k) ?_;cases hk:Uj k
 ·simp only[QWl,QWL,Qa,seval]
 simp only[n1,QWZ,QWY,eE,seval];cases a1:(kd==k)
 ·simp only[QWl,QWL,Qa,seval]
 have e:kd=k:=by simpa using a1
 subst e;simp only[QWZ,QWY,eE,seval];refine aC hl ?_;cases YO l p s r
 ·simp only[QWl,QWL,Qa,seval]
 simp only[QWZ,QWY,Qa,seval];refine aC (QOA kd) ?_;cases tx:Wj kd
 ·simp only[QVB,Qz,eE,seval];cases a2:(t==[])
  ·simp only[QWl,QWL,Qa,seval]
  have e:t=[]:=by simpa using a2
  subst e;have k7:(kd != 7)=true:=by
   simp only[Wj,QV6,QXd]at tx;simp[tx.1]
  have d0:decide (((0:Nat):Int)≤4096)=true:=rfl;simp only[k7,QWp,QWZ,QWY,QWs,QW0,Qa,seval];unfold G4;by_cases h1:kd=1
  ·subst h1;have b1:((1:Int)==1)=true:=rfl;simp only[b1,eE,seval]
  ·have b1:(kd==1)=false:=by simp[h1]
   by_cases h2:kd=2
   ·subst h2;have b2:((2:Int)==2)=true:=rfl;simp only[b1,b2,h1,eE,seval];cases hd:decide (IntKind.i64.wrap (b:Int)≥-2147483648)<;>simp only[QWY,QWL,Qa,seval]
   ·have b2:(kd==2)=false:=by simp[h2]
    by_cases h4:kd=4
    ·subst h4;have b4:((4:Int)==4)=true:=rfl;simp only[b1,b2,b4,h1,h2,eE,seval]
    ·have b4:(kd==4)=false:=by simp[h4]
     by_cases h9:kd=9
     ·subst h9;have b9:((9:Int)==9)=true:=rfl;simp only[b1,b2,b9,b4,h1,h2,h4,eE,seval]
     ·have b9:(kd==9)=false:=by simp[h9]
      simp only[b1,b2,b9,b4,h1,h2,h4,h9,Qa,seval]
 ·simp only[eE,seval];cases a2:((b:Int)==0)
  ·simp only[QWL,Qa,seval]
  have hfn:G4 kd b=true:=by
   simp only[Wj,QWc,QVG]at tx;rcases tx with rfl|rfl<;>rfl
  cases a3:decide ((t.length:Int)≤4096)
  ·simp only[a3,hfn,QWL,QXe,eE,seval]
  simp only[Wj,QWc,QVG]at tx;rcases tx with rfl|rfl
  ·have c8:((7:Int)==8)=false:=rfl;have c7:((7:Int) != 7)=false:=rfl;simp only[a3,c8,c7,hfn,QWY,QW1,eE,seval];refine aC (c96 t ht) ?_;simp only[Qa,seval]
  ·have c8:((8:Int)==8)=true:=rfl;have c7:((8:Int) != 7)=true:=rfl;simp only[a3,c8,c7,hfn,QW0,eE,seval]

end

section
variable {M:Nat}(P:PL)(hP:P.ok M)(k tg kd:Int)(b:Nat)(t:List UInt8)(l p s r:List AV)(ht:t.length+8≤maxLen)(hs:s.length≤140737488351232)(hr:r.length≤140737488351232)

end
end Go.Proofs.YtjjmjopabpakoaaGreatDoor.Va

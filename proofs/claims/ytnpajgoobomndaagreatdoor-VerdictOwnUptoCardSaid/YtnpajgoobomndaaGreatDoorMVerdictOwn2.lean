/- Parts of the proof, in order. -/
import Derived.Lib.IndexLaws
import Derived.Test.YtnpajgoobomndaaGreatDoorMVerdictOwn1

namespace Go.Proofs.YtnpajgoobomndaaGreatDoor.Rc
open Go Am
abbrev QhK:IL:=[jg 1 1 0,jf 2]
abbrev QhL:IL:=[jb 3 3 1,jc 4 3,jk 5 1 4,jb 6 4 1,jc 7 6,jk 8 1 7,zd 9 5 8,jb 10 5 1,jc 11 10,jk 12 1 11,zd 13 9 12,jb 14 6 1,jc 15 14,jk 16 1 15,zd 17 13 16,ys 18 17 0]
abbrev QhM:IL:=[jf 2]
abbrev QhN:IL:=[jb 19 0 1,jc 20 19,ju 21 179 20]
abbrev QhO:IL:=[jb 22 1 1,jc 23 22,Ux 24 23 0,ja 2 24]
abbrev QhP:IL:=[jb 25 2 1,jc 26 25,Vr 27 26,ja 2 27]
abbrev QhQ:RC:=jQ QhK (.seq (jQ QhL (.cond (.t 18) (jQ QhM (.ret)) (.skip))) (.seq (jQ QhN (.cond (.t 21) (jQ QhO (.ret)) (.skip))) (jQ QhP (.ret))))
abbrev QhR:List RR:=[.tmp 2]
theorem QhS:CT 162 28 QhQ QhR:=ck Tryz.func162 Tryz.ntmps162 (by decide +kernel)
abbrev QhT:IL:=[jf 4]
abbrev QhU:IL:=[⟨some 5,.val (.mov (.c (.int .u64 4294967295))),none⟩]
abbrev QhV:IL:=[ja 6 0]
abbrev QhW:IL:=[js 8 6 1,ja 7 8]
abbrev QhX:IL:=[js 10 6 2,ja 9 10]
abbrev QhY:IL:=[js 12 6 9,ja 11 12]
abbrev QhZ:IL:=[js 14 6 4,ja 13 14]
abbrev Qh0:IL:=[ja 15 1,⟨some 16,.val (.bin .num .leq (.t 15) (.c (.int .u64 1))),none⟩,ja 4 16]
abbrev Qh1:IL:=[ja 17 1,⟨some 18,.val (.cvi .i64 (.t 17)),none⟩,yd 19 18 (-2147483648),ja 20 19,jj 21 1 20,⟨some 22,.val (.cvi .i64 (.t 21)),(some (20,true))⟩,yq 23 22 2147483647 20,ji 24 20 23,ja 4 24]
abbrev Qh2:IL:=[⟨some 5,.val (.mov (.c (.int .u64 2147483647))),none⟩]
abbrev EA:IL:=[ja 25 1,ja 26 5,Vq 27 25 26,ja 4 27]
abbrev EB:IL:=[ya 4]
abbrev Qh3:RC:=jQ QhT (jQ QhU (.seq (jQ QhV (.block 0 (.seq (.block 4 (.seq (.block 3 (.seq (.block 2 (.seq (.block 1 (.seq (.seq (jQ QhW (.cond (.t 7) (.exit 1) (.skip))) (.seq (jQ QhX (.cond (.t 9) (.exit 2) (.skip))) (.seq (jQ QhY (.cond (.t 11) (.exit 3) (.skip))) (jQ QhZ (.cond (.t 13) (.exit 4) (.skip)))))) (.exit 0))) (.seq (jQ Qh0 (.ret)) (.exit 0)))) (.seq (jQ Qh1 (.ret)) (.exit 0)))) (.reg Qh2))) (.seq (jQ EA (.ret)) (.exit 0))))) (jQ EB (.ret))))
abbrev Qh4:List RR:=[.tmp 4]
theorem Qh5:CT 163 28 Qh3 Qh4:=ck Tryz.func163 Tryz.ntmps163 (by decide +kernel)
abbrev Qh6:IL:=[jf 2]
abbrev Qh7:IL:=[ja 3 0,js 4 3 2,ja 5 4,jv 6 0 5,yv 7 6 3 5,jo 8 5 7,ja 2 8]
abbrev Qh8:RC:=jQ Qh6 (jQ Qh7 (.ret))
abbrev Qh9:List RR:=[.tmp 2]
theorem QzR:CT 164 9 Qh8 Qh9:=ck Tryz.func164 Tryz.ntmps164 (by decide +kernel)
abbrev Qia:IL:=[jd 2 0]
abbrev Qib:IL:=[ja 5 0,⟨some 6,.val (.bin .num .and (.t 5) (.c (.int .u64 9218868437227405312))),none⟩,ja 7 0,⟨some 8,.val (.bin .num .and (.t 7) (.c (.int .u64 4503599627370495))),none⟩,ja 3 6,ja 4 8]
abbrev Qic:IL:=[ja 10 3,Ux 11 10 9218868437227405312,ja 12 11,jj 13 4 12,⟨some 14,.val (.bin .num .neq (.t 13) (.c (.int .u64 0))),(some (12,true))⟩,ji 15 12 14,ja 9 15]
abbrev Qid:IL:=[jd 2 0]
abbrev Qie:IL:=[ja 17 3,Ux 18 17 9218868437227405312,ja 16 18]
abbrev Qif:IL:=[jd 2 1]
abbrev Qig:IL:=[ja 20 3,Ux 21 20 0,ja 22 21,jj 23 4 22,⟨some 24,.val (.bin .num .eql (.t 23) (.c (.int .u64 0))),(some (22,true))⟩,ji 25 22 24,ja 19 25]
abbrev Qih:IL:=[jd 2 2]
abbrev Qii:IL:=[ja 27 3,Ux 28 27 0,ja 26 28]
abbrev Qij:IL:=[jd 2 3]
abbrev EC:IL:=[jd 2 4]
abbrev Qik:RC:=jQ Qia (.seq (jQ Qib (.block 0 (jQ Qic (.cond (.t 9) (jQ Qid (.ret)) (jQ Qie (.cond (.t 16) (jQ Qif (.ret)) (jQ Qig (.cond (.t 19) (jQ Qih (.ret)) (jQ Qii (.cond (.t 26) (jQ Qij (.ret)) (.skip))))))))))) (jQ EC (.ret)))
abbrev Qil:List RR:=[.tmp 2]
theorem Qim:CT 165 29 Qik Qil:=ck Tryz.func165 Tryz.ntmps165 (by decide +kernel)
abbrev Qin:IL:=[yh 8]
abbrev Qio:IL:=[ja 12 3,js 13 12 0]
abbrev Qip:IL:=[yh 8]
abbrev Qiq:IL:=[ja 14 1,Vr 15 14]
abbrev Qir:IL:=[ja 16 0,ja 17 3,jx 18 180 16 17,ja 8 18]
abbrev Qis:IL:=[ja 19 3,yg 20 19 0]
abbrev Qit:IL:=[ja 21 0,ja 22 1,jx 23 181 21 22,jn 24 23 1,ja 3 24]
abbrev Qiu:IL:=[ja 25 3,ja 26 0,jk 27 0 26,jn 28 27 1,⟨some 29,.val (.mnx false (.t 25) (.t 28)),none⟩,ja 3 29]
abbrev Qiv:IL:=[ja 30 3,⟨some 31,.mk 31 9 1 16 [.str []] (.t 30) (.t 30),none⟩,ja 9 31]
abbrev Qiw:IL:=[ja 32 3,zh 33 32 1,ja 3 33]
abbrev ED:IL:=[jd 10 0]
abbrev EE:IL:=[ja 34 10,ja 35 3,jr 36 34 35]
abbrev EG:IL:=[ja 37 0,ja 38 1,jx 39 182 37 38,ja 11 39]
abbrev EH:IL:=[ja 40 11,yg 41 40 0]
abbrev EI:IL:=[ja 42 9,ja 43 10,ja 44 0,ja 45 11,ja 46 2,zd 47 45 46,⟨some 48,.val (.slc none (.t 44) none (some (.t 47)) none),none⟩,jm 49 1 42 43,jh 1 49 48]
abbrev EJ:IL:=[ja 50 0,ja 51 11,ja 52 1,jk 53 0 52,zd 54 51 53,FJ 55 50 54,ja 0 55]
abbrev EK:IL:=[ja 56 10,jn 57 56 1,ja 10 57]
abbrev Qix:RC:=.seq (jQ EE (jX 36 0)) (.block 1 (jQ EG (.seq (jQ EH (.cond (.t 41) (.exit 0) (.skip))) (jQ EI (jQ EJ (.reg EK))))))
abbrev EL:IL:=[ja 58 9,ja 59 10,ja 60 0,jm 61 1 58 59,jh 1 61 60]
abbrev EM:IL:=[ja 62 9,ja 63 10,jn 64 63 1,Vn 65 1 62 64,ja 8 65]
abbrev Qiy:RC:=jQ Qin (.seq (jQ Qio (.cond (.t 13) (jQ Qip (.ret)) (.skip))) (.seq (jQ Qiq (.cond (.t 15) (jQ Qir (.ret)) (.skip))) (.seq (jQ Qis (.cond (.t 20) (.reg Qit) (.skip))) (jQ Qiu (jQ Qiv (jQ Qiw (jQ ED (.seq (.block 0 (.loop Qix)) (jQ EL (jQ EM (.ret)))))))))))
abbrev Qiz:List RR:=[.tmp 8]
theorem QiA:CT 166 66 Qiy Qiz:=ck Tryz.func166 Tryz.ntmps166 (by decide +kernel)
abbrev QiB:IL:=[jf 4]
abbrev QiC:IL:=[ja 5 0,ja 6 1,yo 7 183 5 6,yd 8 7 0,ja 4 8]
abbrev QiD:RC:=jQ QiB (jQ QiC (.ret))
abbrev QiE:List RR:=[.tmp 4]
theorem QiF:CT 167 9 QiD QiE:=ck Tryz.func167 Tryz.ntmps167 (by decide +kernel)
abbrev QiG:IL:=[jg 2 2 0,jg 3 3 1,zg 4 4,jf 5]
abbrev QiH:IL:=[jb 7 1 2,jc 8 7,zn 9 184 3,yo 10 107 8 9,ja 6 10]
abbrev QiI:IL:=[ja 11 6,yg 12 11 0]
abbrev QiJ:IL:=[⟨some 13,.val (.build [.str [],.bool false,.nils,.nils,.nils] []),none⟩,jh 5 4 13,jf 5]
abbrev QiK:IL:=[jb 14 1 2,jc 15 14,ja 16 6,jm 17 5 15 16,je 18 5 17,jh 5 4 18,ya 5]
abbrev QiL:RC:=jQ QiG (jQ QiH (.seq (jQ QiI (.cond (.t 12) (jQ QiJ (.ret)) (.skip))) (jQ QiK (.ret))))
abbrev QiM:List RR:=[.cell 4 (some 5),.tmp 5]
theorem QiN:CT 169 19 QiL QiM:=ck Tryz.func169 Tryz.ntmps169 (by decide +kernel)
abbrev QiO:IL:=[jg 2 2 0,jf 3]
abbrev QiP:IL:=[jb 4 1 2,jc 5 4,jb 6 6 1,jc 7 6,yp 8 5 7,ja 3 8]
abbrev QiQ:RC:=jQ QiO (jQ QiP (.ret))
abbrev QiR:List RR:=[.tmp 3]
theorem QiS:CT 170 9 QiQ QiR:=ck Tryz.func170 Tryz.ntmps170 (by decide +kernel)
abbrev QiT:IL:=[jg 2 2 0,jf 3]
abbrev QiU:IL:=[jb 4 6 2,jc 5 4,jb 6 6 1,jc 7 6,yp 8 5 7,ja 3 8]
abbrev QiV:RC:=jQ QiT (jQ QiU (.ret))
abbrev QiW:List RR:=[.tmp 3]
theorem QiX:CT 171 9 QiV QiW:=ck Tryz.func171 Tryz.ntmps171 (by decide +kernel)
abbrev QiY:IL:=[jg 1 1 0,jf 2]
abbrev QiZ:IL:=[jb 3 0 1,jc 4 3,js 5 4 0,ja 6 5,jl 7 1 1 6,jq 8 7 6,⟨some 9,.val (.bin .num .eql (.t 8) (.c (.int .u64 0))),(some (6,true))⟩,ji 10 6 9,ja 11 10,jl 12 2 1 11,jq 13 12 11,⟨some 14,.val (.bin .str .eql (.t 13) (.c (.str []))),(some (11,true))⟩,ji 15 11 14,ja 16 15,jl 17 3 1 16,jq 18 17 16,ye 19 1 18 16,jl 20 4 1 16,jq 21 20 16,ye 22 1 21 16,zw 23 19 22 16,jl 24 5 1 16,jq 25 24 16,ye 26 1 25 16,zw 27 23 26 16,jl 28 6 1 16,jq 29 28 16,ye 30 1 29 16,zw 31 27 30 16,ym 32 31 0 16,ji 33 16 32,ja 2 33]
abbrev Qi0:RC:=jQ QiY (jQ QiZ (.ret))
abbrev Qi1:List RR:=[.tmp 2]
theorem Qi2:CT 172 34 Qi0 Qi1:=ck Tryz.func172 Tryz.ntmps172 (by decide +kernel)
abbrev Qi3:IL:=[jg 2 2 0,jf 3]
abbrev Qi4:IL:=[jb 4 1 2,jc 5 4,⟨some 6,.val (.cvi .u64 (.t 5)),none⟩,jb 7 8 1,jb 8 1 7,jc 9 8,zm 10 6 9,ja 3 10]
abbrev Qi5:RC:=jQ Qi3 (jQ Qi4 (.ret))
abbrev Qi6:List RR:=[.tmp 3]
theorem Qi7:CT 173 11 Qi5 Qi6:=ck Tryz.func173 Tryz.ntmps173 (by decide +kernel)
abbrev Qi8:IL:=[jf 6]
abbrev Qi9:IL:=[ja 7 2,⟨some 8,.val (.bin .num .eql (.t 7) (.c (.int .i32 65533))),none⟩,ja 9 8,jj 10 0 9,jj 11 1 9,⟨some 12,.val (.slc none (.t 10) (some (.t 11)) none none),(some (9,true))⟩,⟨some 13,.call (.f 185) [(.t 12),(.c (.str [239,191,189]))],(some (9,true))⟩,yy 14 13 9,ji 15 9 14,ja 6 15]
abbrev Qja:RC:=jQ Qi8 (jQ Qi9 (.ret))
abbrev Qjb:List RR:=[.tmp 6]
theorem Qjc:CT 174 16 Qja Qjb:=ck Tryz.func174 Tryz.ntmps174 (by decide +kernel)
abbrev Qjd:IL:=[jg 4 4 0,jd 8 0]
abbrev Qje:IL:=[⟨some 12,.call (.f 186) [],none⟩,jb 13 0 4,jw 14 0 4 13,⟨some 15,.val (.mgetp true (.agg [.int .i64 0,.int .i64 0]) (.t 12) (.t 14)),none⟩,ja 11 15,jt 16 11 0,jt 17 11 1,⟨some 9,.allocN 9 [.int .i64 0,.int .i64 0],none⟩,yz 0 9 2 9 16,ja 10 17]
abbrev Qjf:IL:=[ja 19 10,jy 20 19,ja 18 20]
abbrev Qjg:IL:=[jd 8 8]
abbrev Qjh:IL:=[ja 22 1,yg 23 22 1,ja 24 23,jv 25 1 24,zo 26 25 6 24,jo 27 24 26,ja 28 27,jp 29 1 9 28,jz 30 29 28,jv 31 1 28,⟨some 32,.val (.bin .num .shr (.t 30) (.t 31)),(some (28,false))⟩,⟨some 33,.val (.bin .num .and (.t 32) (.c (.int .i64 1))),(some (28,false))⟩,yv 34 33 0 28,jo 35 28 34,ja 21 35]
abbrev Qji:IL:=[jd 8 1]
abbrev Qjj:IL:=[je 37 8 4,ju 38 187 37,jy 39 38,ja 36 39]
abbrev Qjk:IL:=[jd 8 12]
abbrev Qjl:IL:=[ja 41 3,ja 42 41,jl 43 0 4 42,jq 44 43 42,jj 45 2 42,⟨some 46,.val (.bin .str .lss (.t 44) (.t 45)),(some (42,true))⟩,ji 47 42 46,ja 40 47]
abbrev Qjm:IL:=[jd 8 11]
abbrev EN:IL:=[ja 49 3,ja 50 49,jl 51 0 4 50,jq 52 51 50,jj 53 2 50,HG 54 52 53 50,ji 55 50 54,ja 48 55]
abbrev EO:IL:=[jd 8 9]
abbrev EP:IL:=[jd 8 0]
abbrev Qjn:RC:=jQ Qjd (jD Qje (.seq (.block 0 (jQ Qjf (.cond (.t 18) (jQ Qjg (.ret)) (jQ Qjh (.cond (.t 21) (jQ Qji (.ret)) (jQ Qjj (.cond (.t 36) (jQ Qjk (.ret)) (jQ Qjl (.cond (.t 40) (jQ Qjm (.ret)) (jQ EN (.cond (.t 48) (jQ EO (.ret)) (.skip)))))))))))) (jQ EP (.ret))))
abbrev Qjo:List RR:=[.tmp 8]
theorem Qjp:CT 175 56 Qjn Qjo:=ck Tryz.func175 Tryz.ntmps175 (by decide +kernel)
abbrev Qjq:IL:=[jd 2 0]
abbrev Qjr:IL:=[ja 4 0,⟨some 5,.val (.bin .num .geq (.t 4) (.c (.int .i32 97))),none⟩,ja 6 5,jj 7 0 6,⟨some 8,.val (.bin .num .leq (.t 7) (.c (.int .i32 122))),(some (6,true))⟩,ji 9 6 8,ja 3 9]
abbrev Qjs:IL:=[jd 2 1]
abbrev Qjt:IL:=[ja 11 0,⟨some 12,.val (.bin .num .geq (.t 11) (.c (.int .i32 65))),none⟩,ja 13 12,jj 14 0 13,⟨some 15,.val (.bin .num .leq (.t 14) (.c (.int .i32 90))),(some (13,true))⟩,ji 16 13 15,ja 10 16]
abbrev Qju:IL:=[jd 2 2]
abbrev Qjv:IL:=[ja 18 0,⟨some 19,.val (.bin .num .geq (.t 18) (.c (.int .i32 48))),none⟩,ja 20 19,jj 21 0 20,⟨some 22,.val (.bin .num .leq (.t 21) (.c (.int .i32 57))),(some (20,true))⟩,ji 23 20 22,ja 17 23]
abbrev Qjw:IL:=[jd 2 3]
abbrev Qjx:IL:=[ja 25 0,⟨some 26,.val (.bin .num .eql (.t 25) (.c (.int .i32 95))),none⟩,ja 24 26]
abbrev Qjy:IL:=[jd 2 4]
abbrev Qjz:IL:=[jd 2 0]
abbrev QjA:RC:=jQ Qjq (.seq (.block 0 (jQ Qjr (.cond (.t 3) (jQ Qjs (.ret)) (jQ Qjt (.cond (.t 10) (jQ Qju (.ret)) (jQ Qjv (.cond (.t 17) (jQ Qjw (.ret)) (jQ Qjx (.cond (.t 24) (jQ Qjy (.ret)) (.skip)))))))))) (jQ Qjz (.ret)))
abbrev QjB:List RR:=[.tmp 2]
theorem QjC:CT 176 27 QjA QjB:=ck Tryz.func176 Tryz.ntmps176 (by decide +kernel)
abbrev QjD:IL:=[jd 4 0]
abbrev QjE:IL:=[ja 6 0,jk 7 1 6,jd 8 0]
abbrev QjF:IL:=[jr 9 8 7]
abbrev QjG:IL:=[ja 10 8,ja 5 10]
abbrev QjH:IL:=[ja 11 1,ja 12 0,ja 13 5,jm 14 3 12 13,je 15 3 14,Us 16 11 15]
abbrev QjI:IL:=[ja 17 5,ja 4 17]
abbrev QjJ:IL:=[jn 18 8 1,ja 8 18]
abbrev QjK:RC:=jQ QjF (.seq (jX 9 0) (.seq (.block 1 (jQ QjG (jQ QjH (.cond (.t 16) (jQ QjI (.ret)) (.skip))))) (.reg QjJ)))
abbrev QjL:IL:=[jd 4 (-1)]
abbrev QjM:RC:=jQ QjD (.seq (jQ QjE (.block 0 (.loop QjK))) (jQ QjL (.ret)))
abbrev QjN:List RR:=[.tmp 4]
theorem QjO:CT 177 19 QjM QjN:=ck Tryz.func177 Tryz.ntmps177 (by decide +kernel)
abbrev QjP:IL:=[jd 4 0]
abbrev QjQ:IL:=[ja 6 0,jk 7 1 6,jd 8 0]
abbrev QjR:IL:=[jr 9 8 7]
abbrev QjS:IL:=[ja 10 8,ja 5 10]
abbrev QjT:IL:=[ja 11 1,ja 12 0,ja 13 5,jm 14 2 12 13,je 15 2 14,Us 16 11 15]
abbrev QjU:IL:=[ja 17 5,ja 4 17]
abbrev QjV:IL:=[jn 18 8 1,ja 8 18]
abbrev QjW:RC:=jQ QjR (.seq (jX 9 0) (.seq (.block 1 (jQ QjS (jQ QjT (.cond (.t 16) (jQ QjU (.ret)) (.skip))))) (.reg QjV)))
abbrev QjX:IL:=[jd 4 (-1)]
abbrev QjY:RC:=jQ QjP (.seq (jQ QjQ (.block 0 (.loop QjW))) (jQ QjX (.ret)))
abbrev QjZ:List RR:=[.tmp 4]
theorem Qj0:CT 178 19 QjY QjZ:=ck Tryz.func178 Tryz.ntmps178 (by decide +kernel)
abbrev Qj1:IL:=[jf 2]
abbrev Qj2:IL:=[ja 3 0,js 4 3 7,ja 5 4,jv 6 0 5,yv 7 6 8 5,jo 8 5 7,ja 2 8]
abbrev Qj3:RC:=jQ Qj1 (jQ Qj2 (.ret))
abbrev Qj4:List RR:=[.tmp 2]
theorem Qj5:CT 179 9 Qj3 Qj4:=ck Tryz.func179 Tryz.ntmps179 (by decide +kernel)
abbrev Qj6:IL:=[yh 4]
abbrev Qj7:IL:=[ja 10 0,ju 11 188 10,ja 5 11]
abbrev Qj8:IL:=[ja 12 1,yg 13 12 0,ja 14 13,jv 15 1 14,jv 16 5 14,HE 17 15 16 14,jo 18 14 17]
abbrev Qj9:IL:=[ja 19 5,ja 1 19]
abbrev Qka:IL:=[ja 20 1,⟨some 21,.mk 21 9 1 16 [.str []] (.t 20) (.t 20),none⟩,ja 6 21]
abbrev Qkb:IL:=[jd 7 0]
abbrev Qkc:IL:=[ja 22 7,ja 23 1,zh 24 23 1,jr 25 22 24]
abbrev Qkd:IL:=[ja 29 0,ju 30 189 29,ja 28 30,jt 31 28 0,jt 32 28 1,ja 8 31,ja 9 32]
abbrev Qke:IL:=[ja 33 6,ja 34 7,ja 35 0,ja 36 9,⟨some 37,.val (.slc none (.t 35) none (some (.t 36)) none),none⟩,jm 38 1 33 34,jh 1 38 37]
abbrev EQ:IL:=[ja 39 0,ja 40 9,FJ 41 39 40,ja 0 41]
abbrev Qkf:IL:=[ja 26 7,jn 27 26 1,ja 7 27]
abbrev Qkg:RC:=.seq (jQ Qkc (jX 25 0)) (.seq (.block 1 (jQ Qkd (jQ Qke (.reg EQ)))) (.reg Qkf))
abbrev ER:IL:=[ja 42 1,ys 43 42 0]
abbrev ES:IL:=[ja 44 6,ja 45 1,zh 46 45 1,ja 47 0,jm 48 1 44 46,jh 1 48 47]
abbrev ET:IL:=[ja 49 6,ja 4 49]
abbrev Qkh:RC:=jQ Qj6 (jQ Qj7 (.seq (jQ Qj8 (.cond (.t 18) (.reg Qj9) (.skip))) (jQ Qka (.seq (jQ Qkb (.block 0 (.loop Qkg))) (.seq (jQ ER (.cond (.t 43) (.reg ES) (.skip))) (jQ ET (.ret)))))))
abbrev Qki:List RR:=[.tmp 4]
theorem QzS:CT 180 50 Qkh Qki:=ck Tryz.func180 Tryz.ntmps180 (by decide +kernel)
abbrev Qkj:IL:=[jd 4 0]
abbrev Qkk:IL:=[ja 7 1,jk 8 0 7,js 9 8 0]
abbrev Qkl:IL:=[ja 10 0,ju 11 188 10,jn 12 11 1,ja 4 12]
abbrev Qkm:IL:=[ja 13 1,jk 14 0 13,js 15 14 1]
abbrev Qkn:IL:=[ja 16 0,ja 17 1,Yt 18 17 0,⟨some 19,.xb true 190 (.t 16) (.t 18),none⟩,ja 4 19]
abbrev Qko:IL:=[jd 5 0]
abbrev Qkp:IL:=[ja 20 0,ja 21 1,jx 22 182 20 21,ja 6 22]
abbrev Qkq:IL:=[ja 23 6,js 24 23 (-1)]
abbrev Qkr:IL:=[ja 25 5,ja 4 25]
abbrev Qks:IL:=[ja 26 5,jn 27 26 1,ja 5 27]
abbrev EU:IL:=[ja 28 0,ja 29 6,ja 30 1,jk 31 0 30,zd 32 29 31,FJ 33 28 32,ja 0 33]
abbrev Qkt:RC:=.block 1 (jQ Qkp (.seq (jQ Qkq (.cond (.t 24) (jQ Qkr (.ret)) (.skip))) (jQ Qks (.reg EU))))
abbrev Qku:RC:=jQ Qkj (.seq (jQ Qkk (.cond (.t 9) (jQ Qkl (.ret)) (.skip))) (.seq (jQ Qkm (.cond (.t 15) (jQ Qkn (.ret)) (.skip))) (jQ Qko (.block 0 (.loop Qkt)))))
abbrev Qkv:List RR:=[.tmp 4]
theorem Qkw:CT 181 34 Qku Qkv:=ck Tryz.func181 Tryz.ntmps181 (by decide +kernel)
abbrev Qkx:IL:=[jd 4 0]
abbrev Qky:IL:=[ja 5 0,ja 6 1,jx 7 191 5 6,ja 4 7]
abbrev Qkz:RC:=jQ Qkx (jQ Qky (.ret))
abbrev QkA:List RR:=[.tmp 4]
theorem QkB:CT 182 8 Qkz QkA:=ck Tryz.func182 Tryz.ntmps182 (by decide +kernel)
abbrev QkC:IL:=[jd 4 0]
abbrev QkD:IL:=[ja 6 0,jk 7 1 6,jd 8 0]
abbrev QkE:IL:=[jr 9 8 7]
abbrev QkF:IL:=[ja 10 8,ja 5 10]
abbrev QkG:IL:=[ja 11 1,ja 12 0,ja 13 5,jm 14 16 12 13,je 15 16 14,Us 16 11 15]
abbrev QkH:IL:=[ja 17 5,ja 4 17]
abbrev QkI:IL:=[jn 18 8 1,ja 8 18]
abbrev QkJ:RC:=jQ QkE (.seq (jX 9 0) (.seq (.block 1 (jQ QkF (jQ QkG (.cond (.t 16) (jQ QkH (.ret)) (.skip))))) (.reg QkI)))
abbrev QkK:IL:=[jd 4 (-1)]
abbrev QkL:RC:=jQ QkC (.seq (jQ QkD (.block 0 (.loop QkJ))) (jQ QkK (.ret)))
abbrev QkM:List RR:=[.tmp 4]
theorem QkN:CT 183 19 QkL QkM:=ck Tryz.func183 Tryz.ntmps183 (by decide +kernel)
abbrev QkO:IL:=[jg 2 2 0,jf 3]
abbrev QkP:IL:=[jb 4 0 2,jc 5 4,jc 6 1,yp 7 5 6,ja 3 7]
abbrev QkQ:RC:=jQ QkO (jQ QkP (.ret))
abbrev QkR:List RR:=[.tmp 3]
theorem QkS:CT 184 8 QkQ QkR:=ck Tryz.func184 Tryz.ntmps184 (by decide +kernel)
abbrev QkT:IL:=[jf 4]
abbrev QkU:IL:=[ja 5 0,ja 6 1,jx 7 192 5 6,ja 4 7]
abbrev QkV:RC:=jQ QkT (jQ QkU (.ret))
abbrev QkW:List RR:=[.tmp 4]
theorem QkX:CT 185 8 QkV QkW:=ck Tryz.func185 Tryz.ntmps185 (by decide +kernel)
abbrev QkY:IL:=[⟨some 0,.val (.mov (.c (.nilm))),none⟩]
abbrev QkZ:IL:=[⟨some 1,.mkm 1,none⟩,⟨some 2,.val (.build [.int .i64 0,.int .i64 0] [(0,1,(.c (.int .i64 1))),(1,1,(.c (.int .i64 126)))]),none⟩,⟨none,.mput (.t 1) (.c (.str [100,101,112,114,101,99,97,116,101,100])) (.t 2),none⟩,⟨some 3,.val (.build [.int .i64 0,.int .i64 0] [(0,1,(.c (.int .i64 7))),(1,1,(.c (.int .i64 126)))]),none⟩,⟨none,.mput (.t 1) (.c (.str [100,111,99])) (.t 3),none⟩,⟨some 4,.val (.build [.int .i64 0,.int .i64 0] [(0,1,(.c (.int .i64 7))),(1,1,(.c (.int .i64 84)))]),none⟩,⟨none,.mput (.t 1) (.c (.str [97,108,105,97,115])) (.t 4),none⟩,⟨some 5,.val (.build [.int .i64 0,.int .i64 0] [(0,1,(.c (.int .i64 4))),(1,1,(.c (.int .i64 84)))]),none⟩,⟨none,.mput (.t 1) (.c (.str [115,105,110,99,101])) (.t 5),none⟩,⟨some 6,.val (.build [.int .i64 0,.int .i64 0] [(0,1,(.c (.int .i64 4))),(1,1,(.c (.int .i64 84)))]),none⟩,⟨none,.mput (.t 1) (.c (.str [117,110,116,105,108])) (.t 6),none⟩,⟨some 7,.val (.build [.int .i64 0,.int .i64 0] [(0,1,(.c (.int .i64 3))),(1,1,(.c (.int .i64 4)))]),none⟩,⟨none,.mput (.t 1) (.c (.str [109,105,110])) (.t 7),none⟩,⟨some 8,.val (.build [.int .i64 0,.int .i64 0] [(0,1,(.c (.int .i64 3))),(1,1,(.c (.int .i64 4)))]),none⟩,⟨none,.mput (.t 1) (.c (.str [109,97,120])) (.t 8),none⟩,⟨some 9,.val (.build [.int .i64 0,.int .i64 0] [(0,1,(.c (.int .i64 4))),(1,1,(.c (.int .i64 4)))]),none⟩,⟨none,.mput (.t 1) (.c (.str [108,101,110,103,116,104])) (.t 9),none⟩,⟨some 10,.val (.build [.int .i64 0,.int .i64 0] [(0,1,(.c (.int .i64 1))),(1,1,(.c (.int .i64 4)))]),none⟩,⟨none,.mput (.t 1) (.c (.str [115,101,99,114,101,116])) (.t 10),none⟩,⟨some 11,.val (.build [.int .i64 0,.int .i64 0] [(0,1,(.c (.int .i64 1))),(1,1,(.c (.int .i64 64)))]),none⟩,⟨none,.mput (.t 1) (.c (.str [105,100,101,109,112,111,116,101,110,116])) (.t 11),none⟩,⟨some 12,.val (.build [.int .i64 0,.int .i64 0] [(0,1,(.c (.int .i64 4))),(1,1,(.c (.int .i64 64)))]),none⟩,⟨none,.mput (.t 1) (.c (.str [116,105,109,101,111,117,116])) (.t 12),none⟩,⟨some 13,.val (.build [.int .i64 0,.int .i64 0] [(0,1,(.c (.int .i64 7))),(1,1,(.c (.int .i64 64)))]),none⟩,⟨none,.mput (.t 1) (.c (.str [114,111,117,116,101])) (.t 13),none⟩,⟨some 14,.val (.build [.int .i64 0,.int .i64 0] [(0,1,(.c (.int .i64 7))),(1,1,(.c (.int .i64 34)))]),none⟩,⟨none,.mput (.t 1) (.c (.str [111,119,110,101,114])) (.t 14),none⟩,ja 15 1,ja 0 15]
abbrev PU:RC:=jQ QkY (jQ QkZ (.ret))
abbrev PV:List RR:=[.tmp 0]
theorem Qk0:CT 186 16 PU PV:=ck Tryz.func186 Tryz.ntmps186 (by decide +kernel)
abbrev Qk1:IL:=[jg 1 1 0,jf 2]
abbrev Qk2:IL:=[jb 4 0 1,jc 5 4,ju 6 193 5,ja 3 6]
abbrev Qk3:IL:=[ja 7 3,yc 8 7 0,ja 9 8,jj 10 3 9,jl 11 1 1 9,zb 12 7 11 9,FH 13 139 10 12 9,ji 14 9 13,ja 2 14]
abbrev Qk4:RC:=jQ Qk1 (jQ Qk2 (jQ Qk3 (.ret)))
abbrev Qk5:List RR:=[.tmp 2]
theorem Qk6:CT 187 15 Qk4 Qk5:=ck Tryz.func187 Tryz.ntmps187 (by decide +kernel)
abbrev Qk7:IL:=[jd 2 0]
abbrev Qk8:IL:=[ja 3 0,⟨some 4,.rngs 4 (.t 3),none⟩]
abbrev Qk9:IL:=[⟨some 5,.nxts (.t 4),none⟩,jt 6 5 0]
abbrev Qla:IL:=[ja 7 2,jn 8 7 1,ja 2 8]
abbrev Qlb:RC:=jQ Qk9 (.seq (jX 6 0) (.block 1 (.reg Qla)))
abbrev Qlc:IL:=[ja 9 2,ja 2 9]
abbrev Qld:RC:=jQ Qk7 (.seq (jQ Qk8 (.block 0 (.loop Qlb))) (jQ Qlc (.ret)))
abbrev Qle:List RR:=[.tmp 2]
theorem QzT:CT 188 10 Qld Qle:=ck Tryz.func188 Tryz.ntmps188 (by decide +kernel)
abbrev Qlf:IL:=[GP 2 0,jd 3 0]
abbrev Qlg:IL:=[ja 4 0,⟨some 5,.val (.bin .str .neq (.t 4) (.c (.str []))),none⟩,ja 6 5,jj 7 0 6,⟨some 8,.val (.idx (.t 7) (.c (.int .i64 0))),(some (6,true))⟩,⟨some 9,.val (.bin .num .lss (.t 8) (.c (.int .u8 128))),(some (6,true))⟩,ji 10 6 9]
abbrev Qlh:IL:=[ja 11 0,Yt 12 11 0,zl 13 12,ja 2 13,jd 3 1]
abbrev Qli:IL:=[ja 15 0,ju 16 194 15,ja 14 16,jt 17 14 0,jt 18 14 1,ja 2 17,ja 3 18]
abbrev Qlj:RC:=jQ Qlf (.seq (jQ Qlg (.cond (.t 10) (jQ Qlh (.ret)) (.reg Qli))) (.ret))
abbrev Qlk:List RR:=[.tmp 2,.tmp 3]
theorem QzU:CT 189 19 Qlj Qlk:=ck Tryz.func189 Tryz.ntmps189 (by decide +kernel)
def CM:IL:=[jd 4 0]
def CN:IL:=[ja 14 1,jk 15 0 14,ja 5 15]
def CO:IL:=[ja 17 5,js 18 17 0,ja 19 18,jv 20 1 19,jv 21 0 19,⟨some 22,.val (.bin .str .eql (.t 20) (.t 21)),(some (19,false))⟩,jo 23 19 22,ja 16 23]
def CP:IL:=[jd 4 0]
def CQ:IL:=[ja 25 5,js 26 25 1,ja 24 26]
def CR:IL:=[ja 27 0,ja 28 1,Yt 29 28 0,jx 30 195 27 29,ja 4 30]
def CS:IL:=[ja 32 5,ja 33 0,jk 34 0 33,⟨some 35,.val (.bin .num .geq (.t 32) (.t 34)),none⟩,ja 31 35]
def CU:IL:=[jd 4 (-1)]
def CV:IL:=[ja 45 0,ja 46 1,jx 47 196 45 46,ja 4 47]
def EV:IL:=[ja 48 1,Yt 49 48 0,ja 6 49]
def EW:IL:=[ja 50 1,Yt 51 50 1,ja 7 51]
def EX:IL:=[jd 8 0]
def EY:IL:=[ja 52 0,jk 53 0 52,ja 54 5,⟨some 55,.val (.bin .num .sub (.t 53) (.t 54)),none⟩,jn 56 55 1,ja 9 56]
def EZ:IL:=[jd 10 0]
def E0:IL:=[ja 57 8,ja 58 9,jr 59 57 58]
def E1:IL:=[ja 60 0,ja 61 8,Yu 62 60 61,ja 63 6,⟨some 64,.val (.bin .num .neq (.t 62) (.t 63)),none⟩]
def E2:IL:=[ja 65 0,ja 66 8,jn 67 66 1,ja 68 9,⟨some 69,.val (.slc none (.t 65) (some (.t 67)) (some (.t 68)) none),none⟩,ja 70 6,jx 71 195 69 70,ja 11 71]
def E3:IL:=[ja 72 11,yg 73 72 0]
def E4:IL:=[jd 4 (-1)]
def E5:IL:=[ja 74 8,ja 75 11,jn 76 75 1,zd 77 74 76,ja 8 77]
def E6:IL:=[ja 78 0,ja 79 8,jn 80 79 1,Yu 81 78 80,ja 82 7,zm 83 81 82,ja 84 83,jj 85 0 84,jj 86 8 84,jj 87 8 84,jj 88 5 84,zw 89 87 88 84,⟨some 90,.val (.slc none (.t 85) (some (.t 86)) (some (.t 89)) none),(some (84,true))⟩,jj 91 1 84,HG 92 90 91 84,ji 93 84 92]
def E7:IL:=[ja 94 8,ja 4 94]
def E8:IL:=[ja 95 8,jn 96 95 1,ja 8 96]
def E9:IL:=[ja 97 10,jn 98 97 1,ja 10 98]
def Ia:IL:=[ja 108 0,ja 109 8,FJ 110 108 109,ja 111 1,jx 112 196 110 111,ja 12 112]
def Ib:IL:=[ja 113 12,yd 114 113 0]
def Ic:IL:=[ja 115 12,ja 116 8,zd 117 115 116,ja 4 117]
def Ie:IL:=[jd 4 (-1)]
def Ig:IL:=[ja 133 0,ja 134 8,FJ 135 133 134,ja 136 1,jx 137 198 135 136,ja 13 137]
def Ih:IL:=[ja 138 13,yg 139 138 0]
def Ii:IL:=[jd 4 (-1)]
def Ij:IL:=[ja 140 8,ja 141 13,zd 142 140 141,ja 4 142]
def Qll:RC:=.seq (jQ E0 (jX 59 1)) (.block 2 (.seq (jQ E1 (.cond (.t 64) (jQ E2 (.seq (jQ E3 (.cond (.t 73) (jQ E4 (.ret)) (.skip))) (.reg E5))) (.skip))) (.seq (jQ E6 (.cond (.t 93) (jQ E7 (.ret)) (.skip))) (jQ E8 (jQ E9 (.seq (.no) (.cond (.t 107) (jQ Ia (.seq (jQ Ib (.cond (.t 114) (jQ Ic (.ret)) (.skip))) (jQ Ie (.ret)))) (.seq (.no) (.cond (.t 132) (jQ Ig (.seq (jQ Ih (.cond (.t 139) (jQ Ii (.ret)) (.skip))) (jQ Ij (.ret)))) (.skip))))))))))
def Ik:IL:=[jd 4 (-1)]
def Nl:RC:=jQ CM (jQ CN (.seq (.block 0 (jQ CO (.cond (.t 16) (jQ CP (.ret)) (jQ CQ (.cond (.t 24) (jQ CR (.ret)) (jQ CS (.cond (.t 31) (jQ CU (.ret)) (.seq (.no) (.cond (.t 36) (jQ CV (.ret)) (.skip)))))))))) (jQ EV (jQ EW (jQ EX (jQ EY (jQ EZ (.seq (.block 1 (.loop Qll)) (jQ Ik (.ret))))))))))
def PW:List RR:=[.tmp 4]
theorem Qlm:CT 191 143 Nl PW:=ck Tryz.func191 Tryz.ntmps191 (by decide +kernel)
abbrev Qln:IL:=[jf 4]
abbrev Qlo:IL:=[ja 5 0,jk 6 0 5,ja 7 1,jk 8 0 7,⟨some 9,.val (.bin .num .geq (.t 6) (.t 8)),none⟩,ja 10 9,jj 11 0 10,jj 12 1 10,ye 13 0 12 10,⟨some 14,.val (.slc none (.t 11) none (some (.t 13)) none),(some (10,true))⟩,jj 15 1 10,HG 16 14 15 10,ji 17 10 16,ja 4 17]
abbrev Qlp:RC:=jQ Qln (jQ Qlo (.ret))
abbrev Qlq:List RR:=[.tmp 4]
theorem Qlr:CT 192 18 Qlp Qlq:=ck Tryz.func192 Tryz.ntmps192 (by decide +kernel)
abbrev Qls:IL:=[jd 2 0]
abbrev Qlt:IL:=[⟨some 3,.call (.f 186) [],none⟩,ja 4 0,⟨some 5,.val (.mget false (.agg [.int .i64 0,.int .i64 0]) (.t 3) (.t 4)),none⟩,⟨some 6,.val (.fld 0 none (.t 5)),none⟩,ja 2 6]
abbrev Qlu:RC:=jQ Qls (jQ Qlt (.ret))
abbrev Qlv:List RR:=[.tmp 2]
theorem Qlw:CT 193 7 Qlu Qlv:=ck Tryz.func193 Tryz.ntmps193 (by decide +kernel)
abbrev Qlx:IL:=[GP 2 0,jd 3 0]
abbrev Qly:IL:=[ja 13 0,jk 14 0 13,ja 4 14]
abbrev Qlz:IL:=[ja 15 4,yg 16 15 1]
abbrev QlA:IL:=[GP 2 65533,jd 3 0]
abbrev QlB:IL:=[ja 17 0,Yt 18 17 0,ja 5 18]
abbrev QlC:IL:=[ja 22 6,FK 23 22 240]
abbrev QlD:IL:=[ja 24 6,zl 25 24,GQ 26 25 31,⟨some 27,.val (.bin .num .shr (.t 26) (.c (.int .u64 31))),none⟩,ja 7 27]
abbrev QlE:IL:=[ja 28 0,Yt 29 28 0,zl 30 29,ja 31 7,⟨some 32,.val (.bin .num .andNot (.t 30) (.t 31)),none⟩,ja 33 7,⟨some 34,.val (.bin .num .and (.c (.int .i32 65533)) (.t 33)),none⟩,GR 35 32 34,ja 2 35,jd 3 1]
abbrev QlF:IL:=[ja 36 6,Yv 37 36 7,⟨some 38,.val (.cvi .i64 (.t 37)),none⟩,ja 8 38]
abbrev Il:IL:=[ja 43 4,ja 44 8,jr 45 43 44]
abbrev Im:IL:=[GP 2 65533,jd 3 1]
abbrev Io:IL:=[ja 46 0,Yt 47 46 1,ja 10 47]
abbrev Ip:IL:=[ja 48 10,jb 49 0 9,jc 50 49,jr 51 48 50,ja 52 51,jp 53 1 9 52,jz 54 53 52,jv 55 10 52,⟨some 56,.val (.bin .num .lss (.t 54) (.t 55)),(some (52,false))⟩,jo 57 52 56]
abbrev Iq:IL:=[GP 2 65533,jd 3 1]
abbrev Ir:IL:=[ja 58 8,Ut 59 58 2]
abbrev Is:IL:=[ja 60 5,Yv 61 60 31,zl 62 61,GQ 63 62 6,ja 64 10,Yv 65 64 63,zl 66 65,GR 67 63 66,ja 2 67,jd 3 2]
abbrev It:IL:=[ja 68 0,Yt 69 68 2,ja 11 69]
abbrev Iu:IL:=[ja 70 11,⟨some 71,.val (.bin .num .lss (.t 70) (.c (.int .u8 128))),none⟩,ja 72 71,jv 73 11 72,⟨some 74,.val (.bin .num .lss (.c (.int .u8 191)) (.t 73)),(some (72,false))⟩,jo 75 72 74]
abbrev Iv:IL:=[GP 2 65533,jd 3 1]
abbrev Iw:IL:=[ja 76 8,Ut 77 76 3]
abbrev Ix:IL:=[ja 78 5,Yv 79 78 15,zl 80 79,GQ 81 80 12,ja 82 10,Yv 83 82 63,zl 84 83,GQ 85 84 6,GR 86 81 85,ja 87 11,Yv 88 87 63,zl 89 88,GR 90 86 89,ja 2 90,jd 3 3]
abbrev Iy:IL:=[ja 91 0,Yt 92 91 3,ja 12 92]
abbrev Iz:IL:=[ja 93 12,⟨some 94,.val (.bin .num .lss (.t 93) (.c (.int .u8 128))),none⟩,ja 95 94,jv 96 12 95,⟨some 97,.val (.bin .num .lss (.c (.int .u8 191)) (.t 96)),(some (95,false))⟩,jo 98 95 97]
abbrev IA:IL:=[GP 2 65533,jd 3 1]
abbrev IB:IL:=[ja 99 5,Yv 100 99 7,zl 101 100,GQ 102 101 18,ja 103 10,Yv 104 103 63,zl 105 104,GQ 106 105 12,GR 107 102 106,ja 108 11,Yv 109 108 63,zl 110 109,GQ 111 110 6,GR 112 107 111,ja 113 12,Yv 114 113 63,zl 115 114,GR 116 112 115,ja 2 116,jd 3 4]
abbrev QlG:RC:=jQ Qlx (jQ Qly (.seq (jQ Qlz (.cond (.t 16) (jQ QlA (.ret)) (.skip))) (jQ QlB (.seq (.no) (.seq (jQ QlC (.cond (.t 23) (jQ QlD (jQ QlE (.ret))) (.skip))) (jQ QlF (.seq (.no) (.seq (jQ Il (.cond (.t 45) (jQ Im (.ret)) (.skip))) (jQ Io (.seq (jQ Ip (.cond (.t 57) (jQ Iq (.ret)) (.skip))) (.seq (jQ Ir (.cond (.t 59) (jQ Is (.ret)) (.skip))) (jQ It (.seq (jQ Iu (.cond (.t 75) (jQ Iv (.ret)) (.skip))) (.seq (jQ Iw (.cond (.t 77) (jQ Ix (.ret)) (.skip))) (jQ Iy (.seq (jQ Iz (.cond (.t 98) (jQ IA (.ret)) (.skip))) (jQ IB (.ret))))))))))))))))))
abbrev QlH:List RR:=[.tmp 2,.tmp 3]
theorem QzV:CT 194 117 QlG QlH:=ck Tryz.func194 Tryz.ntmps194 (by decide +kernel)
abbrev QlI:IL:=[jd 4 0]
abbrev QlJ:IL:=[ja 5 0,ja 6 1,⟨some 7,.xb false 199 (.t 5) (.t 6),none⟩,ja 4 7]
abbrev QlK:RC:=jQ QlI (jQ QlJ (.ret))
abbrev QlL:List RR:=[.tmp 4]
theorem QlM:CT 195 8 QlK QlL:=ck Tryz.func195 Tryz.ntmps195 (by decide +kernel)
abbrev QlN:IL:=[jd 2 0]
abbrev QlO:IL:=[ja 3 0,jn 4 3 16,⟨some 5,.val (.bin .num .quo (.t 4) (.c (.int .i64 8))),none⟩,ja 2 5]
abbrev QlP:RC:=jQ QlN (jQ QlO (.ret))
abbrev QlQ:List RR:=[.tmp 2]
theorem QzW:CT 197 6 QlP QlQ:=ck Tryz.func197 Tryz.ntmps197 (by decide +kernel)
abbrev QlR:IL:=[jd 4 0]
abbrev QlS:IL:=[ja 12 1,ju 13 200 12,ja 11 13,jt 14 11 0,jt 15 11 1,ja 5 14,ja 6 15]
abbrev QlT:IL:=[ja 16 1,jk 17 0 16,ja 7 17]
abbrev QlU:IL:=[FL 8 0]
abbrev QlV:IL:=[jd 9 0]
abbrev QlW:IL:=[ja 18 9,ja 19 7,jr 20 18 19]
abbrev QlX:IL:=[ja 23 8,⟨some 24,.val (.bin .num .mul (.t 23) (.c (.int .u32 16777619))),none⟩,ja 25 0,ja 26 9,Yu 27 25 26,⟨some 28,.val (.cvi .u32 (.t 27)),none⟩,zd 29 24 28,ja 8 29]
abbrev QlY:IL:=[ja 21 9,jn 22 21 1,ja 9 22]
abbrev QlZ:RC:=.seq (jQ QlW (jX 20 0)) (.seq (.block 1 (.reg QlX)) (.reg QlY))
abbrev Ql0:IL:=[ja 30 8,ja 31 5,zm 32 30 31,ja 33 32,jj 34 0 33,jj 35 7 33,⟨some 36,.val (.slc none (.t 34) none (some (.t 35)) none),(some (33,true))⟩,jj 37 1 33,HG 38 36 37 33,ji 39 33 38]
abbrev Ql1:IL:=[jd 4 0]
abbrev IC:IL:=[ja 40 7,ja 10 40]
abbrev ID:IL:=[ja 41 10,ja 42 0,jk 43 0 42,jr 44 41 43]
abbrev IE:IL:=[ja 45 8,⟨some 46,.val (.bin .num .mul (.t 45) (.c (.int .u32 16777619))),none⟩,ja 8 46]
abbrev IF:IL:=[ja 47 8,ja 48 0,ja 49 10,Yu 50 48 49,⟨some 51,.val (.cvi .u32 (.t 50)),none⟩,zd 52 47 51,ja 8 52]
abbrev IG:IL:=[ja 53 8,ja 54 6,ja 55 0,ja 56 10,ja 57 7,⟨some 58,.val (.bin .num .sub (.t 56) (.t 57)),none⟩,Yu 59 55 58,⟨some 60,.val (.cvi .u32 (.t 59)),none⟩,⟨some 61,.val (.bin .num .mul (.t 54) (.t 60)),none⟩,⟨some 62,.val (.bin .num .sub (.t 53) (.t 61)),none⟩,ja 8 62]
abbrev IH:IL:=[ja 63 10,jn 64 63 1,ja 10 64]
abbrev II:IL:=[ja 65 8,ja 66 5,zm 67 65 66,ja 68 67,jj 69 0 68,jj 70 10 68,jj 71 7 68,⟨some 72,.val (.bin .num .sub (.t 70) (.t 71)),(some (68,true))⟩,jj 73 10 68,⟨some 74,.val (.slc none (.t 69) (some (.t 72)) (some (.t 73)) none),(some (68,true))⟩,jj 75 1 68,HG 76 74 75 68,ji 77 68 76]
abbrev IJ:IL:=[ja 78 10,ja 79 7,⟨some 80,.val (.bin .num .sub (.t 78) (.t 79)),none⟩,ja 4 80]
abbrev Ql2:RC:=.seq (jQ ID (jX 44 2)) (.block 3 (jQ IE (jQ IF (jQ IG (jQ IH (jQ II (.cond (.t 77) (jQ IJ (.ret)) (.skip))))))))
abbrev IK:IL:=[jd 4 (-1)]
abbrev Ql3:RC:=jQ QlR (jQ QlS (jQ QlT (jQ QlU (.seq (jQ QlV (.block 0 (.loop QlZ))) (.seq (jQ Ql0 (.cond (.t 39) (jQ Ql1 (.ret)) (.skip))) (.seq (jQ IC (.block 2 (.loop Ql2))) (jQ IK (.ret))))))))
abbrev Ql4:List RR:=[.tmp 4]
theorem QzX:CT 198 81 Ql3 Ql4:=ck Tryz.func198 Tryz.ntmps198 (by decide +kernel)
abbrev Ql5:IL:=[FL 2 0,FL 3 0]
abbrev Ql6:IL:=[FL 4 0]
abbrev Ql7:IL:=[jd 5 0]
abbrev Ql8:IL:=[ja 9 5,ja 10 0,jk 11 0 10,jr 12 9 11]
abbrev Ql9:IL:=[ja 15 4,⟨some 16,.val (.bin .num .mul (.t 15) (.c (.int .u32 16777619))),none⟩,ja 17 0,ja 18 5,Yu 19 17 18,⟨some 20,.val (.cvi .u32 (.t 19)),none⟩,zd 21 16 20,ja 4 21]
abbrev Qma:IL:=[ja 13 5,jn 14 13 1,ja 5 14]
abbrev Qmb:RC:=.seq (jQ Ql8 (jX 12 0)) (.seq (.block 1 (.reg Ql9)) (.reg Qma))
abbrev Qmc:IL:=[FL 6 1,FL 7 16777619]
abbrev Qmd:IL:=[ja 22 0,jk 23 0 22,ja 8 23]
abbrev Qme:IL:=[ja 24 8,ys 25 24 0]
abbrev IM:IL:=[ja 28 8,⟨some 29,.val (.bin .num .and (.t 28) (.c (.int .i64 1))),none⟩,yc 30 29 0]
abbrev IN:IL:=[ja 31 6,ja 32 7,⟨some 33,.val (.bin .num .mul (.t 31) (.t 32)),none⟩,ja 6 33]
abbrev IP:IL:=[ja 34 7,ja 35 7,⟨some 36,.val (.bin .num .mul (.t 34) (.t 35)),none⟩,ja 7 36]
abbrev Qmf:IL:=[ja 26 8,⟨some 27,.val (.bin .num .shr (.t 26) (.c (.int .u64 1))),none⟩,ja 8 27]
abbrev Qmg:RC:=.seq (jQ Qme (jX 25 2)) (.seq (.block 3 (.seq (jQ IM (.cond (.t 30) (.reg IN) (.skip))) (.reg IP))) (.reg Qmf))
abbrev IQ:IL:=[ja 37 4,ja 38 6,ja 2 37,ja 3 38]
abbrev Qmh:RC:=jQ Ql5 (jQ Ql6 (.seq (jQ Ql7 (.block 0 (.loop Qmb))) (jQ Qmc (.seq (jQ Qmd (.block 2 (.loop Qmg))) (jQ IQ (.ret))))))
abbrev Qmi:List RR:=[.tmp 2,.tmp 3]
theorem QzY:CT 200 39 Qmh Qmi:=ck Tryz.func200 Tryz.ntmps200 (by decide +kernel)
abbrev QzZ:IL:=[jg 2 2 0,zf 4 4,jf 5]
abbrev Qz0:IL:=[jd 6 0]
abbrev Qz1:IL:=[ja 7 6,jb 8 0 2,jc 9 8,jk 10 1 9,jr 11 7 10]
abbrev Qz2:IL:=[jb 14 0 2,jc 15 14,ja 16 6,jm 17 5 15 16,jb 18 0 17,jc 19 18,ja 20 1,yp 21 19 20]
abbrev Qz3:IL:=[jb 22 0 2,jc 23 22,ja 24 6,jm 25 5 23 24,je 26 5 25,jh 5 4 26,ya 5]
abbrev Qz4:IL:=[ja 12 6,jn 13 12 1,ja 6 13]
abbrev Qz5:RC:=.seq (jQ Qz1 (jX 11 0)) (.seq (.block 1 (jQ Qz2 (.cond (.t 21) (jQ Qz3 (.ret)) (.skip)))) (.reg Qz4))
abbrev Qz6:IL:=[⟨some 27,.val (.build [.str [],.nils,.nils,.nils,.nils] []),none⟩,jh 5 4 27,jf 5]
abbrev r4:RC:=jQ QzZ (.seq (jQ Qz0 (.block 0 (.loop Qz5))) (jQ Qz6 (.ret)))
abbrev o4:List RR:=[.cell 4 (some 5),.tmp 5]
theorem k4:CT 4 28 r4 o4:=ck Tryz.func4 Tryz.ntmps4 (by decide +kernel)
abbrev Qz7:IL:=[jg 1 1 0,jf 2]
abbrev Qz8:IL:=[je 3 3 1,ju 4 12 3,jk 5 1 4,js 6 5 0,ja 2 6]
abbrev r8:RC:=jQ Qz7 (jQ Qz8 (.ret))
abbrev o8:List RR:=[.tmp 2]
theorem k8:CT 8 7 r8 o8:=ck Tryz.func8 Tryz.ntmps8 (by decide +kernel)
def Tu:IL:=[jg 1 1 0,yh 2]
def Tv:IL:=[⟨some 13,.val (.build [.str [],.nils] []),none⟩,⟨some 3,.allocN 3 [.str [],.nils],none⟩,jh 2 3 13]
def Tw:IL:=[jd 4 1]
def Tx:IL:=[ja 14 4,Ut 15 14 3]
def Tz:IL:=[je 18 3 1,ja 19 4,jx 20 16 18 19,ja 5 20]
def TA:IL:=[ja 21 5,jk 22 1 21,ys 23 22 64,yr 24 17 3 23 (-1) 3]
def TB:IL:=[ja 25 5,ju 26 18 25,jy 27 26,yr 28 17 3 27 (-1) 11]
def TC:IL:=[ja 16 4,jn 17 16 1,ja 4 17]
def Nm:RC:=.seq (jQ Tx (jX 15 0)) (.seq (.block 1 (jQ Tz (jQ TA (.reg TB)))) (.reg TC))
def TD:IL:=[je 29 3 1,⟨some 30,.call (.f 16) [(.t 29),(.c (.int .i64 1))],none⟩,ja 6 30]
def TE:IL:=[je 31 3 1,⟨some 32,.call (.f 16) [(.t 31),(.c (.int .i64 2))],none⟩,ja 7 32]
def CW:IL:=[je 33 3 1,⟨some 34,.call (.f 16) [(.t 33),(.c (.int .i64 3))],none⟩,ja 8 34]
def CX:IL:=[ja 35 6,ja 36 7,jx 37 19 35 36,ja 38 37,jv 39 6 38,jv 40 8 38,zj 41 19 39 40 38,jo 42 38 41,ja 43 42,jv 44 7 43,jv 45 8 43,zj 46 19 44 45 43,jo 47 43 46,yr 48 17 3 47 (-1) 9]
def Da:IL:=[je 49 3 1,ju 50 20 49,ja 9 50]
def Db:IL:=[jd 10 0]
def CY:IL:=[ja 51 10,jb 52 0 1,jc 53 52,jk 54 1 53,jr 55 51 54]
def CZ:IL:=[jb 58 1 3,jw 59 0 3 58,yf 60 0 1 3 1,jb 61 0 1,jw 62 0 1 61,ja 63 10,jm 64 5 62 63,yu 65 5 64,ja 66 9,yk 67 21 60 65 66,yj 68 3 32 111 59 67,jb 69 1 3,yz 0 3 1 69 68]
def C0:IL:=[ja 56 10,jn 57 56 1,ja 10 57]
def H4:RC:=.seq (jQ CY (jX 55 2)) (.seq (.block 3 (.draw CZ)) (.reg C0))
def Dc:IL:=[jd 11 0]
def C1:IL:=[ja 70 11,jb 71 1 1,jc 72 71,jk 73 1 72,jr 74 70 73]
def C2:IL:=[jb 77 1 3,jw 78 0 3 77,jb 79 1 1,jw 80 0 1 79,ja 81 11,jm 82 5 80 81,yu 83 5 82,ju 84 22 83,yj 85 3 32 111 78 84,jb 86 1 3,yz 0 3 1 86 85]
def C3:IL:=[ja 75 11,jn 76 75 1,ja 11 76]
def H5:RC:=.seq (jQ C1 (jX 74 4)) (.seq (.block 5 (.draw C2)) (.reg C3))
def Dd:IL:=[jd 12 0]
def C4:IL:=[ja 87 12,jb 88 2 1,jc 89 88,jk 90 1 89,jr 91 87 90]
def C5:IL:=[jb 94 1 3,jw 95 0 3 94,yf 96 0 1 3 1,jb 97 2 1,jw 98 0 1 97,ja 99 12,jm 100 3 98 99,yu 101 3 100,jx 102 23 96 101,yj 103 3 32 111 95 102,jb 104 1 3,yz 0 3 1 104 103]
def C6:IL:=[ja 92 12,jn 93 92 1,ja 12 93]
def H6:RC:=.seq (jQ C4 (jX 91 6)) (.seq (.block 7 (.draw C5)) (.reg C6))
def De:IL:=[jb 105 1 3,jc 106 105,ja 2 106]
def WV:RC:=jQ Tu (jQ Tv (.gho (.vecc 3 1 1100 3) (.seq (jQ Tw (.block 0 (.loop Nm))) (jQ TD (jQ TE (jQ CW (jQ CX (jQ Da (.seq (jQ Db (.block 2 (.loop H4))) (.seq (jQ Dc (.block 4 (.loop H5))) (.seq (jQ Dd (.block 6 (.loop H6))) (jQ De (.ret)))))))))))))
def o12:List RR:=[.tmp 2]
theorem k12:CT 12 107 WV o12:=ck Tryz.func12 Tryz.ntmps12 (by decide +kernel)
abbrev Qsw:IL:=[jg 2 2 0,yh 4]
abbrev Qsx:IL:=[yh 5]
abbrev Qsy:IL:=[jd 6 0]
abbrev Qsz:IL:=[ja 9 1,js 10 9 1,ja 11 10,jj 12 6 11,jl 13 0 2 11,jq 14 13 11,ye 15 1 14 11,⟨some 16,.val (.bin .num .lss (.t 12) (.t 15)),(some (11,true))⟩,ji 17 11 16]
abbrev QsA:IL:=[ja 20 5,jb 21 0 2,jc 22 21,ja 23 6,jm 24 5 22 23,jb 25 0 24,jc 26 25,HD 27 1 1 0 1 26,yj 28 1 16 9 20 27,ja 5 28]
abbrev QsB:IL:=[ja 18 6,jn 19 18 1,ja 6 19]
abbrev TF:RC:=.seq (jQ Qsz (jX 17 0)) (.seq (.block 1 (.reg QsA)) (.reg QsB))
abbrev QsC:IL:=[jd 7 0]
abbrev QsD:IL:=[ja 29 1,js 30 29 2,ja 31 30,jj 32 7 31,jl 33 1 2 31,jq 34 33 31,ye 35 1 34 31,⟨some 36,.val (.bin .num .lss (.t 32) (.t 35)),(some (31,true))⟩,ji 37 31 36]
abbrev QsE:IL:=[ja 40 5,jb 41 1 2,jc 42 41,ja 43 7,jm 44 5 42 43,jb 45 0 44,jc 46 45,HD 47 1 1 0 1 46,yj 48 1 16 9 40 47,ja 5 48]
abbrev QsF:IL:=[ja 38 7,jn 39 38 1,ja 7 39]
abbrev TG:RC:=.seq (jQ QsD (jX 37 2)) (.seq (.block 3 (.reg QsE)) (.reg QsF))
abbrev Qmj:IL:=[jd 8 0]
abbrev Qmk:IL:=[ja 49 1,js 50 49 3,ja 51 50,jj 52 8 51,jl 53 2 2 51,jq 54 53 51,ye 55 1 54 51,⟨some 56,.val (.bin .num .lss (.t 52) (.t 55)),(some (51,true))⟩,ji 57 51 56]
abbrev Qml:IL:=[ja 60 5,jb 61 2 2,jc 62 61,ja 63 8,jm 64 3 62 63,jb 65 0 64,jc 66 65,HD 67 1 1 0 1 66,yj 68 1 16 9 60 67,ja 5 68]
abbrev Qmm:IL:=[ja 58 8,jn 59 58 1,ja 8 59]
abbrev TH:RC:=.seq (jQ Qmk (jX 57 4)) (.seq (.block 5 (.reg Qml)) (.reg Qmm))
abbrev Qmn:IL:=[ja 69 5,ja 4 69]
abbrev r16:RC:=jQ Qsw (jQ Qsx (.gho (.vec 5 5 1) (.seq (jQ Qsy (.block 0 (.loop TF))) (.seq (jQ QsC (.block 2 (.loop TG))) (.seq (jQ Qmj (.block 4 (.loop TH))) (jQ Qmn (.ret)))))))
abbrev o16:List RR:=[.tmp 4]
theorem k16:CT 16 70 r16 o16:=ck Tryz.func16 Tryz.ntmps16 (by decide +kernel)
abbrev QsG:IL:=[ja 8 1]
abbrev QsH:IL:=[ja 9 0,ja 10 0,yl 11 10,jb 12 1 11,HC 13 12,ja 14 0,yl 15 14,jb 16 0 15,HC 17 16,ja 18 2,ja 19 3,⟨some 20,.val (.build [.str [],.int .i64 0,.int .i64 0] [(0,1,(.t 17)),(1,1,(.t 18)),(2,1,(.t 19))]),none⟩,⟨some 21,.bsl 3 1 [.str [],.int .i64 0,.int .i64 0] [(0,3,(.t 20))],none⟩,yj 22 3 32 111 13 21,yl 23 9,jb 24 1 23,jh 1 24 22]
abbrev F5:RC:=jQ QsG (.cond (.t 8) (.draw QsH) (.skip))
abbrev o17:List RR:=[]
theorem TI:CT 17 25 F5 o17:=ck Tryz.func17 Tryz.ntmps17 (by decide +kernel)
abbrev QsI:IL:=[jf 2]
abbrev QsJ:IL:=[jd 3 1]
abbrev QsK:IL:=[ja 4 3,ja 5 0,jk 6 1 5,jr 7 4 6]
abbrev QsL:IL:=[ja 10 0,ja 11 3,jm 12 1 10 11,zv 13 12,ja 14 0,ja 15 3,zh 16 15 1,jm 17 1 14 16,zv 18 17,⟨some 19,.val (.bin .str .leq (.t 13) (.t 18)),none⟩]
abbrev QsM:IL:=[jf 2]
abbrev QsN:IL:=[ja 8 3,jn 9 8 1,ja 3 9]
abbrev QsO:RC:=.seq (jQ QsK (jX 7 0)) (.seq (.block 1 (jD QsL (.cond (.t 19) (jQ QsM (.ret)) (.skip)))) (.reg QsN))
abbrev QsP:IL:=[ya 2]
abbrev r18:RC:=jQ QsI (.seq (jQ QsJ (.block 0 (.loop QsO))) (jQ QsP (.ret)))
abbrev o18:List RR:=[.tmp 2]
theorem k18:CT 18 20 r18 o18:=ck Tryz.func18 Tryz.ntmps18 (by decide +kernel)
abbrev QsQ:IL:=[jf 4]
abbrev QsR:IL:=[jd 5 0]
abbrev QsS:IL:=[ja 6 5,ja 7 0,jk 8 1 7,jr 9 6 8]
abbrev QsT:IL:=[ja 12 1,ja 13 0,ja 14 5,jm 15 1 13 14,jc 16 15,jx 17 35 12 16]
abbrev QsU:IL:=[ya 4]
abbrev QsV:IL:=[ja 10 5,jn 11 10 1,ja 5 11]
abbrev QsW:RC:=.seq (jQ QsS (jX 9 0)) (.seq (.block 1 (jQ QsT (.cond (.t 17) (jQ QsU (.ret)) (.skip)))) (.reg QsV))
abbrev QsX:IL:=[jf 4]
abbrev r19:RC:=jQ QsQ (.seq (jQ QsR (.block 0 (.loop QsW))) (jQ QsX (.ret)))
abbrev o19:List RR:=[.tmp 4]
theorem k19:CT 19 18 r19 o19:=ck Tryz.func19 Tryz.ntmps19 (by decide +kernel)
abbrev QsY:IL:=[jg 1 1 0,yh 2]
abbrev QsZ:IL:=[jb 7 0 1,jc 8 7,jk 9 1 8,⟨some 10,.mk 10 4 1 1 [.bool false] (.t 9) (.t 9),none⟩,ja 3 10]
abbrev Qs0:IL:=[ya 4]
abbrev Qs1:IL:=[jd 5 0]
abbrev Qs2:IL:=[ja 11 5,jb 12 0 1,jc 13 12,jk 14 1 13,jr 15 11 14,ja 16 15,jj 17 4 16,ji 18 16 17]
abbrev Qs3:IL:=[jf 4]
abbrev Qs4:IL:=[jd 6 0]
abbrev Qs5:IL:=[ja 21 6,jb 22 0 1,jc 23 22,jk 24 1 23,jr 25 21 24]
abbrev Qmo:IL:=[ja 28 3,ja 29 6,jm 30 1 28 29,zv 31 30,jy 32 31,ja 33 32,⟨some 34,.val (.loadv 0 1 (some 3) (.t 1)),(some (33,true))⟩,jl 35 0 1 33,zs 36 0 1 35 33,jj 37 6 33,zi 38 5 36 37 33,⟨some 39,.val (.loadr (some 5) (.t 38)),(some (33,true))⟩,jj 40 3 33,⟨some 41,.call (.f 36) [(.t 34),(.t 39),(.t 40)],(some (33,true))⟩,yy 42 41 33,ji 43 33 42]
abbrev Qmp:IL:=[ja 44 3,ja 45 6,jm 46 1 44 45,⟨none,.store 1 (.t 46) (.c (.bool true)),none⟩]
abbrev Qmq:IL:=[ya 4]
abbrev Qs6:IL:=[ja 26 6,jn 27 26 1,ja 6 27]
abbrev TJ:RC:=.seq (jQ Qs5 (jX 25 2)) (.seq (.block 3 (jD Qmo (.cond (.t 43) (jQ Qmp (.reg Qmq)) (.skip)))) (.reg Qs6))
abbrev Qs7:IL:=[ja 19 5,jn 20 19 1,ja 5 20]
abbrev Qs8:RC:=.seq (jQ Qs2 (jX 18 0)) (.seq (.block 1 (jQ Qs3 (jQ Qs4 (.block 2 (.loop TJ))))) (.reg Qs7))
abbrev Qmr:IL:=[ja 47 3,ja 2 47]
abbrev r20:RC:=jQ QsY (jQ QsZ (jQ Qs0 (.seq (jQ Qs1 (.block 0 (.loop Qs8))) (jQ Qmr (.ret)))))
abbrev ZG:List RR:=[.tmp 2]
theorem k20:CT 20 48 r20 ZG:=ck Tryz.func20 Tryz.ntmps20 (by decide +kernel)
def TK:IL:=[jg 3 3 0,jg 4 4 1,yh 6]
def TL:IL:=[jb 13 0 4,jc 14 13,⟨some 15,.val (.build [.str [],.nils] [(0,1,(.t 14))]),none⟩,⟨some 7,.allocN 7 [.str [],.nils],none⟩,jh 2 7 15]
def TM:IL:=[jb 16 0 4,jc 17 16,ju 18 37 17,jy 19 18,yr 20 17 7 19 (-1) 8]
def TN:IL:=[jb 21 1 4,jc 22 21,jk 23 1 22,ys 24 23 64,ja 25 24,jp 26 2 4 25,jz 27 26 25,GL 28 1 27 25,zo 29 28 16 25,jo 30 25 29,ja 31 30,jp 32 3 4 31,jz 33 32 31,GL 34 1 33 31,zo 35 34 16 31,jo 36 31 35,yr 37 17 7 36 (-1) 3]
def Nn:IL:=[jd 8 0]
def TO:IL:=[ja 38 8,jb 39 1 4,jc 40 39,jk 41 1 40,jr 42 38 41]
def TP:IL:=[jb 45 1 4,jc 46 45,ja 47 8,jm 48 16 46 47,je 49 16 48,GM 9 9,jh 16 9 49]
def TQ:IL:=[jf 10]
def TR:IL:=[jd 11 0]
def C7:IL:=[ja 50 11,ja 51 8,jr 52 50 51]
def C8:IL:=[jb 55 1 4,jw 56 0 4 55,ja 57 11,jm 58 16 56 57,jb 59 1 58,zv 60 59,jb 61 1 9,jw 62 0 9 61,yp 63 60 62]
def C9:IL:=[ya 10]
def Df:IL:=[ja 53 11,jn 54 53 1,ja 11 54]
def No:RC:=.seq (jQ C7 (jX 52 2)) (.seq (.block 3 (jD C8 (.cond (.t 63) (.reg C9) (.skip)))) (.reg Df))
def Dg:IL:=[jb 64 0 9,jc 65 64,yg 66 65 1,ja 67 66,jp 68 0 9 67,jz 69 68 67,zo 70 69 65535 67,jo 71 67 70,jb 72 0 9,jc 73 72,yx 74 17 7 71 73 6]
def UI:IL:=[ja 75 8,ys 76 75 0,ja 77 76,jl 78 0 9 77,zs 79 0 9 78 77,jl 80 1 4 77,zs 81 0 4 80 77,jj 82 8 77,FM 83 82 1 77,zi 84 16 81 83 77,jl 85 0 84 77,Yw 86 85 77,HF 87 79 86 77,ji 88 77 87,jb 89 0 9,jw 90 0 9 89,yx 91 17 7 88 90 11]
def Dh:IL:=[jb 92 1 9,jw 93 0 9 92,ju 94 38 93,jy 95 94,jb 96 0 9,jw 97 0 9 96,yx 98 17 7 95 97 8]
def Di:IL:=[ja 99 10,jb 100 0 9,jc 101 100,yx 102 17 7 99 101 9]
def Dj:IL:=[jb 103 2 4,jw 104 0 4 103,jb 105 0 9,jw 106 0 9 105,jx 107 39 104 106,ja 108 107,jp 109 3 4 108,yi 110 0 4 109 108,jp 111 1 9 108,yi 112 0 9 111 108,zj 113 35 110 112 108,jo 114 108 113,jb 115 0 9,jw 116 0 9 115,yx 117 17 7 114 116 21]
def Dk:IL:=[yf 118 0 9 16 9,ju 119 40 118,jy 120 119,jb 121 0 9,jw 122 0 9 121,yx 123 17 7 120 122 1]
def Dl:IL:=[yf 124 0 3 3 3,yf 125 0 9 16 9,jx 126 41 124 125,jy 127 126,jb 128 0 9,jw 129 0 9 128,yx 130 17 7 127 129 12]
def Dm:IL:=[yf 131 0 4 5 4,ja 132 8,jx 133 42 131 132,jy 134 133,jb 135 0 9,jw 136 0 9 135,yx 137 17 7 134 136 15]
def Dn:IL:=[yf 138 0 3 3 3,yf 139 0 9 16 9,jx 140 43 138 139,jy 141 140,jb 142 0 9,jw 143 0 9 142,yx 144 17 7 141 143 1]
def Dp:IL:=[jb 145 15 9,jc 146 145,jb 147 0 9,jc 148 147,⟨some 149,.callF (.f 44) [(.t 7),(.t 146),(.c (.int .i64 2)),(.t 148)],none⟩]
def TS:IL:=[ja 43 8,jn 44 43 1,ja 8 44]
def Np:RC:=.gho (.drop 9) (.seq (jQ TO (jX 42 0)) (.seq (.block 1 (jQ TP (jQ TQ (.seq (jQ TR (.block 2 (.loop No))) (jQ Dg (jD UI (jD Dh (jQ Di (jD Dj (jD Dk (jD Dl (jD Dm (jD Dn (.reg Dp)))))))))))))) (.reg TS)))
def Dq:IL:=[jb 150 2 4,jc 151 150,yr 152 45 7 151 1 65535]
def Dr:IL:=[jd 12 0]
def Ma:IL:=[ja 153 12,jb 154 3 4,jc 155 154,jk 156 1 155,jr 157 153 156]
def Mb:IL:=[jb 160 3 4,jc 161 160,ja 162 12,jm 163 1 161 162,jc 164 163,ju 165 46 164,jy 166 165,yr 167 17 7 166 (-1) 7]
def Mc:IL:=[ja 158 12,jn 159 158 1,ja 12 159]
def H7:RC:=.seq (jQ Ma (jX 157 4)) (.seq (.block 5 (.reg Mb)) (.reg Mc))
def Ds:IL:=[jb 168 4 4,jc 169 168,yr 170 44 7 169 1 (-1)]
def Dt:IL:=[je 171 3 3,je 172 5 4,ja 173 2,yk 174 36 171 172 173,yr 175 17 7 174 (-1) 19]
def Du:IL:=[jb 176 1 7,jc 177 176,ja 6 177]
def r21:RC:=jQ TK (jQ TL (.gho (.vecc 7 1 1100 3) (jQ TM (jQ TN (.seq (jQ Nn (.block 0 (.loop Np))) (jQ Dq (.seq (jQ Dr (.block 4 (.loop H7))) (jQ Ds (jQ Dt (jQ Du (.ret)))))))))))
def Md:List RR:=[.tmp 6]
theorem k21:CT 21 178 r21 Md:=ck Tryz.func21 Tryz.ntmps21 (by decide +kernel)
def TT:IL:=[jg 1 1 0,yh 2]
def TU:IL:=[jb 8 0 1,jc 9 8,⟨some 10,.val (.build [.str [],.nils] [(0,1,(.t 9))]),none⟩,⟨some 3,.allocN 3 [.str [],.nils],none⟩,jh 2 3 10]
def TV:IL:=[jb 11 0 1,jc 12 11,ju 13 37 12,jy 14 13,yr 15 17 3 14 (-1) 8]
def TW:IL:=[jb 16 2 1,jc 17 16,jk 18 1 17,yg 19 18 1,ja 20 19,jp 21 2 1 20,jz 22 21 20,GL 23 1 22 20,zo 24 23 64 20,jo 25 20 24,ja 26 25,jp 27 3 1 26,jz 28 27 26,GL 29 1 28 26,zo 30 29 16 26,jo 31 26 30,yr 32 17 3 31 (-1) 3]
def H8:IL:=[jb 33 2 1,jc 34 33,jk 35 1 34,ys 36 35 0,ja 37 36,jl 38 2 1 37,jq 39 38 37,⟨some 40,.val (.iaddr 3 none (.t 39) (.c (.int .i64 0))),(some (37,true))⟩,jl 41 1 40 37,jq 42 41 37,zp 43 42 0 37,ji 44 37 43,yr 45 17 3 44 (-1) 14]
def H9:IL:=[jd 4 0]
def TX:IL:=[ja 46 4,jb 47 2 1,jc 48 47,jk 49 1 48,jr 50 46 49]
def TY:IL:=[jb 53 2 1,jc 54 53,ja 55 4,jm 56 3 54 55,je 57 3 56,zz 5 5,jh 3 5 57]
def TZ:IL:=[jf 6]
def Me:IL:=[jd 7 0]
def Mf:IL:=[ja 58 7,ja 59 4,jr 60 58 59]
def Mg:IL:=[jb 63 2 1,jw 64 0 1 63,ja 65 7,jm 66 3 64 65,jb 67 0 66,zv 68 67,jb 69 0 5,jw 70 0 5 69,yp 71 68 70]
def Mh:IL:=[ya 6]
def Dv:IL:=[ja 61 7,jn 62 61 1,ja 7 62]
def Nq:RC:=.seq (jQ Mf (jX 60 2)) (.seq (.block 3 (jD Mg (.cond (.t 71) (.reg Mh) (.skip)))) (.reg Dv))
def Dw:IL:=[jb 72 1 5,jc 73 72,yg 74 73 0,ja 75 74,jp 76 1 5 75,jz 77 76 75,zo 78 77 2147483647 75,jo 79 75 78,jb 80 1 5,jc 81 80,yx 82 17 3 79 81 6]
def UJ:IL:=[ja 83 4,ys 84 83 0,ja 85 84,jl 86 1 5 85,zs 87 0 5 86 85,jl 88 2 1 85,zs 89 0 1 88 85,jj 90 4 85,FM 91 90 1 85,zi 92 3 89 91 85,jl 93 1 92 85,Yw 94 93 85,HF 95 87 94 85,ji 96 85 95,jb 97 1 5,jw 98 0 5 97,yx 99 17 3 96 98 11]
def Dx:IL:=[jb 100 0 5,jw 101 0 5 100,ju 102 38 101,jy 103 102,jb 104 1 5,jw 105 0 5 104,yx 106 17 3 103 105 8]
def Dy:IL:=[ja 107 6,jb 108 1 5,jc 109 108,yx 110 17 3 107 109 9]
def Dz:IL:=[jb 111 3 1,jw 112 0 1 111,jb 113 1 5,jw 114 0 5 113,jx 115 39 112 114,jb 116 1 5,jw 117 0 5 116,yx 118 17 3 115 117 21]
def DA:IL:=[jb 119 2 5,jc 120 119,jb 121 1 5,jc 122 121,⟨some 123,.callF (.f 44) [(.t 3),(.t 120),(.c (.int .i64 4)),(.t 122)],none⟩]
def T0:IL:=[ja 51 4,jn 52 51 1,ja 4 52]
def Ga:RC:=.gho (.drop 5) (.seq (jQ TX (jX 50 0)) (.seq (.block 1 (jQ TY (jQ TZ (.seq (jQ Me (.block 2 (.loop Nq))) (jQ Dw (jD UJ (jD Dx (jQ Dy (jD Dz (.reg DA)))))))))) (.reg T0)))
def UK:IL:=[jb 124 3 1,jc 125 124,yr 126 45 3 125 0 2147483647]
def UL:IL:=[jb 127 4 1,jc 128 127,yr 129 44 3 128 3 (-1)]
def UM:IL:=[jb 130 1 3,jc 131 130,ja 2 131]
def r22:RC:=jQ TT (jQ TU (.gho (.vecc 3 1 1100 3) (jQ TV (jQ TW (jQ H8 (.seq (jQ H9 (.block 0 (.loop Ga))) (jQ UK (jQ UL (jQ UM (.ret))))))))))
def o22:List RR:=[.tmp 2]
theorem k22:CT 22 132 r22 o22:=ck Tryz.func22 Tryz.ntmps22 (by decide +kernel)
def T1:IL:=[jg 2 2 0,jg 3 3 1,yh 4]
def T2:IL:=[jb 8 0 3,jc 9 8,⟨some 10,.val (.build [.str [],.nils] [(0,1,(.t 9))]),none⟩,⟨some 5,.allocN 5 [.str [],.nils],none⟩,jh 2 5 10]
def T3:IL:=[jb 11 0 3,jc 12 11,ju 13 37 12,jy 14 13,yr 15 17 5 14 (-1) 8]
def T4:IL:=[jb 16 1 3,jc 17 16,jk 18 1 17,ys 19 18 64,yr 20 17 5 19 (-1) 3]
def T5:IL:=[jd 6 0]
def T6:IL:=[ja 21 6,jb 22 1 3,jc 23 22,jk 24 1 23,jr 25 21 24]
def T7:IL:=[jb 28 1 3,jc 29 28,ja 30 6,jm 31 5 29 30,je 32 5 31,⟨some 7,.allocN 7 [.str [],.str [],.str [],.int .i64 0,.nils],none⟩,jh 5 7 32]
def Nr:IL:=[jb 33 0 7,jc 34 33,ju 35 38 34,jy 36 35,ja 37 6,yx 38 17 5 36 37 8]
def Gb:IL:=[ja 39 6,ys 40 39 0,ja 41 40,jl 42 0 7 41,zs 43 0 7 42 41,jl 44 1 3 41,zs 45 0 3 44 41,jj 46 6 41,FM 47 46 1 41,zi 48 5 45 47 41,jl 49 0 48 41,Yw 50 49 41,⟨some 51,.val (.bin .str .leq (.t 43) (.t 50)),(some (41,true))⟩,ji 52 41 51,ja 53 6,yx 54 17 5 52 53 11]
def DB:IL:=[je 55 3 2,jb 56 1 7,jc 57 56,jx 58 47 55 57,yg 59 58 0,ja 60 59,yn 61 3 2 60,jp 62 2 7 60,jz 63 62 60,zj 64 47 61 63 60,⟨some 65,.val (.bin .num .lss (.t 64) (.c (.int .i64 0))),(some (60,false))⟩,jo 66 60 65,ja 67 6,yx 68 17 5 66 67 12]
def DC:IL:=[jb 69 3 7,jc 70 69,yg 71 70 1,ja 72 71,jp 73 3 7 72,jz 74 73 72,zo 75 74 4 72,jo 76 72 75,ja 77 6,yx 78 17 5 76 77 1]
def DD:IL:=[jb 79 4 7,jc 80 79,ja 81 6,⟨some 82,.callF (.f 44) [(.t 5),(.t 80),(.c (.int .i64 6)),(.t 81)],none⟩]
def T8:IL:=[ja 26 6,jn 27 26 1,ja 6 27]
def T9:RC:=.gho (.drop 7) (.seq (jQ T6 (jX 25 0)) (.seq (.block 1 (jQ T7 (jQ Nr (jD Gb (jQ DB (jQ DC (.reg DD))))))) (.reg T8)))
def Mi:IL:=[jb 83 2 3,jc 84 83,yr 85 44 5 84 5 (-1)]
def Mj:IL:=[jb 86 1 5,jc 87 86,ja 4 87]
def r23:RC:=jQ T1 (jQ T2 (.gho (.vecc 5 1 1100 3) (jQ T3 (jQ T4 (.seq (jQ T5 (.block 0 (.loop T9))) (jQ Mi (jQ Mj (.ret))))))))
def o23:List RR:=[.tmp 4]
theorem k23:CT 23 88 r23 o23:=ck Tryz.func23 Tryz.ntmps23 (by decide +kernel)
abbrev Qs9:IL:=[jf 4]
abbrev Qta:IL:=[jd 5 0]
abbrev Qtb:IL:=[ja 6 5,ja 7 0,jk 8 1 7,jr 9 6 8]
abbrev Qtc:IL:=[ja 12 0,ja 13 5,jm 14 1 12 13,jc 15 14,ja 16 1,yp 17 15 16]
abbrev Qtd:IL:=[ya 4]
abbrev Qte:IL:=[ja 10 5,jn 11 10 1,ja 5 11]
abbrev Qtf:RC:=.seq (jQ Qtb (jX 9 0)) (.seq (.block 1 (jQ Qtc (.cond (.t 17) (jQ Qtd (.ret)) (.skip)))) (.reg Qte))
abbrev Qtg:IL:=[jf 4]
abbrev r35:RC:=jQ Qs9 (.seq (jQ Qta (.block 0 (.loop Qtf))) (jQ Qtg (.ret)))
abbrev o35:List RR:=[.tmp 4]
theorem k35:CT 35 18 r35 o35:=ck Tryz.func35 Tryz.ntmps35 (by decide +kernel)
abbrev Qth:IL:=[jg 3 3 0,jg 4 4 1,jf 6]
abbrev Qti:IL:=[jd 7 0]
abbrev Qtj:IL:=[ja 10 7,jb 11 1 4,jc 12 11,jk 13 1 12,jr 14 10 13]
abbrev Qtk:IL:=[jb 17 1 4,jc 18 17,ja 19 7,jm 20 16 18 19,je 21 16 20,GM 8 8,jh 16 8 21]
abbrev Qtl:IL:=[jb 22 2 8,jc 23 22,yc 24 23 1,ja 25 24,jp 26 4 8 25,jp 27 0 26 25,jz 28 27 25,ze 29 28 10 25,jo 30 25 29]
abbrev Qtm:IL:=[je 31 3 3,jb 32 4 8,jb 33 1 32,jc 34 33,jx 35 47 31 34,ja 9 35]
abbrev Qtn:IL:=[ja 36 9,yd 37 36 0,ja 38 37,jj 39 2 38,jj 40 9 38,zi 41 1 39 40 38,jq 42 41 38,yy 43 42 38,ji 44 38 43]
abbrev Qto:IL:=[ya 6]
abbrev Qtp:IL:=[ja 15 7,jn 16 15 1,ja 7 16]
abbrev Qtq:RC:=.gho (.drop 8) (.seq (jQ Qtj (jX 14 0)) (.seq (.block 1 (jQ Qtk (.seq (jQ Qtl (.cond (.t 30) (.exit 1) (.skip))) (jQ Qtm (jQ Qtn (.cond (.t 44) (jQ Qto (.ret)) (.skip))))))) (.reg Qtp)))
abbrev Qtr:IL:=[jf 6]
abbrev r36:RC:=jQ Qth (.seq (jQ Qti (.block 0 (.loop Qtq))) (jQ Qtr (.ret)))
abbrev o36:List RR:=[.tmp 6]
theorem k36:CT 36 45 r36 o36:=ck Tryz.func36 Tryz.ntmps36 (by decide +kernel)
abbrev Qts:IL:=[jf 2]
abbrev Qtt:IL:=[ja 6 0,ju 7 61 6,jy 8 7]
abbrev Qtu:IL:=[jf 2]
abbrev Qtv:IL:=[jd 3 0]
abbrev Qtw:IL:=[ja 9 3,yg 10 9 120,ja 11 10,jj 12 0 11,⟨some 13,.val (.bin .str .neq (.t 12) (.c (.str []))),(some (11,true))⟩,ji 14 11 13]
abbrev Qtx:IL:=[ja 18 0,ju 19 62 18,ja 17 19,jt 20 17 0,jt 21 17 1,ja 4 20,ja 5 21]
abbrev Qty:IL:=[ja 22 5,ju 23 63 22]
abbrev Qtz:IL:=[jf 2]
abbrev QtA:IL:=[ja 24 4,ja 0 24]
abbrev QtB:IL:=[ja 15 3,jn 16 15 1,ja 3 16]
abbrev QtC:RC:=.seq (jQ Qtw (jX 14 0)) (.seq (.block 1 (jQ Qtx (.seq (jQ Qty (.cond (.t 23) (jQ Qtz (.ret)) (.skip))) (.reg QtA)))) (.reg QtB))
abbrev Qms:IL:=[ya 2]
abbrev r37:RC:=jQ Qts (.seq (jQ Qtt (.cond (.t 8) (jQ Qtu (.ret)) (.skip))) (.seq (jQ Qtv (.block 0 (.loop QtC))) (jQ Qms (.ret))))
abbrev o37:List RR:=[.tmp 2]
theorem k37:CT 37 25 r37 o37:=ck Tryz.func37 Tryz.ntmps37 (by decide +kernel)
abbrev QtD:IL:=[jf 2]
abbrev QtE:IL:=[ja 3 0,ju 4 64 3,ja 5 4,jj 6 0 5,zk 7 63 6 5,yy 8 7 5,ji 9 5 8,ja 2 9]
abbrev r38:RC:=jQ QtD (jQ QtE (.ret))
abbrev o38:List RR:=[.tmp 2]
theorem k38:CT 38 10 r38 o38:=ck Tryz.func38 Tryz.ntmps38 (by decide +kernel)
abbrev QtF:IL:=[jf 4]
abbrev QtG:IL:=[jd 5 0]
abbrev QtH:IL:=[ja 6 5,ja 7 0,jk 8 1 7,jr 9 6 8]
abbrev QtI:IL:=[ja 12 0,ja 13 5,jm 14 2 12 13,jb 15 0 14,jc 16 15,ja 17 1,Vq 18 16 17,ja 19 18,jj 20 1 19,jj 21 0 19,jj 22 5 19,zi 23 2 21 22 19,jl 24 1 23 19,jq 25 24 19,HF 26 20 25 19,ji 27 19 26]
abbrev QtJ:IL:=[ya 4]
abbrev QtK:IL:=[ja 10 5,jn 11 10 1,ja 5 11]
abbrev QtL:RC:=.seq (jQ QtH (jX 9 0)) (.seq (.block 1 (jQ QtI (.cond (.t 27) (jQ QtJ (.ret)) (.skip)))) (.reg QtK))
abbrev QtM:IL:=[jf 4]
abbrev r39:RC:=jQ QtF (.seq (jQ QtG (.block 0 (.loop QtL))) (jQ QtM (.ret)))
abbrev o39:List RR:=[.tmp 4]
theorem k39:CT 39 28 r39 o39:=ck Tryz.func39 Tryz.ntmps39 (by decide +kernel)
abbrev QtN:IL:=[jg 1 1 0,jf 2]
abbrev QtO:IL:=[jb 3 2 1,jc 4 3,yc 5 4 5]
abbrev QtP:IL:=[jb 6 2 1,jc 7 6,yd 8 7 1,ja 9 8,jl 10 2 1 9,jq 11 10 9,yq 12 11 4 9,ji 13 9 12,ja 14 13,jl 15 3 1 14,jq 16 15 14,ym 17 16 0 14,ji 18 14 17,ja 2 18]
abbrev QtQ:IL:=[jb 19 3 1,jc 20 19]
abbrev QtR:IL:=[js 22 20 1,ja 21 22]
abbrev QtS:IL:=[js 23 20 2,ja 21 23]
abbrev QtT:IL:=[js 24 20 3,ja 21 24]
abbrev QtU:IL:=[js 25 20 4,ja 21 25]
abbrev QtV:IL:=[js 26 20 5,ja 21 26]
abbrev QtW:IL:=[js 27 20 7,ja 21 27]
abbrev Qmt:IL:=[ya 2]
abbrev Qmu:IL:=[jf 2]
abbrev r40:RC:=jQ QtN (.seq (jQ QtO (.cond (.t 5) (jQ QtP (.ret)) (.skip))) (.seq (jQ QtQ (.block 0 (.seq (jQ QtR (.cond (.t 21) (.skip) (jQ QtS (.cond (.t 21) (.skip) (jQ QtT (.cond (.t 21) (.skip) (jQ QtU (.cond (.t 21) (.skip) (jQ QtV (.cond (.t 21) (.skip) (.reg QtW))))))))))) (.cond (.t 21) (jQ Qmt (.ret)) (.skip))))) (jQ Qmu (.ret))))
abbrev ZH:List RR:=[.tmp 2]
theorem k40:CT 40 28 r40 ZH:=ck Tryz.func40 Tryz.ntmps40 (by decide +kernel)
abbrev QtX:IL:=[jg 2 2 0,jg 3 3 1,jf 4]
abbrev QtY:IL:=[jb 5 4 3,jb 6 0 5,jc 7 6]
abbrev QtZ:IL:=[js 9 7 9,ja 8 9]
abbrev Qt0:IL:=[je 10 3 2,jb 11 4 3,jb 12 1 11,jc 13 12,jx 14 65 10 13,yd 15 14 0,ja 4 15]
abbrev Qt1:IL:=[js 17 7 10,ja 16 17]
abbrev Qt2:IL:=[je 18 3 2,jb 19 4 3,jb 20 1 19,jc 21 20,jx 22 47 18 21,yd 23 22 0,ja 24 23,jl 25 2 3 24,jq 26 25 24,zp 27 26 3 24,ji 28 24 27,ja 4 28]
abbrev Qt3:IL:=[jb 29 4 3,jb 30 0 29,jc 31 30,yd 32 31 1,ja 33 32,jl 34 4 3 33,jl 35 0 34 33,jq 36 35 33,yq 37 36 8 33,ji 38 33 37,ja 39 38,jl 40 4 3 39,jl 41 1 40 39,jq 42 41 39,⟨some 43,.val (.bin .str .eql (.t 42) (.c (.str []))),(some (39,true))⟩,ji 44 39 43,ja 4 44]
abbrev r41:RC:=jQ QtX (.seq (jQ QtY (.block 0 (jQ QtZ (.cond (.t 8) (jQ Qt0 (.ret)) (jQ Qt1 (.cond (.t 16) (jQ Qt2 (.ret)) (.skip))))))) (jQ Qt3 (.ret)))
abbrev o41:List RR:=[.tmp 4]
theorem k41:CT 41 45 r41 o41:=ck Tryz.func41 Tryz.ntmps41 (by decide +kernel)
abbrev Qt4:IL:=[jg 2 2 0,jf 4]
abbrev Qt5:IL:=[jb 8 1 2,jc 9 8,ja 10 1,jm 11 16 9 10,je 12 16 11,GM 5 5,jh 16 5 12]
abbrev Qt6:IL:=[jb 13 6 5,jc 14 13,Vr 15 14]
abbrev Qt7:IL:=[ya 4]
abbrev Qt8:IL:=[jb 16 2 5,jc 17 16,yc 18 17 2,ja 19 18,jp 20 6 5 19,jz 21 20 19,za 22 38 21 19,yt 23 22 19,jo 24 19 23]
abbrev Qt9:IL:=[jf 4]
abbrev Qua:IL:=[jf 6]
abbrev Qub:IL:=[jd 7 0]
abbrev Quc:IL:=[ja 25 7,jb 26 1 2,jc 27 26,jk 28 1 27,jr 29 25 28]
abbrev Qmv:IL:=[jb 32 1 2,jw 33 0 2 32,ja 34 7,jm 35 16 33 34,jb 36 1 35,zv 37 36,jb 38 6 5,jw 39 0 5 38,yp 40 37 39]
abbrev Qmw:IL:=[jf 4]
abbrev Qmx:IL:=[ja 41 7,ja 42 1,jr 43 41 42,ja 44 43,jl 45 1 2 44,zs 46 0 2 45 44,jj 47 7 44,zi 48 16 46 47 44,jl 49 6 48 44,Yw 50 49 44,jl 51 6 5 44,zs 52 0 5 51 44,HG 53 50 52 44,ji 54 44 53]
abbrev Qmy:IL:=[ya 6]
abbrev Qud:IL:=[ja 30 7,jn 31 30 1,ja 7 31]
abbrev Que:RC:=.seq (jQ Quc (jX 29 0)) (.seq (.block 1 (.seq (jD Qmv (.cond (.t 40) (jQ Qmw (.ret)) (.skip))) (jD Qmx (.cond (.t 54) (.reg Qmy) (.skip))))) (.reg Qud))
abbrev Qmz:IL:=[ja 55 6,jy 56 55,ja 57 56,jp 58 1 2 57,yi 59 0 2 58 57,jv 60 1 57,GN 61 60 1 57,zt 62 16 59 61 57,jp 63 6 62 57,Uw 64 63 57,jp 65 6 5 57,yi 66 0 5 65 57,⟨some 67,.val (.bin .str .eql (.t 64) (.t 66)),(some (57,false))⟩,jo 68 57 67,ja 4 68]
abbrev r42:RC:=jQ Qt4 (jQ Qt5 (.seq (jQ Qt6 (.cond (.t 15) (jQ Qt7 (.ret)) (.skip))) (.seq (jQ Qt8 (.cond (.t 24) (jQ Qt9 (.ret)) (.skip))) (jQ Qua (.seq (jQ Qub (.block 0 (.loop Que))) (jD Qmz (.ret)))))))
abbrev o42:List RR:=[.tmp 4]
theorem k42:CT 42 69 r42 o42:=ck Tryz.func42 Tryz.ntmps42 (by decide +kernel)
abbrev Quf:IL:=[jg 2 2 0,jg 3 3 1,jf 4]
abbrev Qug:IL:=[jb 8 8 3,je 9 7 8,zu 5 5,jh 7 5 9]
abbrev Quh:IL:=[jb 10 7 3,jc 11 10,jy 12 11]
abbrev Qui:IL:=[je 13 7 5,Uv 14,jx 15 66 13 14,ja 4 15]
abbrev Quj:IL:=[jb 16 2 3,jw 17 0 3 16,yc 18 17 2,ja 19 18,jp 20 6 3 19,yi 21 0 3 20 19,⟨some 22,.val (.bin .str .neq (.t 21) (.c (.str []))),(some (19,false))⟩,jo 23 19 22,ja 24 23,jp 25 4 3 24,jp 26 0 25 24,yi 27 0 3 26 24,zy 28 0 5 7 5 24,zj 29 67 27 28 24,yt 30 29 24,jo 31 24 30,ja 32 31,zy 33 0 5 7 5 32,zy 34 0 5 7 5 32,za 35 68 34 32,zj 36 66 33 35 32,yt 37 36 32,jo 38 32 37]
abbrev Quk:IL:=[jf 4]
abbrev Qul:IL:=[je 39 3 2,jb 40 4 3,jb 41 1 40,jc 42 41,jx 43 65 39 42,ja 6 43]
abbrev Qum:IL:=[jb 44 4 3,jb 45 0 44,jc 46 45,yc 47 46 9]
abbrev Qun:IL:=[ya 4]
abbrev Quo:IL:=[ja 48 6,yg 49 48 0]
abbrev QmA:IL:=[jf 4]
abbrev QmB:IL:=[jd 7 0]
abbrev QmC:IL:=[ja 50 7,jb 51 1 2,jc 52 51,ja 53 6,jm 54 5 52 53,jb 55 2 54,jc 56 55,jk 57 1 56,jr 58 50 57]
abbrev QmD:IL:=[jb 61 1 2,jw 62 0 2 61,ja 63 6,jm 64 5 62 63,jb 65 2 64,zv 66 65,ja 67 7,jm 68 3 66 67,jb 69 1 68,zv 70 69,⟨some 71,.val (.cvi .u64 (.t 70)),none⟩,jb 72 1 5,jw 73 0 5 72,zm 74 71 73]
abbrev QmE:IL:=[ya 4]
abbrev QmF:IL:=[ja 59 7,jn 60 59 1,ja 7 60]
abbrev Qup:RC:=.seq (jQ QmC (jX 58 0)) (.seq (.block 1 (jD QmD (.cond (.t 74) (jQ QmE (.ret)) (.skip)))) (.reg QmF))
abbrev QmG:IL:=[jf 4]
abbrev r43:RC:=jQ Quf (jQ Qug (.seq (jQ Quh (.cond (.t 12) (jQ Qui (.ret)) (.skip))) (.seq (jD Quj (.cond (.t 38) (jQ Quk (.ret)) (.skip))) (jQ Qul (.seq (jQ Qum (.cond (.t 47) (jQ Qun (.ret)) (.skip))) (.seq (jQ Quo (.cond (.t 49) (jQ QmA (.ret)) (.skip))) (.seq (jQ QmB (.block 0 (.loop Qup))) (jQ QmG (.ret)))))))))
abbrev o43:List RR:=[.tmp 4]
theorem k43:CT 43 75 r43 o43:=ck Tryz.func43 Tryz.ntmps43 (by decide +kernel)
abbrev Quq:IL:=[ja 9 1,ja 10 2,jx 11 69 9 10,ja 8 11]
abbrev Qur:IL:=[ja 12 0,ja 13 8,yc 14 13 0,ja 15 3,ja 16 8,⟨some 17,.callF (.f 17) [(.t 12),(.t 14),(.t 15),(.t 16)],none⟩]
abbrev r44:RC:=jQ Quq (.reg Qur)
abbrev o44:List RR:=[]
theorem k44:CT 44 18 r44 o44:=ck Tryz.func44 Tryz.ntmps44 (by decide +kernel)
def Aa:IL:=[jd 8 0]
def Ab:IL:=[ja 9 8,ja 10 1,jk 11 1 10,jr 12 9 11]
def Ns:IL:=[ja 15 0,ja 16 1,ja 17 8,jm 18 2 16 17,jb 19 0 18,zv 20 19,ja 21 2,jr 22 20 21,ja 23 22,jv 24 1 23,jv 25 8 23,zt 26 2 24 25 23,jp 27 1 26 23,Uw 28 27 23,jv 29 3 23,HE 30 28 29 23,jo 31 23 30,ja 32 31,jv 33 1 32,jv 34 8 32,zt 35 2 33 34 32,jp 36 0 35 32,Uw 37 36 32,jv 38 1 32,jv 39 8 32,zt 40 2 38 39 32,jp 41 1 40 32,Uw 42 41 32,HE 43 37 42 32,jo 44 32 43,yr 45 17 15 44 (-1) 6]
def Gc:IL:=[ja 46 0,ja 47 8,ys 48 47 0,ja 49 48,jj 50 1 49,jj 51 8 49,zi 52 2 50 51 49,jl 53 0 52 49,Yw 54 53 49,jj 55 1 49,jj 56 8 49,FM 57 56 1 49,zi 58 2 55 57 49,jl 59 1 58 49,Yw 60 59 49,HF 61 54 60 49,ji 62 49 61,yr 63 17 46 62 (-1) 11]
def Ac:IL:=[ja 13 8,jn 14 13 1,ja 8 14]
def Ad:RC:=.seq (jQ Ab (jX 12 0)) (.seq (.block 1 (jD Ns (.draw Gc))) (.reg Ac))
def r45:RC:=jQ Aa (.block 0 (.loop Ad))
def o45:List RR:=[]
theorem k45:CT 45 64 r45 o45:=ck Tryz.func45 Tryz.ntmps45 (by decide +kernel)
abbrev Qus:IL:=[jf 2]
abbrev Qut:IL:=[ja 3 0,ju 4 70 3,yg 5 4 0,ja 2 5]
abbrev r46:RC:=jQ Qus (jQ Qut (.ret))
abbrev o46:List RR:=[.tmp 2]
theorem k46:CT 46 6 r46 o46:=ck Tryz.func46 Tryz.ntmps46 (by decide +kernel)
abbrev Quu:IL:=[jg 2 2 0,jd 4 0]
abbrev Quv:IL:=[jd 5 0]
abbrev Quw:IL:=[ja 6 5,jb 7 0 2,jc 8 7,jk 9 1 8,jr 10 6 9]
abbrev Qux:IL:=[jb 13 0 2,jc 14 13,ja 15 5,jm 16 5 14 15,jb 17 0 16,jc 18 17,ja 19 1,yp 20 18 19]
abbrev Quy:IL:=[ja 21 5,ja 4 21]
abbrev Quz:IL:=[ja 11 5,jn 12 11 1,ja 5 12]
abbrev QuA:RC:=.seq (jQ Quw (jX 10 0)) (.seq (.block 1 (jQ Qux (.cond (.t 20) (jQ Quy (.ret)) (.skip)))) (.reg Quz))
abbrev QuB:IL:=[jd 4 (-1)]
abbrev r47:RC:=jQ Quu (.seq (jQ Quv (.block 0 (.loop QuA))) (jQ QuB (.ret)))
abbrev o47:List RR:=[.tmp 4]
theorem k47:CT 47 22 r47 o47:=ck Tryz.func47 Tryz.ntmps47 (by decide +kernel)
def Ae:IL:=[jg 1 1 0,zg 2 2]
def Af:IL:=[jb 9 0 1,jw 10 0 1 9,jb 11 1 1,jw 12 0 1 11,jb 13 3 1,jw 14 0 1 13,ju 15 76 14,⟨some 16,.val (.build [.str [],.bool false,.nils,.nils,.nils] [(0,1,(.t 10)),(1,1,(.t 12)),(3,1,(.t 15))]),none⟩,zg 3 3,yz 0 3 5 3 16]
def Ag:IL:=[jb 17 2 1,jc 18 17,jk 19 1 18,jd 20 0]
def Ah:IL:=[jr 21 20 19]
def Ai:IL:=[jm 22 3 18 20,je 23 3 22,zz 5 5,jh 3 5 23]
def Aj:IL:=[jb 24 0 5,jc 25 24,jb 26 1 5,jc 27 26,⟨some 28,.val (.build [.str [],.int .i64 0,.nils] [(0,1,(.t 25)),(1,1,(.t 27))]),none⟩,zz 6 6,jh 3 6 28]
def Ak:IL:=[jb 30 2 5,jc 31 30,⟨some 32,.call (.f 77) [(.t 31),(.c (.str [97,108,105,97,115]))],none⟩,ja 29 32,jt 33 29 0,jt 34 29 1,zu 7 7,jh 7 7 33,ja 8 34]
def Nt:IL:=[ja 35 8]
def Al:IL:=[je 36 7 7,⟨some 37,.val (.build [.str [],.int .i64 0,.int .u64 0,.str [],.nils,.nils,.nils,.nils] [(0,1,(.c (.str [97,108,105,97,115]))),(1,7,(.t 36))]),none⟩,⟨some 38,.bsl 8 1 [.str [],.int .i64 0,.int .u64 0,.str [],.nils,.nils,.nils,.nils] [(0,8,(.t 37))],none⟩,jb 39 2 6,jh 1 39 38]
def Nu:IL:=[jb 40 2 3,jc 41 40,je 42 3 6,⟨some 43,.bsl 3 1 [.str [],.int .i64 0,.nils] [(0,3,(.t 42))],none⟩,yj 44 3 48 122 41 43,jb 45 2 3,jh 1 45 44]
def DE:IL:=[jn 46 20 1,ja 20 46]
def QuC:RC:=.gho (.drop 7) (.gho (.drop 6) (.gho (.drop 5) (jQ Ah (.seq (jX 21 0) (.seq (.block 1 (jQ Ai (jQ Aj (.seq (jQ Ak (jQ Nt (.cond (.t 35) (.reg Al) (.skip)))) (.reg Nu))))) (.reg DE))))))
def Mk:IL:=[je 47 5 3,jh 5 2 47]
def r50:RC:=jQ Ae (jD Af (.gho (.vecc 3 2 1100 3) (.seq (jQ Ag (.block 0 (.loop QuC))) (jQ Mk (.ret)))))
def ZV:List RR:=[.cell 2 (some 5)]
theorem k50:CT 50 48 r50 ZV:=ck Tryz.func50 Tryz.ntmps50 (by decide +kernel)
abbrev QuD:IL:=[jf 2]
abbrev QuE:IL:=[ja 5 0,jk 6 0 5,ys 7 6 120]
abbrev QuF:IL:=[jf 2]
abbrev QuG:IL:=[Uu 3]
abbrev QuH:IL:=[jd 4 0]
abbrev QuI:IL:=[ja 8 4,ja 9 0,jk 10 0 9,jr 11 8 10]
abbrev QuJ:IL:=[ja 14 0,ja 15 4,Yu 16 14 15,⟨some 17,.val (.bin .num .neq (.t 16) (.c (.int .u8 46))),none⟩]
abbrev QuK:IL:=[ja 18 3,ja 19 0,ja 20 4,ja 21 4,jn 22 21 1,⟨some 23,.val (.slc none (.t 19) (some (.t 20)) (some (.t 22)) none),none⟩,⟨some 24,.val (.bin .str .add (.t 18) (.t 23)),none⟩,ja 3 24]
abbrev QuL:IL:=[ja 25 3,ju 26 64 25,jy 27 26]
abbrev QmH:IL:=[jf 2]
abbrev QmI:IL:=[Uu 3]
abbrev QuM:IL:=[ja 12 4,jn 13 12 1,ja 4 13]
abbrev QuN:RC:=.seq (jQ QuI (jX 11 0)) (.seq (.block 1 (.seq (jQ QuJ (.cond (.t 17) (jQ QuK (.exit 1)) (.skip))) (.seq (jQ QuL (.cond (.t 27) (jQ QmH (.ret)) (.skip))) (.reg QmI)))) (.reg QuM))
abbrev QmJ:IL:=[ja 28 3,ju 29 64 28,ja 2 29]
abbrev r61:RC:=jQ QuD (.seq (jQ QuE (.cond (.t 7) (jQ QuF (.ret)) (.skip))) (jQ QuG (.seq (jQ QuH (.block 0 (.loop QuN))) (jQ QmJ (.ret)))))
abbrev o61:List RR:=[.tmp 2]
theorem k61:CT 61 30 r61 o61:=ck Tryz.func61 Tryz.ntmps61 (by decide +kernel)
abbrev QuO:IL:=[Uu 2,Uu 3]
abbrev QuP:IL:=[ja 5 0,jk 6 0 5,zh 7 6 1,ja 4 7]
abbrev QuQ:IL:=[ja 8 4,yd 9 8 0]
abbrev QuR:IL:=[ja 12 0,ja 13 4,Yu 14 12 13,Vs 15 14 46]
abbrev QuS:IL:=[ja 16 0,ja 17 4,⟨some 18,.val (.slc none (.t 16) none (some (.t 17)) none),none⟩,ja 19 0,ja 20 4,jn 21 20 1,FJ 22 19 21,ja 2 18,ja 3 22]
abbrev QuT:IL:=[ja 10 4,zh 11 10 1,ja 4 11]
abbrev QuU:RC:=.seq (jQ QuQ (jX 9 0)) (.seq (.block 1 (jQ QuR (.cond (.t 15) (jD QuS (.ret)) (.skip)))) (.reg QuT))
abbrev QuV:IL:=[ja 23 0,Uu 2,ja 3 23]
abbrev r62:RC:=jQ QuO (.seq (jQ QuP (.block 0 (.loop QuU))) (jQ QuV (.ret)))
abbrev o62:List RR:=[.tmp 2,.tmp 3]
theorem k62:CT 62 24 r62 o62:=ck Tryz.func62 Tryz.ntmps62 (by decide +kernel)
abbrev QuW:IL:=[jf 2]
abbrev QuX:IL:=[ja 3 0]
abbrev QuY:IL:=[⟨some 5,.val (.bin .str .eql (.t 3) (.c (.str [109,101,115,115,97,103,101]))),none⟩,ja 4 5]
abbrev QuZ:IL:=[⟨some 6,.val (.bin .str .eql (.t 3) (.c (.str [101,110,117,109]))),none⟩,ja 4 6]
abbrev Qu0:IL:=[⟨some 7,.val (.bin .str .eql (.t 3) (.c (.str [115,101,114,118,105,99,101]))),none⟩,ja 4 7]
abbrev Qu1:IL:=[⟨some 8,.val (.bin .str .eql (.t 3) (.c (.str [117,110,105,111,110]))),none⟩,ja 4 8]
abbrev Qu2:IL:=[⟨some 9,.val (.bin .str .eql (.t 3) (.c (.str [109,97,112]))),none⟩,ja 4 9]
abbrev Qu3:IL:=[⟨some 10,.val (.bin .str .eql (.t 3) (.c (.str [108,105,115,116]))),none⟩,ja 4 10]
abbrev Qu4:IL:=[⟨some 11,.val (.bin .str .eql (.t 3) (.c (.str [114,101,113,117,105,114,101,100]))),none⟩,ja 4 11]
abbrev Qu5:IL:=[⟨some 12,.val (.bin .str .eql (.t 3) (.c (.str [111,112,116,105,111,110,97,108]))),none⟩,ja 4 12]
abbrev QmK:IL:=[⟨some 13,.val (.bin .str .eql (.t 3) (.c (.str [112,108,97,105,110]))),none⟩,ja 4 13]
abbrev QmL:IL:=[⟨some 14,.val (.bin .str .eql (.t 3) (.c (.str [100,101,102,97,117,108,116]))),none⟩,ja 4 14]
abbrev QmM:IL:=[⟨some 15,.val (.bin .str .eql (.t 3) (.c (.str [114,101,115,101,114,118,101,100]))),none⟩,ja 4 15]
abbrev QmN:IL:=[⟨some 16,.val (.bin .str .eql (.t 3) (.c (.str [105,109,112,111,114,116]))),none⟩,ja 4 16]
abbrev QmO:IL:=[⟨some 17,.val (.bin .str .eql (.t 3) (.c (.str [115,112,97,99,101]))),none⟩,ja 4 17]
abbrev QmP:IL:=[⟨some 18,.val (.bin .str .eql (.t 3) (.c (.str [114,112,99]))),none⟩,ja 4 18]
abbrev QmQ:IL:=[⟨some 19,.val (.bin .str .eql (.t 3) (.c (.str [115,116,114,101,97,109]))),none⟩,ja 4 19]
abbrev QmR:IL:=[⟨some 20,.val (.bin .str .eql (.t 3) (.c (.str [114,101,116,117,114,110,115]))),none⟩,ja 4 20]
abbrev QmS:IL:=[⟨some 21,.val (.bin .str .eql (.t 3) (.c (.str [111,112,101,110]))),none⟩,ja 4 21]
abbrev QmT:IL:=[⟨some 22,.val (.bin .str .eql (.t 3) (.c (.str [116,114,117,101]))),none⟩,ja 4 22]
abbrev QmU:IL:=[⟨some 23,.val (.bin .str .eql (.t 3) (.c (.str [102,97,108,115,101]))),none⟩,ja 4 23]
abbrev QmV:IL:=[⟨some 24,.val (.bin .str .eql (.t 3) (.c (.str [110,97,110]))),none⟩,ja 4 24]
abbrev QmW:IL:=[⟨some 25,.val (.bin .str .eql (.t 3) (.c (.str [105,110,102]))),none⟩,ja 4 25]
abbrev QmX:IL:=[ya 2]
abbrev QmY:IL:=[jf 2]
abbrev r63:RC:=jQ QuW (.seq (jQ QuX (.block 0 (.seq (jQ QuY (.cond (.t 4) (.skip) (jQ QuZ (.cond (.t 4) (.skip) (jQ Qu0 (.cond (.t 4) (.skip) (jQ Qu1 (.cond (.t 4) (.skip) (jQ Qu2 (.cond (.t 4) (.skip) (jQ Qu3 (.cond (.t 4) (.skip) (jQ Qu4 (.cond (.t 4) (.skip) (jQ Qu5 (.cond (.t 4) (.skip) (jQ QmK (.cond (.t 4) (.skip) (jQ QmL (.cond (.t 4) (.skip) (jQ QmM (.cond (.t 4) (.skip) (jQ QmN (.cond (.t 4) (.skip) (jQ QmO (.cond (.t 4) (.skip) (jQ QmP (.cond (.t 4) (.skip) (jQ QmQ (.cond (.t 4) (.skip) (jQ QmR (.cond (.t 4) (.skip) (jQ QmS (.cond (.t 4) (.skip) (jQ QmT (.cond (.t 4) (.skip) (jQ QmU (.cond (.t 4) (.skip) (jQ QmV (.cond (.t 4) (.skip) (.reg QmW))))))))))))))))))))))))))))))))))))))))) (.cond (.t 4) (jQ QmX (.ret)) (.skip))))) (jQ QmY (.ret)))
abbrev o63:List RR:=[.tmp 2]
theorem k63:CT 63 26 r63 o63:=ck Tryz.func63 Tryz.ntmps63 (by decide +kernel)
abbrev Qu6:IL:=[jf 2]
abbrev Qu7:IL:=[ja 4 0,jk 5 0 4,js 6 5 0,ja 7 6,jv 8 0 7,GL 9 0 8 7,zo 10 9 40 7,jo 11 7 10,ja 12 11,jv 13 0 12,⟨some 14,.val (.idx (.t 13) (.c (.int .i64 0))),(some (12,false))⟩,za 15 87 14 12,yt 16 15 12,jv 17 16 12,jj 18 0 17,⟨some 19,.val (.idx (.t 18) (.c (.int .i64 0))),(some (17,true))⟩,zk 20 88 19 17,yy 21 20 17,zq 22 17 21 12,jo 23 12 22]
abbrev Qu8:IL:=[jf 2]
abbrev Qu9:IL:=[jd 3 1]
abbrev Qva:IL:=[ja 24 3,ja 25 0,jk 26 0 25,jr 27 24 26]
abbrev Qvb:IL:=[ja 30 0,ja 31 3,Yu 32 30 31,ju 33 87 32,jy 34 33,ja 35 34,jj 36 0 35,jj 37 3 35,Vt 38 36 37 35,zk 39 88 38 35,yy 40 39 35,ji 41 35 40,ja 42 41,jj 43 0 42,jj 44 3 42,Vt 45 43 44 42,⟨some 46,.val (.bin .num .neq (.t 45) (.c (.int .u8 95))),(some (42,true))⟩,ji 47 42 46,ja 48 47,jj 49 0 48,jj 50 3 48,Vt 51 49 50 48,⟨some 52,.val (.bin .num .lss (.t 51) (.c (.int .u8 48))),(some (48,true))⟩,jj 53 52 48,jv 54 0 53,jv 55 3 53,⟨some 56,.val (.idx (.t 54) (.t 55)),(some (53,false))⟩,⟨some 57,.val (.bin .num .gtr (.t 56) (.c (.int .u8 57))),(some (53,false))⟩,⟨some 58,.val (.pick (.t 53) (.c (.bool true)) (.t 57)),(some (48,true))⟩,ji 59 48 58]
abbrev Qvc:IL:=[jf 2]
abbrev Qvd:IL:=[ja 28 3,jn 29 28 1,ja 3 29]
abbrev An:RC:=.seq (jQ Qva (jX 27 0)) (.seq (.block 1 (jQ Qvb (.cond (.t 59) (jQ Qvc (.ret)) (.skip)))) (.reg Qvd))
abbrev Qve:IL:=[ya 2]
abbrev r64:RC:=jQ Qu6 (.seq (jQ Qu7 (.cond (.t 23) (jQ Qu8 (.ret)) (.skip))) (.seq (jQ Qu9 (.block 0 (.loop An))) (jQ Qve (.ret))))
abbrev o64:List RR:=[.tmp 2]
theorem k64:CT 64 60 r64 o64:=ck Tryz.func64 Tryz.ntmps64 (by decide +kernel)
abbrev Qvf:IL:=[jg 2 2 0,jd 4 0]
abbrev Qvg:IL:=[jd 5 0]
abbrev Qvh:IL:=[ja 6 5,jb 7 1 2,jc 8 7,jk 9 1 8,jr 10 6 9]
abbrev Qvi:IL:=[jb 13 1 2,jc 14 13,ja 15 5,jm 16 5 14 15,jb 17 0 16,jc 18 17,ja 19 1,yp 20 18 19]
abbrev Qvj:IL:=[ja 21 5,ja 4 21]
abbrev Qvk:IL:=[ja 11 5,jn 12 11 1,ja 5 12]
abbrev Qvl:RC:=.seq (jQ Qvh (jX 10 0)) (.seq (.block 1 (jQ Qvi (.cond (.t 20) (jQ Qvj (.ret)) (.skip)))) (.reg Qvk))
abbrev Qvm:IL:=[jd 4 (-1)]
abbrev r65:RC:=jQ Qvf (.seq (jQ Qvg (.block 0 (.loop Qvl))) (jQ Qvm (.ret)))
abbrev o65:List RR:=[.tmp 4]
theorem k65:CT 65 22 r65 o65:=ck Tryz.func65 Tryz.ntmps65 (by decide +kernel)
abbrev Qvn:IL:=[jg 2 2 0,jg 3 3 1,jf 4]
abbrev Qvo:IL:=[jb 5 0 2,jc 6 5,jb 7 0 3,jc 8 7,zm 9 6 8,ja 10 9,jl 11 1 2 10,jq 12 11 10,jl 13 1 3 10,jq 14 13 10,Vm 15 12 14 10,ji 16 10 15,ja 17 16,jl 18 2 2 17,jq 19 18 17,jl 20 2 3 17,jq 21 20 17,HG 22 19 21 17,ji 23 17 22,ja 24 23,jl 25 3 2 24,jq 26 25 24,ye 27 1 26 24,jl 28 4 2 24,jq 29 28 24,ye 30 1 29 24,zw 31 27 30 24,jl 32 5 2 24,jq 33 32 24,ye 34 1 33 24,zw 35 31 34 24,jl 36 6 2 24,jq 37 36 24,ye 38 1 37 24,zw 39 35 38 24,jl 40 3 3 24,jq 41 40 24,ye 42 1 41 24,zw 43 39 42 24,jl 44 4 3 24,jq 45 44 24,ye 46 1 45 24,zw 47 43 46 24,jl 48 5 3 24,jq 49 48 24,ye 50 1 49 24,zw 51 47 50 24,jl 52 6 3 24,jq 53 52 24,ye 54 1 53 24,zw 55 51 54 24,ym 56 55 0 24,ji 57 24 56,ja 4 57]
abbrev r66:RC:=jQ Qvn (jQ Qvo (.ret))
abbrev o66:List RR:=[.tmp 4]
theorem k66:CT 66 58 r66 o66:=ck Tryz.func66 Tryz.ntmps66 (by decide +kernel)
abbrev Qvp:IL:=[jg 3 3 1,jf 4]
abbrev Qvq:IL:=[ja 6 0,ju 7 89 6,jy 8 7,ja 9 8,jp 10 0 3 9,jz 11 10 9,jv 12 0 9,FG 13 11 12 9,jo 14 9 13,ja 15 14,yn 16 7 3 15,za 17 90 16 15,yt 18 17 15,jo 19 15 18]
abbrev Qvr:IL:=[jf 4]
abbrev Qvs:IL:=[ja 20 0,ju 21 91 20]
abbrev Qvt:IL:=[jb 22 1 3,jc 23 22,Ux 24 23 0,ja 25 24,jl 26 2 3 25,jq 27 26 25,ye 28 0 27 25,yq 29 28 4096 25,ji 30 25 29,ja 31 30,jj 32 0 31,ym 33 32 8 31,jj 34 33 31,jp 35 2 3 34,jz 36 35 34,za 37 46 36 34,⟨some 38,.val (.pick (.t 34) (.c (.bool true)) (.t 37)),(some (31,true))⟩,ji 39 31 38,ja 4 39]
abbrev Qvu:IL:=[jb 40 2 3,jc 41 40,⟨some 42,.val (.bin .str .neq (.t 41) (.c (.str []))),none⟩]
abbrev Qvv:IL:=[jf 4]
abbrev Qvw:IL:=[ja 43 0]
abbrev Qvx:IL:=[js 45 43 1,ja 44 45]
abbrev Qvy:IL:=[jb 46 1 3,jc 47 46,⟨some 48,.val (.bin .num .leq (.t 47) (.c (.int .u64 1))),none⟩,ja 4 48]
abbrev QmZ:IL:=[js 50 43 2,ja 49 50]
abbrev Qm0:IL:=[jb 51 1 3,jc 52 51,⟨some 53,.val (.cvi .i64 (.t 52)),none⟩,ja 5 53]
abbrev Qm1:IL:=[ja 54 5,yd 55 54 (-2147483648),ja 56 55,jj 57 5 56,yq 58 57 2147483647 56,ji 59 56 58,ja 4 59]
abbrev Qm2:IL:=[js 61 43 4,ja 60 61]
abbrev Qm3:IL:=[jb 62 1 3,jc 63 62,⟨some 64,.val (.bin .num .lss (.t 63) (.c (.int .u64 4294967296))),none⟩,ja 4 64]
abbrev Qm4:IL:=[js 66 43 9,ja 65 66]
abbrev Qm5:IL:=[jb 67 1 3,jc 68 67,⟨some 69,.val (.bin .num .lss (.t 68) (.c (.int .u64 2147483648))),none⟩,ja 4 69]
abbrev Qm6:IL:=[ya 4]
abbrev r67:RC:=jQ Qvp (.seq (jQ Qvq (.cond (.t 19) (jQ Qvr (.ret)) (.skip))) (.seq (jQ Qvs (.cond (.t 21) (jQ Qvt (.ret)) (.skip))) (.seq (jQ Qvu (.cond (.t 42) (jQ Qvv (.ret)) (.skip))) (.seq (jQ Qvw (.block 0 (jQ Qvx (.cond (.t 44) (jQ Qvy (.ret)) (jQ QmZ (.cond (.t 49) (jQ Qm0 (jQ Qm1 (.ret))) (jQ Qm2 (.cond (.t 60) (jQ Qm3 (.ret)) (jQ Qm4 (.cond (.t 65) (jQ Qm5 (.ret)) (.skip))))))))))) (jQ Qm6 (.ret))))))
abbrev o67:List RR:=[.tmp 4]
theorem k67:CT 67 70 r67 o67:=ck Tryz.func67 Tryz.ntmps67 (by decide +kernel)
abbrev Qvz:IL:=[jg 1 1 0,zu 2 2]
abbrev QvA:IL:=[jb 3 0 1,jc 4 3,js 5 4 6,ja 6 5,jl 7 1 1 6,jq 8 7 6,zk 9 92 8 6,ym 10 9 0 6,ji 11 6 10]
abbrev QvB:IL:=[jb 12 1 1,⟨none,.store 1 (.t 12) (.c (.int .u64 9221120237041090560)),none⟩]
abbrev QvC:IL:=[je 13 7 1,jh 7 2 13]
abbrev r68:RC:=jQ Qvz (.seq (jQ QvA (.cond (.t 11) (.reg QvB) (.skip))) (jQ QvC (.ret)))
abbrev o68:List RR:=[.cell 2 (some 7)]
theorem k68:CT 68 14 r68 o68:=ck Tryz.func68 Tryz.ntmps68 (by decide +kernel)
abbrev QvD:IL:=[jd 4 0]
abbrev QvE:IL:=[ja 6 0,jk 7 1 6,ys 8 7 8]
abbrev QvF:IL:=[jd 4 3]
abbrev QvG:IL:=[jd 5 0]
abbrev QvH:IL:=[ja 9 5,ja 10 0,jk 11 1 10,jr 12 9 11]
abbrev QvI:IL:=[ja 15 0,ja 16 5,jm 17 8 15 16,jb 18 0 17,jc 19 18,ju 20 93 19,js 21 20 0]
abbrev QvJ:IL:=[jd 4 8]
abbrev QvK:IL:=[ja 22 0,ja 23 5,jm 24 8 22 23,jb 25 0 24,jc 26 25,ja 27 1,jx 28 94 26 27,jy 29 28]
abbrev QvL:IL:=[jd 4 1]
abbrev Qm7:IL:=[ja 30 0,ja 31 5,jm 32 8 30 31,je 33 8 32,ju 34 95 33,jy 35 34]
abbrev Qm8:IL:=[jd 4 12]
abbrev Qm9:IL:=[ja 36 5,ys 37 36 0,ja 38 37,jj 39 0 38,jj 40 5 38,zi 41 8 39 40 38,jl 42 0 41 38,Yw 43 42 38,jj 44 0 38,jj 45 5 38,FM 46 45 1 38,zi 47 8 44 46 38,jl 48 0 47 38,Yw 49 48 38,⟨some 50,.val (.bin .str .lss (.t 43) (.t 49)),(some (38,true))⟩,ji 51 38 50]
abbrev Qna:IL:=[jd 4 11]
abbrev Qnb:IL:=[ja 52 5,ys 53 52 0,ja 54 53,jj 55 0 54,jj 56 5 54,zi 57 8 55 56 54,jl 58 0 57 54,Yw 59 58 54,jj 60 0 54,jj 61 5 54,FM 62 61 1 54,zi 63 8 60 62 54,jl 64 0 63 54,Yw 65 64 54,HG 66 59 65 54,ji 67 54 66]
abbrev Qnc:IL:=[jd 4 9]
abbrev QvM:IL:=[ja 13 5,jn 14 13 1,ja 5 14]
abbrev QvN:RC:=.seq (jQ QvH (jX 12 0)) (.seq (.block 1 (.seq (jQ QvI (.cond (.t 21) (jQ QvJ (.ret)) (.skip))) (.seq (jQ QvK (.cond (.t 29) (jQ QvL (.ret)) (.skip))) (.seq (jQ Qm7 (.cond (.t 35) (jQ Qm8 (.ret)) (.skip))) (.seq (jD Qm9 (.cond (.t 51) (jQ Qna (.ret)) (.skip))) (jD Qnb (.cond (.t 67) (jQ Qnc (.ret)) (.skip)))))))) (.reg QvM))
abbrev Qnd:IL:=[jd 4 0]
abbrev r69:RC:=jQ QvD (.seq (jQ QvE (.cond (.t 8) (jQ QvF (.ret)) (.skip))) (.seq (jQ QvG (.block 0 (.loop QvN))) (jQ Qnd (.ret))))
abbrev o69:List RR:=[.tmp 4]
theorem k69:CT 69 68 r69 o69:=ck Tryz.func69 Tryz.ntmps69 (by decide +kernel)
abbrev QvO:IL:=[jd 2 0]
abbrev QvP:IL:=[jd 3 0]
abbrev QvQ:IL:=[ja 5 3,ja 6 0,jk 7 0 6,jr 8 5 7]
abbrev QvR:IL:=[ja 9 0,ja 10 3,jx 11 96 9 10,ja 4 11]
abbrev QvS:IL:=[ja 12 4,js 13 12 0]
abbrev QvT:IL:=[ja 14 3,ja 2 14]
abbrev QvU:IL:=[ja 15 3,ja 16 4,zd 17 15 16,ja 3 17]
abbrev QvV:RC:=.seq (jQ QvQ (jX 8 0)) (.block 1 (jQ QvR (.seq (jQ QvS (.cond (.t 13) (jQ QvT (.ret)) (.skip))) (.reg QvU))))
abbrev QvW:IL:=[jd 2 (-1)]
abbrev r70:RC:=jQ QvO (.seq (jQ QvP (.block 0 (.loop QvV))) (jQ QvW (.ret)))
abbrev Zl:List RR:=[.tmp 2]
theorem k70:CT 70 18 r70 Zl:=ck Tryz.func70 Tryz.ntmps70 (by decide +kernel)
abbrev QvX:IL:=[yh 2]
abbrev QvY:IL:=[ja 3 0,⟨some 4,.isnil false (.t 3),none⟩]
abbrev QvZ:IL:=[yh 2]
abbrev Qv0:IL:=[⟨some 5,.bsl0 5 2,none⟩,ja 6 0,yj 7 2 16 137 5 6,ja 2 7]
abbrev r76:RC:=jQ QvX (.seq (jQ QvY (.cond (.t 4) (jQ QvZ (.gho (.vec 2 2 2) (.ret))) (.skip))) (jQ Qv0 (.ret)))
abbrev o76:List RR:=[.tmp 2]
theorem k76:CT 76 8 r76 o76:=ck Tryz.func76 Tryz.ntmps76 (by decide +kernel)
abbrev Qv1:IL:=[jf 2]
abbrev Qv2:IL:=[ja 3 0,FK 4 3 97,ja 5 4,jj 6 0 5,Vu 7 6 122 5,ji 8 5 7,ja 2 8]
abbrev r87:RC:=jQ Qv1 (jQ Qv2 (.ret))
abbrev o87:List RR:=[.tmp 2]
theorem k87:CT 87 9 r87 o87:=ck Tryz.func87 Tryz.ntmps87 (by decide +kernel)
abbrev Qv3:IL:=[jf 2]
abbrev Qv4:IL:=[ja 3 0,FK 4 3 65,ja 5 4,jj 6 0 5,Vu 7 6 90 5,ji 8 5 7,ja 2 8]
abbrev r88:RC:=jQ Qv3 (jQ Qv4 (.ret))
abbrev o88:List RR:=[.tmp 2]
theorem k88:CT 88 9 r88 o88:=ck Tryz.func88 Tryz.ntmps88 (by decide +kernel)
abbrev Qv5:IL:=[jf 2]
abbrev Qv6:IL:=[ja 3 0,yd 4 3 1,ja 5 4,jj 6 0 5,yq 7 6 9 5,ji 8 5 7,ja 2 8]
abbrev r89:RC:=jQ Qv5 (jQ Qv6 (.ret))
abbrev o89:List RR:=[.tmp 2]
theorem k89:CT 89 9 r89 o89:=ck Tryz.func89 Tryz.ntmps89 (by decide +kernel)
abbrev Qv7:IL:=[jg 1 1 0,jf 2]
abbrev Qv8:IL:=[jb 3 3 1,jc 4 3,jk 5 1 4,js 6 5 0,ja 7 6,jl 8 4 1 7,jq 9 8 7,ye 10 1 9 7,ym 11 10 0 7,ji 12 7 11,ja 13 12,jl 14 5 1 13,jq 15 14 13,ye 16 1 15 13,ym 17 16 0 13,ji 18 13 17,ja 19 18,jl 20 6 1 19,jq 21 20 19,ye 22 1 21 19,ym 23 22 0 19,ji 24 19 23,ja 2 24]
abbrev r90:RC:=jQ Qv7 (jQ Qv8 (.ret))
abbrev DG:List RR:=[.tmp 2]
theorem k90:CT 90 25 r90 DG:=ck Tryz.func90 Tryz.ntmps90 (by decide +kernel)
abbrev Qv9:IL:=[jf 2]
abbrev Qwa:IL:=[ja 3 0,js 4 3 7,ja 5 4,jv 6 0 5,yv 7 6 8 5,jo 8 5 7,ja 2 8]
abbrev r91:RC:=jQ Qv9 (jQ Qwa (.ret))
abbrev o91:List RR:=[.tmp 2]
theorem k91:CT 91 9 r91 o91:=ck Tryz.func91 Tryz.ntmps91 (by decide +kernel)
abbrev Qwb:IL:=[jd 2 0]
abbrev Qwc:IL:=[ja 4 0,⟨some 5,.val (.bin .num .rem (.t 4) (.c (.int .u64 9223372036854775808))),none⟩,ja 3 5]
abbrev Qwd:IL:=[ja 7 3,⟨some 8,.val (.bin .num .gtr (.t 7) (.c (.int .u64 9218868437227405312))),none⟩,ja 6 8]
abbrev Qwe:IL:=[jd 2 0]
abbrev Qwf:IL:=[ja 10 3,Ux 11 10 9218868437227405312,ja 9 11]
abbrev Qwg:IL:=[jd 2 1]
abbrev Qwh:IL:=[ja 13 3,Ux 14 13 0,ja 12 14]
abbrev Qwi:IL:=[jd 2 2]
abbrev Qwj:IL:=[ja 16 3,⟨some 17,.val (.bin .num .lss (.t 16) (.c (.int .u64 4503599627370496))),none⟩,ja 15 17]
abbrev Qwk:IL:=[jd 2 3]
abbrev Qne:IL:=[jd 2 4]
abbrev r92:RC:=jQ Qwb (jQ Qwc (.seq (.block 0 (jQ Qwd (.cond (.t 6) (jQ Qwe (.ret)) (jQ Qwf (.cond (.t 9) (jQ Qwg (.ret)) (jQ Qwh (.cond (.t 12) (jQ Qwi (.ret)) (jQ Qwj (.cond (.t 15) (jQ Qwk (.ret)) (.skip)))))))))) (jQ Qne (.ret))))
abbrev o92:List RR:=[.tmp 2]
theorem k92:CT 92 18 r92 o92:=ck Tryz.func92 Tryz.ntmps92 (by decide +kernel)
abbrev Qwl:IL:=[jd 2 0]
abbrev Qwm:IL:=[ja 3 0]
abbrev Qwn:IL:=[⟨some 5,.val (.bin .str .eql (.t 3) (.c (.str [100,101,112,114,101,99,97,116,101,100]))),none⟩,ja 4 5]
abbrev Qwo:IL:=[⟨some 6,.val (.bin .str .eql (.t 3) (.c (.str [115,101,99,114,101,116]))),none⟩,ja 4 6]
abbrev Qwp:IL:=[⟨some 7,.val (.bin .str .eql (.t 3) (.c (.str [105,100,101,109,112,111,116,101,110,116]))),none⟩,ja 4 7]
abbrev Qwq:IL:=[jd 2 1]
abbrev Qwr:IL:=[⟨some 9,.val (.bin .str .eql (.t 3) (.c (.str [100,111,99]))),none⟩,ja 8 9]
abbrev Qws:IL:=[⟨some 10,.val (.bin .str .eql (.t 3) (.c (.str [97,108,105,97,115]))),none⟩,ja 8 10]
abbrev Qwt:IL:=[⟨some 11,.val (.bin .str .eql (.t 3) (.c (.str [114,111,117,116,101]))),none⟩,ja 8 11]
abbrev Qwu:IL:=[⟨some 12,.val (.bin .str .eql (.t 3) (.c (.str [111,119,110,101,114]))),none⟩,ja 8 12]
abbrev Qnf:IL:=[jd 2 7]
abbrev Qng:IL:=[⟨some 14,.val (.bin .str .eql (.t 3) (.c (.str [115,105,110,99,101]))),none⟩,ja 13 14]
abbrev Qnh:IL:=[⟨some 15,.val (.bin .str .eql (.t 3) (.c (.str [117,110,116,105,108]))),none⟩,ja 13 15]
abbrev Qni:IL:=[⟨some 16,.val (.bin .str .eql (.t 3) (.c (.str [108,101,110,103,116,104]))),none⟩,ja 13 16]
abbrev Qnj:IL:=[⟨some 17,.val (.bin .str .eql (.t 3) (.c (.str [116,105,109,101,111,117,116]))),none⟩,ja 13 17]
abbrev Qnk:IL:=[jd 2 4]
abbrev Qnl:IL:=[⟨some 19,.val (.bin .str .eql (.t 3) (.c (.str [109,105,110]))),none⟩,ja 18 19]
abbrev Qnm:IL:=[⟨some 20,.val (.bin .str .eql (.t 3) (.c (.str [109,97,120]))),none⟩,ja 18 20]
abbrev Qnn:IL:=[jd 2 3]
abbrev Qno:IL:=[jd 2 0]
abbrev r93:RC:=jQ Qwl (.seq (jQ Qwm (.block 0 (.seq (jQ Qwn (.cond (.t 4) (.skip) (jQ Qwo (.cond (.t 4) (.skip) (.reg Qwp))))) (.cond (.t 4) (jQ Qwq (.ret)) (.seq (jQ Qwr (.cond (.t 8) (.skip) (jQ Qws (.cond (.t 8) (.skip) (jQ Qwt (.cond (.t 8) (.skip) (.reg Qwu))))))) (.cond (.t 8) (jQ Qnf (.ret)) (.seq (jQ Qng (.cond (.t 13) (.skip) (jQ Qnh (.cond (.t 13) (.skip) (jQ Qni (.cond (.t 13) (.skip) (.reg Qnj))))))) (.cond (.t 13) (jQ Qnk (.ret)) (.seq (jQ Qnl (.cond (.t 18) (.skip) (.reg Qnm))) (.cond (.t 18) (jQ Qnn (.ret)) (.skip))))))))))) (jQ Qno (.ret)))
abbrev o93:List RR:=[.tmp 2]
theorem k93:CT 93 21 r93 o93:=ck Tryz.func93 Tryz.ntmps93 (by decide +kernel)
abbrev Qwv:IL:=[jf 4]
abbrev Qww:IL:=[ja 5 0]
abbrev Qwx:IL:=[⟨some 7,.val (.bin .str .eql (.t 5) (.c (.str [100,101,112,114,101,99,97,116,101,100]))),none⟩,ja 6 7]
abbrev Qwy:IL:=[⟨some 8,.val (.bin .str .eql (.t 5) (.c (.str [100,111,99]))),none⟩,ja 6 8]
abbrev Qwz:IL:=[ja 9 1,yd 10 9 1,ja 11 10,jj 12 1 11,yq 13 12 6 11,ji 14 11 13,ja 4 14]
abbrev QwA:IL:=[⟨some 16,.val (.bin .str .eql (.t 5) (.c (.str [97,108,105,97,115]))),none⟩,ja 15 16]
abbrev QwB:IL:=[⟨some 17,.val (.bin .str .eql (.t 5) (.c (.str [115,105,110,99,101]))),none⟩,ja 15 17]
abbrev QwC:IL:=[⟨some 18,.val (.bin .str .eql (.t 5) (.c (.str [117,110,116,105,108]))),none⟩,ja 15 18]
abbrev QwD:IL:=[ja 19 1,js 20 19 2,ja 21 20,jv 22 1 21,yv 23 22 4 21,jo 24 21 23,ja 25 24,jv 26 1 25,yv 27 26 6 25,jo 28 25 27,ja 4 28]
abbrev QwE:IL:=[⟨some 30,.val (.bin .str .eql (.t 5) (.c (.str [109,105,110]))),none⟩,ja 29 30]
abbrev Qnp:IL:=[⟨some 31,.val (.bin .str .eql (.t 5) (.c (.str [109,97,120]))),none⟩,ja 29 31]
abbrev Qnq:IL:=[⟨some 32,.val (.bin .str .eql (.t 5) (.c (.str [108,101,110,103,116,104]))),none⟩,ja 29 32]
abbrev Qnr:IL:=[⟨some 33,.val (.bin .str .eql (.t 5) (.c (.str [115,101,99,114,101,116]))),none⟩,ja 29 33]
abbrev Qns:IL:=[ja 34 1,js 35 34 2,ja 4 35]
abbrev Qnt:IL:=[⟨some 37,.val (.bin .str .eql (.t 5) (.c (.str [105,100,101,109,112,111,116,101,110,116]))),none⟩,ja 36 37]
abbrev Qnu:IL:=[⟨some 38,.val (.bin .str .eql (.t 5) (.c (.str [116,105,109,101,111,117,116]))),none⟩,ja 36 38]
abbrev Qnv:IL:=[⟨some 39,.val (.bin .str .eql (.t 5) (.c (.str [114,111,117,116,101]))),none⟩,ja 36 39]
abbrev Qnw:IL:=[ja 40 1,js 41 40 6,ja 4 41]
abbrev Qnx:IL:=[ja 42 1,js 43 42 1,ja 44 43,jv 45 1 44,yv 46 45 5 44,jo 47 44 46,ja 4 47]
abbrev r94:RC:=jQ Qwv (.seq (jQ Qww (.block 0 (.seq (jQ Qwx (.cond (.t 6) (.skip) (.reg Qwy))) (.cond (.t 6) (jQ Qwz (.ret)) (.seq (jQ QwA (.cond (.t 15) (.skip) (jQ QwB (.cond (.t 15) (.skip) (.reg QwC))))) (.cond (.t 15) (jQ QwD (.ret)) (.seq (jQ QwE (.cond (.t 29) (.skip) (jQ Qnp (.cond (.t 29) (.skip) (jQ Qnq (.cond (.t 29) (.skip) (.reg Qnr))))))) (.cond (.t 29) (jQ Qns (.ret)) (.seq (jQ Qnt (.cond (.t 36) (.skip) (jQ Qnu (.cond (.t 36) (.skip) (.reg Qnv))))) (.cond (.t 36) (jQ Qnw (.ret)) (.skip))))))))))) (jQ Qnx (.ret)))
abbrev o94:List RR:=[.tmp 4]
theorem k94:CT 94 48 r94 o94:=ck Tryz.func94 Tryz.ntmps94 (by decide +kernel)
abbrev QwF:IL:=[jg 1 1 0,jf 2]
abbrev QwG:IL:=[jb 4 0 1,jc 5 4,ju 6 93 5,ja 3 6]
abbrev QwH:IL:=[ja 7 3,yc 8 7 0,ja 9 8,jl 10 1 1 9,jl 11 0 10 9,jq 12 11 9,jj 13 3 9,Vm 14 12 13 9,ji 15 9 14,ja 16 15,jj 17 3 16,jl 18 1 1 16,zb 19 7 18 16,FH 20 67 17 19 16,ji 21 16 20,ja 2 21]
abbrev r95:RC:=jQ QwF (jQ QwG (jQ QwH (.ret)))
abbrev o95:List RR:=[.tmp 2]
theorem k95:CT 95 22 r95 o95:=ck Tryz.func95 Tryz.ntmps95 (by decide +kernel)
def Ao:IL:=[jd 4 0]
def Ap:IL:=[ja 6 0,ja 7 1,Yu 8 6 7,ja 5 8]
def Aq:IL:=[ja 10 5,⟨some 11,.val (.bin .num .lss (.t 10) (.c (.int .u8 128))),none⟩,ja 9 11]
def Ar:IL:=[jd 4 1]
def Nv:IL:=[ja 13 5,FK 14 13 194,ja 15 14,jj 16 5 15,Vu 17 16 223 15,ji 18 15 17,ja 19 18,jj 20 0 19,jj 21 1 19,zx 22 21 1 19,jav 23 115 20 22 1 19,ji 24 19 23,ja 12 24]
def As:IL:=[jd 4 2]
def Nw:IL:=[ja 26 5,Vs 27 26 224,ja 28 27,jj 29 0 28,jj 30 1 28,zx 31 30 1 28,⟨some 32,.call (.f 116) [(.t 29),(.t 31),(.c (.int .u8 160)),(.c (.int .u8 191))],(some (28,true))⟩,ji 33 28 32,ja 34 33,jj 35 0 34,jj 36 1 34,zx 37 36 2 34,jav 38 115 35 37 1 34,ji 39 34 38,ja 25 39]
def Au:IL:=[jd 4 3]
def Nx:IL:=[ja 41 5,Vs 42 41 237,ja 43 42,jj 44 0 43,jj 45 1 43,zx 46 45 1 43,⟨some 47,.call (.f 116) [(.t 44),(.t 46),(.c (.int .u8 128)),(.c (.int .u8 159))],(some (43,true))⟩,ji 48 43 47,ja 49 48,jj 50 0 49,jj 51 1 49,zx 52 51 2 49,jav 53 115 50 52 1 49,ji 54 49 53,ja 40 54]
def Av:IL:=[jd 4 3]
def DH:IL:=[ja 56 5,FK 57 56 225,ja 58 57,jj 59 5 58,Vu 60 59 239 58,ji 61 58 60,ja 62 61,jj 63 5 62,⟨some 64,.val (.bin .num .neq (.t 63) (.c (.int .u8 237))),(some (62,true))⟩,ji 65 62 64,ja 66 65,jj 67 0 66,jj 68 1 66,zx 69 68 1 66,jav 70 115 67 69 2 66,ji 71 66 70,ja 55 71]
def Ml:IL:=[jd 4 3]
def DI:IL:=[ja 73 5,Vs 74 73 240,ja 75 74,jj 76 0 75,jj 77 1 75,zx 78 77 1 75,⟨some 79,.call (.f 116) [(.t 76),(.t 78),(.c (.int .u8 144)),(.c (.int .u8 191))],(some (75,true))⟩,ji 80 75 79,ja 81 80,jj 82 0 81,jj 83 1 81,zx 84 83 2 81,jav 85 115 82 84 2 81,ji 86 81 85,ja 72 86]
def Mm:IL:=[jd 4 4]
def DJ:IL:=[ja 88 5,FK 89 88 241,ja 90 89,jj 91 5 90,Vu 92 91 243 90,ji 93 90 92,ja 94 93,jj 95 0 94,jj 96 1 94,zx 97 96 1 94,jav 98 115 95 97 3 94,ji 99 94 98,ja 87 99]
def Mn:IL:=[jd 4 4]
def DK:IL:=[ja 101 5,Vs 102 101 244,ja 103 102,jj 104 0 103,jj 105 1 103,zx 106 105 1 103,⟨some 107,.call (.f 116) [(.t 104),(.t 106),(.c (.int .u8 128)),(.c (.int .u8 143))],(some (103,true))⟩,ji 108 103 107,ja 109 108,jj 110 0 109,jj 111 1 109,zx 112 111 2 109,jav 113 115 110 112 2 109,ji 114 109 113,ja 100 114]
def Mo:IL:=[jd 4 4]
def Mp:IL:=[jd 4 0]
def r96:RC:=jQ Ao (jQ Ap (.seq (.block 0 (jQ Aq (.cond (.t 9) (jQ Ar (.ret)) (jQ Nv (.cond (.t 12) (jQ As (.ret)) (jQ Nw (.cond (.t 25) (jQ Au (.ret)) (jQ Nx (.cond (.t 40) (jQ Av (.ret)) (jQ DH (.cond (.t 55) (jQ Ml (.ret)) (jQ DI (.cond (.t 72) (jQ Mm (.ret)) (jQ DJ (.cond (.t 87) (jQ Mn (.ret)) (jQ DK (.cond (.t 100) (jQ Mo (.ret)) (.skip)))))))))))))))))) (jQ Mp (.ret))))
def o96:List RR:=[.tmp 4]
theorem k96:CT 96 115 r96 o96:=ck Tryz.func96 Tryz.ntmps96 (by decide +kernel)
def Mq:IL:=[jg 1 1 0,yh 2]
def Mr:IL:=[jb 6 0 1,jc 7 6,⟨some 8,.val (.build [.str [],.int .i64 0,.nils] [(0,1,(.t 7)),(1,1,(.c (.int .i64 (-1))))]),none⟩,jg 9 9 8,ja 3 9]
def Ms:IL:=[ja 10 3,jb 11 0 1,jc 12 11,ju 13 122 12,yb 14 98 10 13 8]
def DL:IL:=[ja 15 3,jb 16 2 1,jc 17 16,jk 18 1 17,yd 19 18 1,ja 20 19,jl 21 2 1 20,jq 22 21 20,ye 23 1 22 20,yq 24 23 64 20,ji 25 20 24,ja 26 25,jl 27 3 1 26,jq 28 27 26,ye 29 1 28 26,yq 30 29 16 26,ji 31 26 30,yb 32 98 15 31 3]
def DM:IL:=[ja 33 3,jb 34 2 1,jc 35 34,jk 36 1 35,js 37 36 0,ja 38 37,jp 39 2 1 38,jz 40 39 38,⟨some 41,.val (.iaddr 3 none (.t 40) (.c (.int .i64 0))),(some (38,false))⟩,jp 42 1 41 38,jz 43 42 38,yv 44 43 0 38,jo 45 38 44,yb 46 98 33 45 14]
def Mt:IL:=[jb 47 2 1,jc 48 47,jk 49 1 48,jd 50 0]
def Mu:IL:=[jr 51 50 49]
def Mv:IL:=[ja 52 50,jm 53 3 48 50,je 54 3 53,zz 5 5,ja 4 52,jh 3 5 54]
def Mw:IL:=[ja 55 3,jb 56 1 5,jc 57 56,yl 58 55,jb 59 1 58,jh 1 59 57]
def DN:IL:=[ja 60 3,jb 61 1 5,jc 62 61,yd 63 62 0,ja 64 63,jl 65 1 5 64,jq 66 65 64,yq 67 66 2147483647 64,ji 68 64 67,yb 69 98 60 68 6]
def Yc:IL:=[ja 70 3,ja 71 4,js 72 71 0,ja 73 72,jp 74 1 5 73,yi 75 0 5 74 73,jp 76 2 1 73,yi 77 0 1 76 73,jv 78 4 73,GN 79 78 1 73,zt 80 3 77 79 73,jp 81 1 80 73,Uw 82 81 73,HE 83 75 82 73,jo 84 73 83,yb 85 98 70 84 11]
def U6:IL:=[ja 86 3,jb 87 0 5,jc 88 87,ju 89 128 88,yb 90 98 86 89 8]
def U7:IL:=[ja 91 3,jb 92 2 1,jc 93 92,ja 94 4,⟨some 95,.callF (.f 129) [(.t 93),(.t 94),(.f 130)],none⟩,jy 96 95,yb 97 98 91 96 9]
def U8:IL:=[ja 98 3,jb 99 3 1,jc 100 99,jb 101 1 5,jc 102 101,jx 103 131 100 102,jy 104 103,yb 105 98 98 104 21]
def U9:IL:=[ja 106 3,jb 107 2 5,jc 108 107,yb 109 126 106 108 4]
def F6:IL:=[jn 110 50 1,ja 50 110]
def Mx:RC:=.gho (.drop 5) (jQ Mu (.seq (jX 51 0) (.seq (.block 1 (jQ Mv (jQ Mw (jQ DN (jD Yc (jQ U6 (jQ U7 (jQ U8 (.reg U9))))))))) (.reg F6))))
def F7:IL:=[ja 111 3,yl 112 111,jb 113 1 112,⟨none,.store 1 (.t 113) (.c (.int .i64 (-1))),none⟩]
def F8:IL:=[ja 114 3,jb 115 3 1,jc 116 115,yr 117 124 114 116 0 2147483647]
def F9:IL:=[ja 118 3,jb 119 4 1,jc 120 119,yb 121 126 118 120 3]
def Ba:IL:=[ja 122 3,yl 123 122,jb 124 2 123,jc 125 124,ja 2 125]
def Qny:RC:=jQ Mq (jQ Mr (.gho (.vecc 9 2 1100 3) (jQ Ms (jQ DL (jQ DM (.seq (jQ Mt (.block 0 (.loop Mx))) (jQ F7 (jQ F8 (jQ F9 (jQ Ba (.ret)))))))))))
def Qnz:List RR:=[.tmp 2]
theorem Qz9:CT 103 126 Qny Qnz:=ck Tryz.func103 Tryz.ntmps103 (by decide +kernel)
abbrev QnA:IL:=[jf 6]
abbrev QnB:IL:=[jd 7 0]
abbrev QnC:IL:=[ja 8 7,ja 9 2,jr 10 8 9]
abbrev QnD:IL:=[ja 13 0,ja 14 1,ja 15 7,zd 16 14 15,⟨some 17,.call (.f 116) [(.t 13),(.t 16),(.c (.int .u8 128)),(.c (.int .u8 191))],none⟩,jy 18 17]
abbrev QnE:IL:=[jf 6]
abbrev QnF:IL:=[ja 11 7,jn 12 11 1,ja 7 12]
abbrev QnG:RC:=.seq (jQ QnC (jX 10 0)) (.seq (.block 1 (jQ QnD (.cond (.t 18) (jQ QnE (.ret)) (.skip)))) (.reg QnF))
abbrev QnH:IL:=[ya 6]
abbrev QAa:RC:=jQ QnA (.seq (jQ QnB (.block 0 (.loop QnG))) (jQ QnH (.ret)))
abbrev QAb:List RR:=[.tmp 6]
theorem QAc:CT 115 19 QAa QAb:=ck Tryz.func115 Tryz.ntmps115 (by decide +kernel)
abbrev QnI:IL:=[jf 8]
abbrev QnJ:IL:=[ja 9 1,ja 10 0,jk 11 0 10,jr 12 9 11,ja 13 12,jj 14 0 13,jj 15 1 13,Vt 16 14 15 13,jj 17 2 13,⟨some 18,.val (.bin .num .geq (.t 16) (.t 17)),(some (13,true))⟩,ji 19 13 18,ja 20 19,jj 21 0 20,jj 22 1 20,Vt 23 21 22 20,jj 24 3 20,HF 25 23 24 20,ji 26 20 25,ja 8 26]
abbrev QAd:RC:=jQ QnI (jQ QnJ (.ret))
abbrev QAe:List RR:=[.tmp 8]
theorem QAf:CT 116 27 QAd QAe:=ck Tryz.func116 Tryz.ntmps116 (by decide +kernel)
abbrev QnK:IL:=[jg 3 3 0,jg 4 4 1,jg 5 5 2,jf 6]
abbrev QnL:IL:=[jc 7 3,jc 8 4,Vn 9 3 7 8,⟨some 10,.val (.mkfn (.func 158) [] [(.t 5),(.t 3),(.t 4)]),none⟩,yo 11 157 9 10,ja 6 11]
abbrev QAg:RC:=jQ QnK (jQ QnL (.ret))
abbrev QAh:List RR:=[.tmp 6]
theorem QAi:CT 129 12 QAg QAh:=ck Tryz.func129 Tryz.ntmps129 (by decide +kernel)
abbrev QnM:IL:=[jg 1 1 0,Uu 2]
abbrev QnN:IL:=[jb 3 0 1,jc 4 3,ja 2 4]
abbrev QAj:RC:=jQ QnM (jQ QnN (.ret))
abbrev Ny:List RR:=[.tmp 2]
theorem QAk:CT 130 5 QAj Ny:=ck Tryz.func130 Tryz.ntmps130 (by decide +kernel)
abbrev QnO:IL:=[jg 4 4 0,jf 5]
abbrev QnP:IL:=[jc 6 1,yf 7 0 4 3 4,⟨some 8,.call (.t 6) [(.t 7)],none⟩,jc 9 1,jc 10 2,jc 11 3,jm 12 3 10 11,yu 13 3 12,⟨some 14,.call (.t 9) [(.t 13)],none⟩,yp 15 8 14,ja 5 15]
abbrev QAl:RC:=jQ QnO (jD QnP (.ret))
abbrev QAm:List RR:=[.tmp 5]
theorem QAn:CT 158 16 QAl QAm:=ck Tryz.func158 Tryz.ntmps158 (by decide +kernel)
abbrev QnQ:IL:=[jg 4 4 0,jf 5]
abbrev QnR:IL:=[jc 6 1,yf 7 0 4 16 4,⟨some 8,.call (.t 6) [(.t 7)],none⟩,jc 9 1,jc 10 2,jc 11 3,jm 12 16 10 11,yu 13 16 12,⟨some 14,.call (.t 9) [(.t 13)],none⟩,yp 15 8 14,ja 5 15]
abbrev QAo:RC:=jQ QnQ (jD QnR (.ret))
abbrev QAp:List RR:=[.tmp 5]
theorem QAq:CT 168 16 QAo QAp:=ck Tryz.func168 Tryz.ntmps168 (by decide +kernel)
end Go.Proofs.YtnpajgoobomndaaGreatDoor.Rc

set_option linter.unusedSimpArgs false
namespace Go.Proofs.YtnpajgoobomndaaGreatDoor.Va
open Go Am Rc Bt

def RB (v:AV):Prop:=∃b,v=.bool b
theorem RB.rf {v:AV}{l:List AV}(h:RB v):v.rf=true∧(AV.rfL l=true∨v.nl=true):=by
 obtain⟨b,rfl⟩:=h;exact⟨rfl,.inr rfl⟩

def WW (k:Int):Bool:=decide (k≥1)&&decide (k≤9)
def Ku (k:Int):Bool:=k==7||k==8
theorem x89 (k:Int):Qs Tryz.prog 89 [.int .i64 k] (.bool (WW k)):=by
 refine k89.fn (by simp) ?_;simp only[WW,Qa,seval];cases h:decide (k≥1)<;>simp only[QHp,QHd,Qa,seval]

theorem QAr (k:Int):Qs Tryz.prog 137 [.int .i64 k] (.bool (WW k)):=by
 refine QeH.fn (by simp) ?_;simp only[WW,Qa,seval];cases h:decide (k≥1)<;>simp only[QHp,QHd,Qa,seval]

theorem x91 (k:Int):Qs Tryz.prog 91 [.int .i64 k] (.bool (Ku k)):=by
 refine k91.fn (by simp) ?_;simp only[Ku,Qa,seval];cases h:(k==7)<;>simp only[QHr,QHs,Qa,seval]

theorem QAs (k:Int):Qs Tryz.prog 179 [.int .i64 k] (.bool (Ku k)):=by
 refine Qj5.fn (by simp) ?_;simp only[Ku,Qa,seval];cases h:(k==7)<;>simp only[QHr,QHs,Qa,seval]

def oc (n:Int)(s a:List UInt8)(c k kd t u:Int):AV:=.agg [.int .i64 n,.str s,.str a,.int .i64 c,.int .i64 k,.int .i64 kd,.int .i64 t,.int .i64 u]

def pk (c kd:Int):Bool:=c==4&&((decide (kd≥1)&&decide (kd≤6))||kd==9)
section
variable (n:Int)(s a:List UInt8)(c k kd t u:Int)

theorem y60:Qs Tryz.prog 60 [oc n s a c k kd t u] (.bool (pk c kd)):=by
 refine k60.fn (by simp) ?_;simp only[oc,pk,eE,seval];cases h0:(c==4)<;>cases h1:decide (kd≥1)<;>cases h2:decide (kd≤6)<;>simp only[h1,h2,QHp,QHd,QHr,QHs,eE,seval]

end

theorem Qo (i:Nat)(n:Nat)(h:i<n)(hn:n≤maxLen):IntKind.i64.wrap ((i:Int)+1)=((i+1:Nat):Int):=by
 simp only[maxLen]at hn;rw[ZM];omega

theorem QC {i n:Nat}(h:i<n):decide ((i:Int)<(n:Int))=true:=by simp;omega
theorem QG {i n:Nat}(h:¬i<n):decide ((i:Int)<(n:Int))=false:=by simp;omega
theorem Qi (i:Nat):(0≤(i:Int))=True:=by simp

open Br

def QS {α:Type}(p:α→Bool):List α→Nat→Int
 | [],_=>-1
 |x :: l,i=>if p x=true then(i:Int)else QS p l (i+1)

theorem Xo {α:Type}(p:α→Bool):∀(l:List α) (i:Nat),(QS p l i = -1∧l.find? p=none)∨∃k o,QS p l i=((i+k:Nat):Int)∧l[k]? = some o∧l.find? p=some o
 | [],_=>.inl ⟨rfl,rfl⟩
 |x :: l,i=>by
  unfold QS;rw[List.find?_cons];cases h:p x with
  |true=>exact .inr ⟨0,x,by simp,rfl,rfl⟩
  |false=>
   simp only[QF9,if_false];rcases Xo p l (i+1)with h'|⟨k,o,h1,h2,h3⟩
   ·exact .inl h'
   ·exact .inr ⟨k+1,o,by rw[h1];congr 1;omega,by simpa using h2,h3⟩

theorem XW {α:Type}(p:α→Bool){l:List α}{i:Nat}{x:α}(hx:l[i]? = some x):QS p (l.drop i) i=if p x=true then(i:Int)else QS p (l.drop (i+1)) (i+1):=by
 have hlt:i<l.length:=(QFS.1 hx).1;rw[QGx hlt,show l[i]=x from(QFS.1 hx).2];rfl

def QD (o:PO):AV:=.agg o.cells
def QV (g:PG):AV:=.agg g.cells
def Zc (x:PI):AV:=.agg x.cells
def Q6 (x:PE):AV:=.agg x.cells

section ops
variable (L:List PO)(hl:L.length≤maxLen)(p:PO→Bool)(c:Nat)(cap:AV)(m:Ql)

def IxO (k:Nat)(st:St):Prop :=
 ∃f i,st=⟨f,Qf :: m,[]⟩∧k=L.length-i∧QS p L 0=QS p (L.drop i) i∧f 0=.list (L.map QD)∧f 1=.fn (.func c) [] [cap.sh]∧f 7=.int .i64 (L.length:Nat)∧f 8=.int .i64 (i:Nat)

include hl in
theorem QAt (hc:∀o∈L,Qn Tryz.prog c [QD o,cap.sh] (Qf :: m) fun y m1=>y=.bool (p o)∧m1=Qf :: m) :
  Qn Tryz.prog 110 [.list (L.map QD),.fn (.func c) [] [cap]] m fun y m1=>y=.int .i64 (QS p L 0)∧m1=m:=by
 refine Qb8.go (by simp) ?_;simp only[QG7,Qa,seval];refine Qd (IxO L p c cap m) _ ⟨_,0,rfl,rfl,rfl,(by rfl),(by rfl),(by rfl),(by rfl)⟩ ?_;rintro _ st ⟨f,i,rfl,rfl,hx,h0,h1,h7,h8⟩;simp only[h7,h8,Qa,seval];by_cases hlt:i<L.length
 ·obtain⟨x,hi⟩:∃x,L[i]? = some x:=⟨L[i],QFT hlt⟩;have hcl:=hc x (QF4 hi);have hg:(L.map QD)[i]? = some (QD x):=by simp[hi]
  have e1:=Qo i _ hlt hl;simp only[QD,PO.cells]at hcl;simp only[QC hlt,Qi,QHa,Qc,hg,QD,PO.cells,h0,h1,h8,eE,seval];refine XZ (fa:=[]) (fb:=[cap.sh]) (by rfl) hcl (by simp only[QGn,QGK,QGc,QGb,Qa,seval]) ?_;rw[XW p hi]at hx;cases hp:p x
  ·rw[hp]at hx;simp only[QF9,if_false]at hx;simp only[h8,e1,Qa,seval];exact⟨L.length-(i+1),by omega,_,i+1,rfl,rfl,hx,(by exact h0),(by exact h1),(by exact h7),(by rfl)⟩
  ·rw[hp]at hx;simp only[if_true]at hx;simp only[hx,Qa,seval]
 ·have hx':QS p L 0 = -1:=by rw[hx,QGr (by omega)];rfl
  simp only[QG hlt,hx',Qa,seval]

end ops

def PO0:PO:=⟨0,[],[],0,0,0,0,0⟩
def KW (p:PO→Bool)(L:List PO):AV:=.tup [QD ((L.find? p).getD PO0),.bool (L.find? p).isSome]

theorem y79 (g:PG)(hl:g.ops.length≤maxLen)(p:PO→Bool)(c:Nat)(cap:AV)(m:Ql)(hc:∀fr,∀o∈g.ops,Qn Tryz.prog c [QD o,cap.sh.sh] (Qf :: fr :: m) fun y m1=>y=.bool (p o)∧m1=Qf :: fr :: m) :
  Qn Tryz.prog 79 [.agg [.fn (.func c) [] [cap]],QV g] m fun y m1=>y=KW p g.ops∧m1=m:=by
 refine k79.go (by simp) ?_;simp only[QV,PG.cells,eE,seval];refine Qb (QAt g.ops hl p c cap.sh _ fun o ho=>hc _ o ho) (by simp only[QGn,QGK,Qa,seval];rfl) ?_;rcases Xo p g.ops 0 with⟨h1,h2⟩|⟨j,o,h1,h2,h3⟩
 ·simp only[h1,KW,h2,QHg,QGC,PO0,QD,PO.cells,splice,QGS,QGc,QGq,QGw,List.drop_nil,QGM,QF5,QGV,QGW,List.all_nil,AV.leaf,eE,seval]
 ·have hj:(g.ops.map fun o=>AV.agg o.cells)[j]? = some (.agg o.cells):=by simp[h2]
  have d:decide ((j:Int)<0)=false:=QHt (by omega);rw[QGf]at h1;simp only[PO.cells]at hj;simp only[h1,d,Qi,QHa,Qc,QGf,hj,KW,h3,QGU,QHu,QD,PO.cells,splice,QGS,QGc,QGq,QGw,List.drop_nil,QGM,QF5,QGV,QGW,List.all_nil,AV.leaf,eE,seval]

section
variable (o:PO)(fr frO:Nat→Ob)

theorem y81 (n:Int)(hf:frO 3=.cells [.int .i64 n]):Qn Tryz.prog 81 [QD o,.ptr 2 3 0] [Qf,fr,frO] fun y m1=>y=.bool (o.num==n)∧m1=[Qf,fr,frO]:=by
 refine k81.go (by simp) ?_;simp only[hf,QD,PO.cells,eE,seval]

theorem y78 (s:List UInt8)(hf:frO 3=.cells [.str s]):Qn Tryz.prog 78 [QD o,.ptr 2 3 0] [Qf,fr,frO] fun y m1=>y=.bool (o.name==s)∧m1=[Qf,fr,frO]:=by
 refine k78.go (by simp) ?_;simp only[hf,QD,PO.cells,QB,eE,seval]

theorem y80 (s:List UInt8)(hf:frO 3=.cells [.str s]):Qn Tryz.prog 80 [QD o,.ptr 2 3 0] [Qf,fr,frO] fun y m1=>y=.bool (o.alias==s && !(s==[]))∧m1=[Qf,fr,frO]:=by
 refine k80.go (by simp) ?_;simp only[hf,QD,PO.cells,QB,eE,seval];cases h:(o.alias==s)<;>simp only[hf,QHp,QHd,QB,eE,seval]

end

theorem y54 (g:PG)(hl:g.ops.length≤maxLen)(n:Int):Qs Tryz.prog 54 [QV g,.int .i64 n] (KW (fun o=>o.num==n) g.ops):=by
 refine k54.fn (by simp) ?_;simp only[QV,PG.cells,eE,seval];refine Qb (y79 g hl (fun o=>o.num==n) 81 (.ptr 0 3 0) _ fun fr o _=>y81 o fr _ n (by rfl)) (by simp only[QGn,QGK,QV,PG.cells,Qa,seval]) ?_;simp only[KW,QD,PO.cells,splice,QGS,QGc,QGq,QGw,List.drop_nil,QGM,QF5,QGV,QGW,List.all_nil,AV.leaf,eE,seval]

def Aw (s:List UInt8)(L:List PO):AV:=if (L.find? fun o=>o.name==s).isSome=true then KW (fun o=>o.name==s) L else KW (fun o=>o.alias==s && !(s==[])) L

theorem y53 (g:PG)(hl:g.ops.length≤maxLen)(s:List UInt8):Qs Tryz.prog 53 [QV g,.str s] (Aw s g.ops):=by
 refine k53.fn (by simp) ?_;simp only[QV,PG.cells,eE,seval];refine Qb (y79 g hl (fun o=>o.name==s) 78 (.ptr 0 3 0) _ fun fr o _=>y78 o fr _ s (by rfl)) (by simp only[QGn,QGK,QV,PG.cells,Qa,seval]) ?_;unfold Aw;cases h:(g.ops.find? fun o=>o.name==s).isSome
 ·simp only[KW,h,QF9,QD,PO.cells,splice,QGS,QGc,QGq,QGw,List.drop_nil,QGM,QF5,QGV,QGW,List.all_nil,AV.leaf,eE,seval];refine Qb (y79 g hl (fun o=>o.alias==s && !(s==[])) 80 (.ptr 0 3 0) _ fun fr o _=>y80 o fr _ s (by rfl)) (by simp only[QGn,QGK,QV,PG.cells,PO.cells,Qa,seval]) ?_;simp only[KW,QD,PO.cells,splice,QGS,QGc,QGq,QGw,List.drop_nil,QGM,QF5,QGV,QGW,List.all_nil,AV.leaf,eE,seval]
 ·simp only[KW,h,QD,PO.cells,splice,QGS,QGc,QGq,QGw,List.drop_nil,QGM,QF5,QGV,QGW,List.all_nil,AV.leaf,eE,seval]

def Xd (p:Nat→Bool):Nat→Bool
 |0=>true
 |n+1=>Xd p n&&p n

theorem QO {p:Nat→Bool}{n:Nat}:Xd p n=true↔∀i,i<n→p i=true:=by
 induction n with
 |zero=>simp[Xd]
 |succ n ih=>
  simp only[Xd,QGd,ih]
  constructor
  ·rintro⟨h1,h2⟩ i hi;rcases QHv.1 hi with h|rfl
   ·exact h1 i h
   ·exact h2
  ·intro h;exact⟨fun i hi=>h i (by omega),h n (by omega)⟩

theorem Nz {p:Nat→Bool}{n i:Nat}(hi:i<n)(h:p i=false):Xd p n=false:=by
 rw[QHw];intro h';rw[QO.1 h' i hi]at h;cases h

theorem UN {p q:Nat→Bool}{n:Nat}(h:∀i,i<n→p i=q i):Xd p n=Xd q n:=by
 induction n with
 |zero=>rfl
 |succ n ih=>simp only[Xd,ih fun i hi=>h i (by omega),h n (by omega)]

def WX {α:Type}(l:List α)(lt:α→α→Bool)(i:Nat):Bool:=match i with
 |0=>true
 |k+1=>match l[k]?,l[k+1]? with
  |some x,some y=>lt x y
  |_,_=>true

theorem Je {α:Type}{l:List α}{lt:α→α→Bool}{k:Nat}{x y:α}(h:l[k]? = some x)(h':l[k+1]? = some y):WX l lt (k+1)=lt x y:=by
 unfold WX;simp only[h,h']
def Xx {α:Type}(l:List α)(lt:α→α→Bool):Bool:=Xd (WX l lt) l.length

def uniq {α:Type}(l:List α)(nm:α→List UInt8)(i:Nat):Bool:=match l[i]? with
 |some x=>(l.take i).all fun y=>!(nm y==nm x)
 |none=>true
theorem KX {α:Type}{l:List α}{nm:α→List UInt8}{i:Nat}{x:α}(h:l[i]? = some x):uniq l nm i=(l.take i).all fun y=>!(nm y==nm x):=by
 unfold uniq;rw[h]
def Wl {α:Type}(l:List α)(nm:α→List UInt8):Bool:=Xd (uniq l nm) l.length

theorem PX {α:Type}{l:List α}{q:α→Bool}{i:Nat}{x:α}(h:l[i]? = some x):(l.take (i+1)).all q=((l.take i).all q&&q x):=by
 rw[QHk,h];simp
theorem Wm {α:Type}{l:List α}{q:α→Bool}{i:Nat}{x:α}(h:l[i]? = some x):(l.take (i+1)).any q=((l.take i).any q||q x):=by
 rw[QHk,h];simp
theorem Bb {α:Type}{l:List α}{q:α→Bool}:(l.all fun x=>!q x)=!l.any q:=by
 induction l with
 |nil=>rfl
 |cons x l ih=>simp[ih]

def Jf (c:UInt8):Bool:=(decide (97≤c.toNat)&&decide (c.toNat≤122))||(decide (65≤c.toNat)&&decide (c.toNat≤90))
def ZQ (c:UInt8):Bool:=Jf c||c.toNat==95||(decide (48≤c.toNat)&&decide (c.toNat≤57))
def QZ:List UInt8→Bool
 | []=>false
 |c :: t=>decide ((c :: t).length≤40)&&Jf c&&t.all ZQ
def Wn:List (List UInt8):=[[109,101,115,115,97,103,101],[101,110,117,109],[115,101,114,118,105,99,101],[117,110,105,111,110],[109,97,112],[108,105,115,116],[114,101,113,117,105,114,101,100],[111,112,116,105,111,110,97,108],[112,108,97,105,110],[100,101,102,97,117,108,116],[114,101,115,101,114,118,101,100],
 [105,109,112,111,114,116],[115,112,97,99,101],[114,112,99],[115,116,114,101,97,109],[114,101,116,117,114,110,115],[111,112,101,110],[116,114,117,101],[102,97,108,115,101],[110,97,110],[105,110,102]]
def Zd (s:List UInt8):Bool:=Wn.any fun w=>s==w
def Xb (s:List UInt8):Bool:=QZ s && !Zd s
def Qg:List UInt8→List (List UInt8)
 | []=>[[]]
 |c :: t=>if c=46 then [] :: Qg t else match Qg t with
  | []=>[[c]]
  |p :: ps=>(c :: p) :: ps
def Xp (s:List UInt8):Bool:=decide (s.length≤120)&&(Qg s).all QZ && !(Qg s).any Zd

theorem JT:∀s:List UInt8,Qg s≠[]
 | []=>by simp[Qg]
 |c :: t=>by
  unfold Qg;split
  ·simp
  ·split<;>simp

theorem HH (a:List UInt8):∀s:List UInt8,(∀c∈a,c≠46)→Qg (a++s)=match Qg s with
  | []=>[a]
  |p :: ps=>(a++p) :: ps:=by
 induction a with
 |nil=>intro s _;cases h:Qg s with
  |nil=>exact absurd h (JT s)
  |cons p ps=>simp[h]
 |cons c a ih=>
  intro s h;have hc:c≠46:=h c (by simp);rw[QGb,Qg,QFX hc,ih s fun x hx=>h x (by simp[hx])];cases hs:Qg s with
  |nil=>exact absurd hs (JT s)
  |cons p ps=>rfl

theorem KG {s:List UInt8}(h:∀c∈s,c≠46):Qg s=[s]:=by
 have:=HH s [] h
 simpa [Qg]using this

theorem UO {a t:List UInt8}(h:∀c∈a,c≠46):Qg (a++46 :: t)=a :: Qg t:=by
 rw[HH a _ h,Qg,QFY rfl];simp

theorem UP {a t:List UInt8}(h:∀c∈t,c≠46):Qg (a++46 :: t)=Qg a++[t]:=by
 induction a with
 |nil=>
  show Qg (46 :: t)=[[]]++[t];rw[show Qg (46 :: t)=[] :: Qg t from by rw[Qg,QFY rfl],KG h];rfl
 |cons c a ih=>
  rw[QGb,Qg,Qg,ih];split
  ·rfl
  ·cases hs:Qg a with
   |nil=>exact absurd hs (JT a)
   |cons p ps=>rfl

theorem WY (s:List UInt8):(Qg s).length=s.count 46+1:=by
 induction s with
 |nil=>rfl
 |cons c t ih=>
  unfold Qg;split
  ·rename_i h;subst h;simp[ih]
  ·rename_i h;rw[List.count_cons_of_ne (by simpa using h)];cases hs:Qg t with
   |nil=>exact absurd hs (JT t)
   |cons p ps=>rw[hs]at ih;simpa using ih

def PY (g:PG):Bool:=decide (g.ops.length≤64)
def PZ (e:PE):Bool:=decide (1≤e.items.length)&&decide (e.items.length≤64)&&decide (e.free.length≤16)
def Bc (P:PL):Bool:=decide (P.progs.length≤64)&&decide (P.enums.length≤64)&&P.progs.all PY&&P.enums.all PZ
def QnT (g:PG):Bool:=Xp g.name&&g.ops.all fun o=>Xb o.name
def QnU (e:PE):Bool:=Xp e.name&&e.items.all fun o=>Xb o.name
def nam (P:PL):Bool:=P.progs.all QnT&&P.enums.all QnU
def NA {α:Type}(f:α→Int)(x y:α):Bool:=decide (f x<f y)
def Kv {α:Type}(f:α→List UInt8)(x y:α):Bool:=Op.bytesLess (f x) (f y)
def QnV (g:PG):Bool:=Xx g.ops (NA PO.num)
def QnW (e:PE):Bool:=Xx e.items (NA PI.num)
def Ax (P:PL):Bool:=Xx P.progs (Kv PG.name)&&Xx P.enums (Kv PE.name)&&P.progs.all QnV&&P.enums.all QnW
def P0 (P:PL)(g:PG):Bool:=(P.enums.all fun e=>!(e.name==g.name))&&Wl g.ops PO.name
def QnX (e:PE):Bool:=Wl e.items PI.name
def Ay (P:PL):Bool:=P.progs.all (P0 P)&&P.enums.all QnX
def QnY (o:PO):Bool:=decide (o.num≥1)&&decide (o.num≤65535)
def spn (x:PS):Bool:=decide (x.lo≥0)&&decide (x.hi≤2147483647)&&decide (x.lo≤x.hi)
def spt (x y:PS):Bool:=decide (y.lo > x.hi)
def kept (l:List PS)(n:Int):Bool:=l.any fun x=>decide (x.lo≤n)&&decide (n≤x.hi)
def QnZ (e:PE)(x:PI):Bool:=decide (x.num≤2147483647) && !kept e.free x.num
def Qn0 (e:PE):Bool:=match e.items with
 | []=>true
 |x :: _=>x.num==0
def Qn1 (e:PE):Bool:=e.free.all spn&&Xx e.free spt&&Qn0 e&&e.items.all (QnZ e)
def rng (P:PL):Bool:=P.progs.all (fun g=>g.ops.all QnY)&&P.enums.all Qn1

def QU (x:PS):AV:=.agg x.cells
def Qk (x:List UInt8):AV:=.str x

theorem Kw {α:Type}(p:α→Bool)(l:List α):decide (QS p l 0≥0)=l.any p:=by
 rcases Xo p l 0 with⟨h1,h2⟩|⟨k,o,h1,_,h3⟩
 ·rw[h1];have:l.any p=false:=by
   rw[List.any_eq_false];intro x hx;exact fun h=>by have:=QHx.1 h2 x hx;exact this h
  rw[this];rfl
 ·rw[h1];have:l.any p=true:=QHi.2 ⟨o,QHy h3,QHz h3⟩;rw[this];exact QHA (by omega)

theorem JU (k n:Nat)(h:k+1<n)(hn:n≤maxLen):IntKind.i64.wrap (((k+1:Nat):Int)-1)=(k:Int):=by
 rw[ZM];simp only[maxLen]at hn;omega

section
variable (L:List PG)(hl:L.length≤maxLen)(p:PG→Bool)(c:Nat)(cs:List AV)(m:Ql)

end

section
variable (L:List PO)(hl:L.length≤maxLen)(p:PO→Bool)(c:Nat)(cs:List AV)(m:Ql)

end

section
variable (L:List PE)(hl:L.length≤maxLen)(p:PE→Bool)(c:Nat)(cs:List AV)(m:Ql)

end

section
variable (L:List PI)(hl:L.length≤maxLen)(p:PI→Bool)(c:Nat)(cs:List AV)(m:Ql)

end

section
variable (L:List PS)(hl:L.length≤maxLen)(p:PS→Bool)(c:Nat)(cs:List AV)(m:Ql)

def JxS (k:Nat)(st:St):Prop :=
 ∃f i,st=⟨f,Qf :: m,[]⟩∧k=L.length-i∧QS p L 0=QS p (L.drop i) i∧f 0=.list (L.map QU)∧f 1=.fn (.func c) [] (AV.shL cs)∧f 7=.int .i64 (L.length:Nat)∧f 8=.int .i64 (i:Nat)

include hl in
theorem QAu (hc:∀o∈L,Qn Tryz.prog c (QU o :: AV.shL cs) (Qf :: m) fun y m1=>y=.bool (p o)∧m1=Qf :: m) :
  Qn Tryz.prog 178 [.list (L.map QU),.fn (.func c) [] cs] m fun y m1=>y=.int .i64 (QS p L 0)∧m1=m:=by
 refine Qj0.go (by simp) ?_;simp only[QG7,Qa,seval];refine Qd (JxS L p c cs m) _ ⟨_,0,rfl,rfl,rfl,(by rfl),(by rfl),(by rfl),(by rfl)⟩ ?_;rintro _ st ⟨f,i,rfl,rfl,hx,h0,h1,h7,h8⟩;simp only[h7,h8,Qa,seval];by_cases hlt:i<L.length
 ·obtain⟨x,hi⟩:∃x,L[i]? = some x:=⟨L[i],QFT hlt⟩;have hcl:=hc x (QF4 hi);have hg:(L.map QU)[i]? = some (QU x):=by simp[hi]
  have e1:=Qo i _ hlt hl;simp only[QU,PS.cells]at hcl;simp only[QC hlt,Qi,QHa,Qc,hg,QU,PS.cells,h0,h1,h8,eE,seval];refine XZ (fa:=[]) (fb:=AV.shL cs) (by rfl) hcl (by simp only[QGn,QGK,QGc,QGb,Qa,seval]) ?_;rw[XW p hi]at hx;cases hp:p x
  ·rw[hp]at hx;simp only[QF9,if_false]at hx;simp only[h8,e1,Qa,seval];exact⟨L.length-(i+1),by omega,_,i+1,rfl,rfl,hx,(by exact h0),(by exact h1),(by exact h7),(by rfl)⟩
  ·rw[hp]at hx;simp only[if_true]at hx;simp only[hx,Qa,seval]
 ·have hx':QS p L 0 = -1:=by rw[hx,QGr (by omega)];rfl
  simp only[QG hlt,hx',Qa,seval]

include hl in
theorem QAv (hc:∀o∈L,Qn Tryz.prog c (QU o :: AV.shL (AV.shL cs)) (Qf :: Qf :: m) fun y m1=>y=.bool (p o)∧m1=Qf :: Qf :: m) :
  Qn Tryz.prog 159 [.list (L.map QU),.fn (.func c) [] cs] m fun y m1=>y=.bool (L.any p)∧m1=m:=by
 refine Qhy.go (by simp) ?_;simp only[Qa,seval];refine Qb (QAu L hl p c (AV.shL cs) _ hc) (by simp only[QGn,QGK,Qa,seval]<;>rfl) ?_;simp only[Kw,Qa,seval]

end

section
variable (L:List (List UInt8))(hl:L.length≤maxLen)(p:(List UInt8)→Bool)(c:Nat)(cs:List AV)(m:Ql)

def JxR (k:Nat)(st:St):Prop :=
 ∃f i,st=⟨f,Qf :: m,[]⟩∧k=L.length-i∧QS p L 0=QS p (L.drop i) i∧f 0=.list (L.map Qk)∧f 1=.fn (.func c) [] (AV.shL cs)∧f 7=.int .i64 (L.length:Nat)∧f 8=.int .i64 (i:Nat)

include hl in
theorem QAw (hc:∀o∈L,Qn Tryz.prog c (Qk o :: AV.shL cs) (Qf :: m) fun y m1=>y=.bool (p o)∧m1=Qf :: m) :
  Qn Tryz.prog 142 [.list (L.map Qk),.fn (.func c) [] cs] m fun y m1=>y=.int .i64 (QS p L 0)∧m1=m:=by
 refine Qfi.go (by simp) ?_;simp only[QG7,Qa,seval];refine Qd (JxR L p c cs m) _ ⟨_,0,rfl,rfl,rfl,(by rfl),(by rfl),(by rfl),(by rfl)⟩ ?_;rintro _ st ⟨f,i,rfl,rfl,hx,h0,h1,h7,h8⟩;simp only[h7,h8,Qa,seval];by_cases hlt:i<L.length
 ·obtain⟨x,hi⟩:∃x,L[i]? = some x:=⟨L[i],QFT hlt⟩;have hcl:=hc x (QF4 hi);have hg:(L.map Qk)[i]? = some (Qk x):=by simp[hi]
  have e1:=Qo i _ hlt hl;simp only[Qk]at hcl;simp only[QC hlt,Qi,QHa,Qc,hg,Qk,h0,h1,h8,eE,seval];refine XZ (fa:=[]) (fb:=AV.shL cs) (by rfl) hcl (by simp only[QGn,QGK,QGc,QGb,Qa,seval]) ?_;rw[XW p hi]at hx;cases hp:p x
  ·rw[hp]at hx;simp only[QF9,if_false]at hx;simp only[h8,e1,Qa,seval];exact⟨L.length-(i+1),by omega,_,i+1,rfl,rfl,hx,(by exact h0),(by exact h1),(by exact h7),(by rfl)⟩
  ·rw[hp]at hx;simp only[if_true]at hx;simp only[hx,Qa,seval]
 ·have hx':QS p L 0 = -1:=by rw[hx,QGr (by omega)];rfl
  simp only[QG hlt,hx',Qa,seval]

include hl in
theorem NB (hc:∀o∈L,Qn Tryz.prog c (Qk o :: AV.shL (AV.shL cs)) (Qf :: Qf :: m) fun y m1=>y=.bool (p o)∧m1=Qf :: Qf :: m) :
  Qn Tryz.prog 117 [.list (L.map Qk),.fn (.func c) [] cs] m fun y m1=>y=.bool (L.any p)∧m1=m:=by
 refine QcZ.go (by simp) ?_;simp only[Qa,seval];refine Qb (QAw L hl p c (AV.shL cs) _ hc) (by simp only[QGn,QGK,Qa,seval]<;>rfl) ?_;simp only[Kw,Qa,seval]

end

section
variable (L:List PG)(hl:L.length≤maxLen)(lt:PG→PG→Bool)(c:Nat)(cs:List AV)(m:Ql)

end

section
variable (L:List PO)(hl:L.length≤maxLen)(lt:PO→PO→Bool)(c:Nat)(cs:List AV)(m:Ql)

end

section
variable (L:List PE)(hl:L.length≤maxLen)(lt:PE→PE→Bool)(c:Nat)(cs:List AV)(m:Ql)

end

section
variable (L:List PI)(hl:L.length≤maxLen)(lt:PI→PI→Bool)(c:Nat)(cs:List AV)(m:Ql)

end

def cl (c:Nat):Int:=if 97≤c∧c≤122 then 1 else if 65≤c∧c≤90 then 2 else if 48≤c∧c≤57 then 3 else if c=95 then 4 else 0

theorem QAx (c:Nat):Qs Tryz.prog 176 [.int .i32 (c:Nat)] (.int .i64 (cl c)):=by
 refine QjC.fn (by simp) ?_;simp only[Qa,seval]
 repeat' (first|(refine XR (fun h=>?_) (fun h=>?_)<;>simp only[h,Qa,seval])|(refine Zr (fun h=>?_) (fun h=>?_)<;>simp only[h,Qh,Qa,seval])|(refine Zs (fun h=>?_) (fun h=>?_)<;>simp only[h,Qh,eE,seval]))
 all_goals((try simp only[QG4,QHB,QGe,QHC,ne_eq]at *)<;>unfold cl<;>(repeat' split)<;>first|rfl|(exfalso;omega))

theorem NC {s:List UInt8}{i:Nat}{c:UInt8}(h:s[i]? = some c):(c.toNat<128→Xl s i=(c.toNat,1))∧(128≤c.toNat→128≤(Xl s i).1):=by
 have g0:(⟨⟨s⟩⟩:ByteArray).get! (i+0)=c:=by
  show(⟨s⟩:Array UInt8)[i+0]! = c;simp[h]
 constructor
 ·intro hc;simp only[Xl,Utf8.decode,g0];rw[QFY hc]
 ·intro hc;simp only[Xl,Utf8.decode,g0];rw[QFX (by omega)]
  (repeat' split)<;>simp only[ge_iff_le,QGd,QG4,Utf8.runeError]at *<;>omega

def pq (s:List UInt8)(j:Nat):Bool:=match s[j]? with
 |some c=>if j=0 then Jf c else ZQ c
 |none=>true
theorem KH {s:List UInt8}{j:Nat}{c:UInt8}(h:s[j]? = some c):pq s j=if j=0 then Jf c else ZQ c:=by
 unfold pq;rw[h]

theorem DO {c:UInt8}(h:Jf c=true):ZQ c=true:=by unfold ZQ;rw[h];rfl

theorem J1 (s:List UInt8):QZ s=(decide (1≤s.length)&&decide (s.length≤40)&&Xd (pq s) s.length):=by
 cases s with
 |nil=>rfl
 |cons c t=>
  have h1:decide (1≤(c :: t).length)=true:=by simp
  rw[h1,QHp];show(decide ((c :: t).length≤40)&&Jf c&&t.all ZQ)=_;rw[Bool.and_assoc];congr 1
  rw[QGE,QGd,QO,QF3]
  constructor
  ·rintro⟨h2,h3⟩ i hi;cases i with
   |zero=>rw[KH (c:=c) rfl,QFY rfl];exact h2
   |succ i=>
    have hlt:i<t.length:=by simpa using hi
    rw[KH (c:=t[i]) (by simp[QFT hlt]),QFX (by omega)];exact h3 _ (List.getElem_mem _)
  ·intro h;refine⟨?_,fun x hx=>?_⟩
   ·have:=h 0 (by simp)
    rwa [KH (c:=c) rfl,QFY rfl]at this
   ·obtain⟨i,hi⟩:=QF2.1 hx;have hlt:=(QFS.1 hi).1;have:=h (i+1) (by simpa using hlt)
    rwa [KH (c:=x) (by simpa using hi),QFX (by omega)]at this

theorem QwI {s:List UInt8}{i:Nat}{c:UInt8}(h:s[i]? = some c)(r:Nat)(hr:(c.toNat<128→r=c.toNat)∧(128≤c.toNat→128≤r)) :
  (cl r==0||((i:Int)==0&&(cl r != 1&&cl r != 2)))=!pq s i:=by
 rw[KH h];obtain⟨h1,h2⟩:=hr;have hc:=c.toNat_lt;unfold cl Jf ZQ Jf;generalize c.toNat=x at *;by_cases hx:x<128
 ·have e:=h1 hx;subst e;by_cases hi:i=0
  ·subst hi;rw[QFY rfl]
   (repeat' split)<;>simp<;>omega
  ·rw[QFX hi];have hz:((i:Int)==0)=false:=by simp;omega
   rw[hz]
   (repeat' split)<;>simp<;>omega
 ·have:=h2 (by omega);have e:(if 97≤r∧r≤122 then(1:Int)else if 65≤r∧r≤90 then 2 else if 48≤r∧r≤57 then 3 else if r=95 then 4 else 0)=0:=by
   rw[QFX (by omega),QFX (by omega),QFX (by omega),QFX (by omega)]
  rw[e];split<;>simp<;>omega

def PaI (s:List UInt8)(k:Nat)(st:St):Prop :=
 ∃f fr i,st=⟨f,[fr],[]⟩∧k=s.length-i∧i≤s.length∧Xd (pq s) i=true∧f 0=.str s∧f 7=.ptr 0 7 0∧fr 7=.iter (.str s) i

theorem Qn3 (s:List UInt8):Qs Tryz.prog 156 [.str s] (.bool (QZ s)):=by
 refine Qho.fn (by simp) ?_;simp only[Qa,seval];refine Hz rfl rfl ?_;simp only[Qa,seval];refine Qd (PaI s) s.length ⟨_,_,0,rfl,rfl,QFZ _,rfl,(by rfl),(by rfl),(by rfl)⟩ ?_;rintro _ st ⟨f,fr,i,rfl,rfl,hi,hx,h0,h7,m7⟩;simp only[Qa,seval];refine HA (by exact h7) m7 (fun hlt=>?_) (fun hge=>?_)
 ·obtain⟨c,hc⟩:∃c,s[i]? = some c:=⟨s[i],QFT hlt⟩;obtain⟨u1,u2⟩:=NC hc;have hcl:=QAx (Xl s i).1;have hq:=QwI hc (Xl s i).1 ⟨fun h=>by rw[u1 h],u2⟩;have hw:pq s i=true→(Xl s i).2=1:=by
   intro h;rw[u1];rw[KH hc]at h;have hp:ZQ c=true:=by
    split at h
    ·exact DO h
    ·exact h
   unfold ZQ Jf at hp;simp at hp;omega
  generalize Xl s i=cw at hcl hq hw;obtain⟨r,w⟩:=cw;simp only[Qa,seval];refine aC hcl ?_;have hstep:Xd (pq s) (i+1)=pq s i:=by rw[Xd,hx,QHp]
  have hend:pq s i=false→QZ s=false:=by
   intro h;rw[J1,Nz hlt h,QHD]
  simp only at hq hw;generalize cl r=k at hq;cases hp:pq s i
  ·rw[hp]at hq;have he:=hend hp;simp only[he,Qa,seval];cases a1:(k==0)
   ·cases a2:((i:Int)==0)
    ·simp[a1,a2]at hq
    ·cases a3:(k != 1)
     ·simp[a1,a2,a3]at hq
     ·cases a4:(k != 2)
      ·simp[a1,a2,a3,a4]at hq
      ·simp only[a2,a3,a4,Qa,seval]
   ·simp only[Qa,seval]
  ·rw[hp]at hq;have hw:=hw hp;subst hw;simp only[Qa,seval];cases a1:(k==0)
   ·cases a2:((i:Int)==0)
    ·simp only[a2,Qa,seval];exact⟨s.length-(i+1),by omega,_,_,i+1,rfl,rfl,by omega,by rw[hstep,hp],(by exact h0),(by exact h7),(by rfl)⟩
    ·cases a3:(k != 1)
     ·simp only[a2,a3,Qa,seval];exact⟨s.length-(i+1),by omega,_,_,i+1,rfl,rfl,by omega,by rw[hstep,hp],(by exact h0),(by exact h7),(by rfl)⟩
     ·cases a4:(k != 2)
      ·simp only[a2,a3,a4,Qa,seval];exact⟨s.length-(i+1),by omega,_,_,i+1,rfl,rfl,by omega,by rw[hstep,hp],(by exact h0),(by exact h7),(by rfl)⟩
      ·simp[a1,a2,a3,a4]at hq
   ·simp[a1]at hq
 ·have hii:i=s.length:=by omega
  subst hii;have e1:decide (((s.length:Nat):Int)≥1)=decide (1≤s.length):=by rw[decide_eq_decide];omega
  have e2:decide (((s.length:Nat):Int)≤40)=decide (s.length≤40):=by rw[decide_eq_decide];omega
  have e3:QZ s=(decide (1≤s.length)&&decide (s.length≤40)):=by rw[J1,hx,QGX]
  simp only[h0,e1,e3,Qa,seval];cases a1:decide (1≤s.length)<;>simp only[QHp,QHd,h0,e2,Qa,seval]

theorem QAy (s:List UInt8):Qs Tryz.prog 146 [.str s] (.bool (Zd s)):=by
 refine PT.fn (by simp) ?_;simp only[QB,Qa,seval];have e:Zd s=Wn.any fun w=>s==w:=rfl
 simp only[Wn,List.any_cons,List.any_nil,QHE]at e
 repeat' (first|(refine XR (fun h=>?_) (fun h=>?_)<;>simp only[h,QB,Qa,seval])|(refine Zr (fun h=>?_) (fun h=>?_)<;>simp only[h,Qh,QB,eE,seval])|(refine Zs (fun h=>?_) (fun h=>?_)<;>simp only[h,Qh,QB,eE,seval]))
 all_goals(simp only[*,QHr,Bool.or_true,QHE]at e;simp only[e])

theorem QAz (s:List UInt8):Qs Tryz.prog 181 [.str s,.str [46]] (.int .i64 (s.count 46:Nat)):=by
 refine Qkw.fn (by simp) ?_;have b0:(((1:Nat):Int)==0)=false:=rfl;have b1:(((1:Nat):Int)==1)=true:=rfl;have b2:([(46:UInt8)])[Int.toNat 0]? = some 46:=rfl;simp only[QF5,QGV,QGf,Qa,seval];refine Fu rfl rfl ?_;simp only[Uc,Lib.countByte,Qa,seval]
 try rfl

theorem QAA (s:List UInt8):Qs Tryz.prog 195 [.str s,.int .u8 46] (.int .i64 (Lib.indexByte s 46)):=by
 refine QlM.fn (by simp) ?_;simp only[Qa,seval];refine Fu rfl rfl ?_;simp only[Uc,QF9,Qa,seval]
 try rfl

theorem QAB (s:List UInt8):Qs Tryz.prog 191 [.str s,.str [46]] (.int .i64 (Lib.indexByte s 46)):=by
 refine Qlm.fn (by simp) ?_;have b0:(((1:Nat):Int)==0)=false:=rfl;have b1:(((1:Nat):Int)==1)=true:=rfl;have b2:([(46:UInt8)])[Int.toNat 0]? = some 46:=rfl;have hk:=QAA s;simp only[Nl,CM,CN,CO,CP,CQ,CR,CS,CU,CV,Nl,PW,QF5,QGV,QGf,QB,Qa,seval];cases h:(([46]:List UInt8)==s)
 ·simp only[Qa,seval];refine aC hk ?_;simp only[Qa,seval]
 ·have hs:s=[46]:=by simpa using (QGe.1 h).symm
  subst hs;simp only[Qa,seval]
  try rfl

theorem QAC (s:List UInt8):Qs Tryz.prog 182 [.str s,.str [46]] (.int .i64 (Lib.indexByte s 46)):=by
 refine QkB.fn (by simp) ?_;simp only[Qa,seval];refine aC (QAB s) ?_;simp only[Qa,seval]

theorem My {t:List UInt8}{o:Nat}(h:Lib.indexByte t 46=(o:Int)):o<t.length∧t=t.take o++46 :: t.drop (o+1)∧∀c∈t.take o,c≠46:=by
 obtain⟨h1,h2⟩:=Lib.indexByte_some h;have hlt:=(QFS.1 h1).1;refine⟨hlt,?_,?_⟩
 ·have h3:t[o]=46:=(QFS.1 h1).2;rw[←h3,←QGx hlt,QGY]
 ·intro c hc e;subst e;obtain⟨k,hk⟩:=QF2.1 hc;rw[QGt]at hk;split at hk
  ·exact h2 k ‹_› hk
  ·cases hk

theorem P1 {t:List UInt8}(h:Lib.indexByte t 46 = -1):Qg t=[t]:=by
 refine KG fun c hc e=>?_
 subst e;obtain⟨k,hk⟩:=QF2.1 hc;exact Lib.indexByte_none h k hk

theorem Mz {t:List UInt8}{o:Nat}(h:Lib.indexByte t 46=(o:Int)):Qg t=t.take o :: Qg (t.drop (o+1)):=by
 obtain⟨_,h2,h3⟩:=My h
 conv=>lhs;rw[h2]
 exact UO h3

theorem Qn4 (t:List UInt8):Lib.indexByte t 46 = -1∨∃o:Nat,Lib.indexByte t 46=(o:Int):=by
 have:=Lib.indexByte_ge t 46;by_cases h:Lib.indexByte t 46 = -1
 ·exact .inl h
 ·obtain⟨o,ho⟩:=Int.eq_ofNat_of_zero_le (a:=Lib.indexByte t 46) (by omega);exact .inr ⟨o,ho⟩

def SpI (s:List UInt8)(n:Nat)(k:Nat)(st:St):Prop :=
 ∃f fr t done,st=⟨f,[fr],[]⟩∧k=(Qg t).length∧Qg s=done++Qg t∧n=done.length+(Qg t).length∧t.length≤s.length∧
  f 0=.str t∧f 1=.str [46]∧f 2=.int .i64 0∧f 3=.int .i64 ((n-1:Nat):Int)∧f 9=.vec 0 31 1 0 n false∧f 10=.int .i64 (done.length:Nat)∧fr 31=.vec 1 1 (done.map Qk++List.replicate (Qg t).length (.str []))

theorem P2 (done:List (List UInt8))(x:List UInt8)(n:Nat)(h:0<n):(done.map Qk++List.replicate n (AV.str [])).set done.length (.str x)=(done++[x]).map Qk++List.replicate (n-1) (AV.str []):=by
 obtain⟨k,rfl⟩:∃k,n=k+1:=⟨n-1,by omega⟩;rw[List.set_append_right _ _ (by simp)];simp[Qk,List.replicate_succ]

theorem QAD (s:List UInt8)(hs:s.length≤17592186044000):Qs Tryz.prog 166 [.str s,.str [46],.int .i64 0,.int .i64 (-1)] (.list ((Qg s).map Qk)):=by
 have hl:=WY s;have hc:s.count 46≤s.length:=List.count_le_length;have hm:(Qg s).length≤s.length+1:=by omega
 have b0:((-1:Int)==0)=false:=rfl;have b1:decide ((-1:Int)<0)=true:=rfl;have e1:IntKind.i64.wrap ((s.count 46:Nat)+1:Int)=((Qg s).length:Nat):=by rw[ZM];omega
 have e2:IntKind.i64.wrap ((s.length:Nat)+1:Int)=((s.length+1:Nat):Int):=by rw[ZM];omega
 have e3':(((s.length+1:Nat):Int)<((Qg s).length:Nat))=False:=eq_false (by omega);have e4:IntKind.i64.wrap (((Qg s).length:Nat)-1:Int)=(((Qg s).length-1:Nat):Int):=by rw[ZM];omega
 have hz:JE 1 [AV.str []]=.str []:=rfl;refine QiA.fn (by simp) ?_;simp only[b0,QB,Qa,seval];have b2:(([46]:List UInt8)==[])=false:=rfl;simp only[b2,Qa,seval];refine aC (QAz s) ?_;simp only[e1,e2,e3',Qa,seval];refine Fv (n:=(Qg s).length) (k:=(Qg s).length) rfl rfl (QFQ _) (by omega) (by omega) rfl ?_;simp only[e4,hz,Qa,seval];refine Qd (SpI s (Qg s).length) _ ⟨_,_,s,[],rfl,rfl,rfl,by simp,QFQ _,(by rfl),(by rfl),(by rfl),(by rfl),(by rfl),(by rfl),(by rfl)⟩ ?_;rintro _ st ⟨f,fr,t,done,rfl,rfl,hp,hn,ht,h0,h1,h2,h3,h9,h10,m31⟩;simp only[h3,h10,Qa,seval];have hpos:0<(Qg t).length:=QG1.2 (JT t);have ia:Qc [fr] 1 none (.vec 0 31 1 0 (Qg s).length false) ((done.length:Nat):Int)=some (.vptr 0 31 1 done.length 0):=by
  have e:Am.Qe [fr] 0 31=.vec 1 1 (done.map Qk++List.replicate (Qg t).length (.str [])):=m31;simp only[Qc,e,Qi,if_true,QHa];simp;omega
 have ist:∀x:List UInt8,Q4 [fr] (.vptr 0 31 1 done.length 0) [.str x]=some [Qp fr 31 (.vec 1 1 ((done++[x]).map Qk++List.replicate ((Qg t).length-1) (.str [])))]:=by
  intro x;have e:Am.Qe [fr] 0 31=.vec 1 1 (done.map Qk++List.replicate (Qg t).length (.str [])):=m31;have hy:(done.map Qk++List.replicate (Qg t).length (.str []))[done.length]? = some (.str []):=by
   rw[QG9 (by simp)];simp[hpos]
  have hx:Jr (.str []) 0 [.str x]=.str x:=rfl;simp only[Q4,e,hy,if_true,←P2 done x _ hpos];simp[AV.cells,AV.rfL,AV.rf,Am.put,hx]
 have ew:IntKind.i64.wrap ((done.length:Nat)+1:Int)=((done.length+1:Nat):Int):=by rw[ZM];omega
 rcases Qn4 t with hd|⟨o,ho⟩
 ·have hp1:=P1 hd;have hl1:(Qg t).length=1:=by rw[hp1];rfl
  have d1:decide (((done.length:Nat):Int)<(((Qg s).length-1:Nat):Int))=false:=QHt (by omega);have hi:=ist t;have hrow:(done++[t]).map Qk++List.replicate ((Qg t).length-1) (AV.str [])=(Qg s).map Qk:=by
   rw[hl1,hp,hp1];simp
  have hlen:done.length+1=(Qg s).length:=by omega
  rw[hrow]at hi;rw[hlen]at ew;have hle:((Qg s).length≤(Qg s).length)=True:=eq_true (QFQ _);have ht:(((Qg s).map Qk).drop 0).take (Qg s).length=(Qg s).map Qk:=by rw[QGw];exact QGo (by simp)
  simp only[d1,ia,hi,h0,h9,h10,ew,eE,seval];simp only[Qi,if_true,QHa,QFZ,hle,true_and,and_true,QGH,QGC,QHE,YI,QGU,GC,QHu];have el:Am.Qe [Qp fr 31 (Ob.vec 1 1 ((Qg s).map Qk))] 0 31=.vec 1 1 ((Qg s).map Qk):=QI _ _ _;simp only[AV.still,el,QHp,bne_self_eq_false,QF9,if_false,QGf,QG7,hle,QGN,if_true,ht,QGT,AV.un,QHu,QGU]
 ·have hp1:=Mz ho;obtain⟨ho1,ho2,ho3⟩:=My ho;have hl1:(Qg t).length=(Qg (t.drop (o+1))).length+1:=by rw[hp1];simp
  have hpos2:0<(Qg (t.drop (o+1))).length:=QG1.2 (JT _);have d1:decide (((done.length:Nat):Int)<(((Qg s).length-1:Nat):Int))=true:=QHA (by omega);have d2:decide ((o:Int)<0)=false:=QHt (by omega);have w1:IntKind.i64.wrap ((o:Int)+0)=(o:Int):=by rw[ZM];omega
  have w2:IntKind.i64.wrap ((o:Int)+1)=((o+1:Nat):Int):=by rw[ZM];omega
  have hi:=ist (t.take o);simp only[d1,h0,h1,Qa,seval];refine aC (QAC t) ?_;have hle1:(0≤o∧o≤t.length)=True:=eq_true ⟨QFZ _,by omega⟩;have hle2:(o+1≤t.length∧t.length≤t.length)=True:=eq_true ⟨by omega,QFQ _⟩;have ht2:(t.drop (o+1)).take (t.length-(o+1))=t.drop (o+1):=QGo (by simp);simp only[ho,d2,w1,w2,Qi,QHa,hle1,hle2,ht2,QGH,h0,h1,h2,h9,h10,eE,seval];simp only[ia,hi,ew,Qa,seval];have hlen:(done++[t.take o]).length=done.length+1:=by simp
  have hk:(Qg t).length-1=(Qg (t.drop (o+1))).length:=by omega
  exact⟨(Qg (t.drop (o+1))).length,by omega,_,_,t.drop (o+1),done++[t.take o],rfl,rfl,by rw[hp,hp1];simp,by rw[hlen];omega,by simp;omega,(by rfl),(by exact h1),(by exact h2),(by exact h3),(by exact h9),by rw[hlen]<;>first|rfl|simp only[eE,seval],by rw[←hk]<;>exact QI _ _ _⟩

def DP (c:UInt8):Bool:=decide (97≤c.toNat)&&decide (c.toNat≤122)
def DQ (c:UInt8):Bool:=decide (65≤c.toNat)&&decide (c.toNat≤90)

theorem z87 (c:UInt8):Qs Tryz.prog 87 [.int .u8 (c.toNat:Nat)] (.bool (DP c)):=by
 refine k87.fn (by simp) ?_;have e1:decide ((c.toNat:Int)≥97)=decide (97≤c.toNat):=by rw[decide_eq_decide];omega
 have e2:decide ((c.toNat:Int)≤122)=decide (c.toNat≤122):=by rw[decide_eq_decide];omega
 simp only[e1,DP,Qa,seval];cases h:decide (97≤c.toNat)<;>simp only[e2,QHp,QHd,Qa,seval]

theorem z88 (c:UInt8):Qs Tryz.prog 88 [.int .u8 (c.toNat:Nat)] (.bool (DQ c)):=by
 refine k88.fn (by simp) ?_;have e1:decide ((c.toNat:Int)≥65)=decide (65≤c.toNat):=by rw[decide_eq_decide];omega
 have e2:decide ((c.toNat:Int)≤90)=decide (c.toNat≤90):=by rw[decide_eq_decide];omega
 simp only[e1,DQ,Qa,seval];cases h:decide (65≤c.toNat)<;>simp only[e2,QHp,QHd,Qa,seval]

theorem P3 (c:UInt8):ZQ c=(DP c||DQ c || !((c.toNat:Int) != 95) || !(decide ((c.toNat:Int)<48)||decide ((c.toNat:Int) > 57))):=by
 unfold ZQ Jf DP DQ;generalize c.toNat=x;rw[QGE];simp only[QGI,QGd,QG4,QGe,QGG,bne_eq_false_iff_eq,QGD,QHB];omega

def PrI (s:List UInt8)(k:Nat)(st:St):Prop :=
 ∃f i,st=⟨f,[Qf],[]⟩∧k=s.length-i∧1≤i∧Xd (pq s) i=true∧f 0=.str s∧f 3=.int .i64 (i:Nat)

theorem z64 (s:List UInt8):Qs Tryz.prog 64 [.str s] (.bool (QZ s)):=by
 refine k64.fn (by simp) ?_;simp only[Qa,seval];by_cases hl:s.length=0
 ·have d0:((s.length:Int)==0)=true:=by rw[hl];rfl
  have e:QZ s=false:=by rw[J1,hl];rfl
  simp only[d0,e,Qa,seval]
 have d0:((s.length:Int)==0)=false:=by rw[QHC];omega
 by_cases hm:s.length≤40
 case neg=>
  have d1:decide ((s.length:Int) > 40)=true:=QHA (by omega);have e:QZ s=false:=by rw[J1,QHt hm,QHD,QHd]
  simp only[d0,d1,e,Qa,seval]
 have d1:decide ((s.length:Int) > 40)=false:=QHt (by omega);have hp:QZ s=Xd (pq s) s.length:=by rw[J1,QHA hm,QHA (by omega:1≤s.length)];rfl
 obtain⟨c,hc⟩:∃c,s[0]? = some c:=⟨s[0]'(by omega),QFT (by omega)⟩;have hq0:Xd (pq s) 1=(DP c||DQ c):=by
  show(true&&pq s 0)=_;rw[KH hc,QFY rfl];rfl
 have h1:=z87 c;have h2:=z88 c;have hn:Xd (pq s) 1=false→QZ s=false:=fun h=>by
  rw[hp,QHw];intro h';rw[QO.2 fun k hk=>QO.1 h' k (by omega)]at h;cases h
 have z1:Int.toNat 0=0:=rfl;have go:Xd (pq s) 1=true→∀(f:Fr),f 0=.str s→f 3=.int .i64 1→∀Q:Exit→St→Prop,(∀f,Xd (pq s) s.length=true→Q (.exit 0) ⟨f,[Qf],[]⟩)→(∀f,f 2=.bool false→Xd (pq s) s.length=false→Q .ret ⟨f,[Qf],[]⟩)→QK Tryz.prog (.loop An) ⟨f,[Qf],[]⟩ Q:=by
  intro hq1 f h0 h3 Q hx hr;refine Qd (PrI s) _ ⟨_,1,rfl,rfl,QFQ _,hq1,h0,h3⟩ ?_;clear h0 h3 hc hq0 h1 h2 hn;rintro _ st ⟨f,i,rfl,rfl,h1i,hx1,h0,h3⟩;simp only[h0,h3,Qa,seval];by_cases hlt:i<s.length
  ·obtain⟨c,hc⟩:∃c,s[i]? = some c:=⟨s[i],QFT hlt⟩;have e1:=Qo i _ hlt (by simp only[maxLen];omega);have hs1:=z87 c;have hs2:=z88 c;have hstep:Xd (pq s) (i+1)=ZQ c:=by
    rw[Xd,hx1,QHp,KH hc,QFX (by omega)]
   have hend:ZQ c=false→Xd (pq s) s.length=false:=fun h=>by
    rw[QHw];intro h';rw[QO.2 fun k hk=>QO.1 h' k (by omega)]at hstep;rw[h]at hstep;cases hstep
   have fin:∀f':Fr,ZQ c=true→f' 0=.str s→f' 3=.int .i64 ((i+1:Nat):Int)→∃k,k<s.length-i∧PrI s k ⟨f',[Qf],[]⟩:=by
    intro f' hp h0 h3;exact⟨s.length-(i+1),by omega,f',i+1,rfl,rfl,by omega,by rw[hstep,hp],h0,h3⟩
   have hpc:=P3 c;simp only[QC hlt,Qi,QHa,hc,h0,h3,Qa,seval];refine aC hs1 ?_;cases a1:DP c
   ·simp only[Qi,QHa,hc,h0,h3,QGR,Qa,seval];refine aC hs2 ?_;cases a2:DQ c
    ·cases a3:((c.toNat:Int) != 95)
     ·rw[a1,a2,a3]at hpc;simp only[a3,Qi,QHa,hc,h0,h3,e1,QGR,Qa,seval];exact fin _ (by rw[hpc];rfl) (by exact h0) (by rfl)
     ·cases a4:decide ((c.toNat:Int)<48)
      ·cases a5:decide ((c.toNat:Int) > 57)
       ·rw[a1,a2,a3,a4,a5]at hpc;simp only[a3,a4,a5,Qi,QHa,hc,h0,h3,e1,QGR,Qa,seval];exact fin _ (by rw[hpc];rfl) (by exact h0) (by rfl)
       ·rw[a1,a2,a3,a4,a5]at hpc;simp only[a3,a4,a5,Qi,QHa,hc,h0,h3,QGR,Qa,seval];exact hr _ (by rfl) (hend (by rw[hpc];rfl))
      ·rw[a1,a2,a3,a4]at hpc;simp only[a3,a4,Qi,QHa,hc,h0,h3,QGR,Qa,seval];exact hr _ (by rfl) (hend (by rw[hpc];rfl))
    ·rw[a1,a2]at hpc;simp only[h3,e1,QHq,Qa,seval];exact fin _ (by rw[hpc];rfl) (by exact h0) (by rfl)
   ·rw[a1]at hpc;simp only[h3,e1,QHq,Qa,seval];exact fin _ (by rw[hpc];rfl) (by exact h0) (by rfl)
  ·simp only[QG hlt,Qa,seval];exact hx _ (QO.2 fun k hk=>QO.1 hx1 k (by omega))
 simp only[d0,d1,z1,hc,Qa,seval];refine aC h1 ?_;cases a1:DP c
 ·simp only[z1,hc,QGR,Qa,seval];refine aC h2 ?_;cases a2:DQ c
  ·rw[a1,a2]at hq0;simp only[hn hq0,QGR,Qa,seval]
  ·rw[a1,a2]at hq0;simp only[QHq,Qa,seval];refine go hq0 _ (by rfl) (by rfl) _ (fun f h=>?_) (fun f h2 h=>?_)
   ·simp only[hp,h,Qa,seval]
   ·simp only[hp,h,h2,Qa,seval]
 ·rw[a1,QHr]at hq0;simp only[QHq,Qa,seval];refine go hq0 _ (by rfl) (by rfl) _ (fun f h=>?_) (fun f h2 h=>?_)
  ·simp only[hp,h,Qa,seval]
  ·simp only[hp,h,h2,Qa,seval]

theorem z63 (s:List UInt8):Qs Tryz.prog 63 [.str s] (.bool (Zd s)):=by
 refine k63.fn (by simp) ?_;simp only[QB,Qa,seval];have e:Zd s=Wn.any fun w=>s==w:=rfl
 simp only[Wn,List.any_cons,List.any_nil,QHE]at e
 repeat' (first|(refine XR (fun h=>?_) (fun h=>?_)<;>simp only[h,QB,Qa,seval])|(refine Zr (fun h=>?_) (fun h=>?_)<;>simp only[h,Qh,QB,eE,seval])|(refine Zs (fun h=>?_) (fun h=>?_)<;>simp only[h,Qh,QB,eE,seval]))
 all_goals(simp only[*,QHr,Bool.or_true,QHE]at e;simp only[e])

def FuI (s:List UInt8)(k:Nat)(st:St):Prop :=
 ∃f i p,st=⟨f,[Qf],[]⟩∧k=s.length-i∧i≤s.length∧p.length≤i∧(∀c∈p,c≠(46:UInt8))∧(Qg s).all QZ=(Qg (p++s.drop i)).all QZ∧f 0=.str s∧f 3=.str p∧f 4=.int .i64 (i:Nat)

theorem z61 (s:List UInt8):Qs Tryz.prog 61 [.str s] (.bool (decide (s.length≤120)&&(Qg s).all QZ)):=by
 refine k61.fn (by simp) ?_;simp only[Qa,seval];by_cases hm:s.length≤120
 case neg=>
  have d1:decide ((s.length:Int) > 120)=true:=QHA (by omega);simp only[d1,QHt hm,QHd,Qa,seval]
 have d1:decide ((s.length:Int) > 120)=false:=QHt (by omega);simp only[d1,QHA hm,QHp,Qa,seval];refine Qd (FuI s) _ ⟨_,0,[],rfl,rfl,QFZ _,QFQ _,by simp,rfl,(by rfl),(by rfl),(by rfl)⟩ ?_;rintro _ st ⟨f,i,p,rfl,rfl,hi,hpl,hpd,hx,h0,h3,h4⟩;simp only[h0,h4,Qa,seval];by_cases hlt:i<s.length
 ·obtain⟨c,hc⟩:∃c,s[i]? = some c:=⟨s[i],QFT hlt⟩;have e1:=Qo i _ hlt (by simp only[maxLen];omega);have hd:s.drop i=c :: s.drop (i+1):=by
   rw[QGx hlt];congr 1
   exact(QFS.1 hc).2
  have hts:(s.drop i).take (i+1-i)=[c]:=by
   rw[hd,show i+1-i=1 by omega];rfl
  simp only[QC hlt,Qi,QHa,hc,h0,h4,Qa,seval];by_cases hdot:c=46
  ·subst hdot;have b0:((((46:UInt8).toNat:Nat):Int) != 46)=false:=rfl;have hs:(Qg s).all QZ=(QZ p&&(Qg (s.drop (i+1))).all QZ):=by
    rw[hx,hd,UO hpd];rfl
   simp only[h3,Qa,seval];refine aC (z64 p) ?_;cases hp:QZ p
   ·rw[hp,QHd]at hs;simp only[hs,QGR,Qa,seval]
   ·rw[hp,QHp]at hs;simp only[h4,e1,QHq,Qa,seval];exact⟨s.length-(i+1),by omega,_,i+1,[],rfl,rfl,by omega,QFZ _,by simp,by rw[hs];rfl,(by exact h0),(by rfl),(by rfl)⟩
  ·have b0:(((c.toNat:Nat):Int) != 46)=true:=by
    rw[QGj];intro h
    apply hdot
    rw[←UInt8.toNat_inj];have:c.toNat=46:=by omega
    rw[this];rfl
   have hle:(i≤i+1∧i+1≤s.length)=True:=eq_true ⟨by omega,by omega⟩;have hsum:(p.length≤9223372036854775806)=True:=eq_true (by omega);simp only[b0,h0,h3,h4,e1,J0,ZL,Xr,Qi,QHa,hle,hts,QB,hsum,Qa,seval];exact⟨s.length-(i+1),by omega,_,i+1,p++[c],rfl,rfl,by omega,by simp;omega,fun x hx=>by
    rcases QG0.1 hx with h|h
    ·exact hpd x h
    ·simp at h;subst h;exact hdot,by rw[hx,hd];simp,(by exact h0),(by rfl),(by rfl)⟩
 ·have hx':(Qg s).all QZ=QZ p:=by
   rw[hx,QGr (by omega),QGM,KG hpd];simp
  simp only[QG hlt,h3,hx',Qa,seval];refine aC (z64 p) ?_;simp only[Qa,seval]

def KP (s:List UInt8):Nat→Option Nat
 |0=>none
 |j+1=>if s[j]? = some 46 then some j else KP s j

theorem WZ (s:List UInt8):∀n,match KP s n with
  |none=>∀k,k<n→s[k]?≠some 46
  |some j=>j<n∧s[j]? = some 46∧∀k,j<k→k<n→s[k]?≠some 46
 |0=>by simp[KP]
 |n+1=>by
  unfold KP;split
  ·rename_i h;split at h
   ·cases h
   ·rename_i h';have:=WZ s n;rw[h]at this;intro k hk;rcases QHv.1 hk with h1|rfl
    ·exact this k h1
    ·exact h'
  ·rename_i j h;split at h
   ·rename_i h';cases h;exact⟨by omega,h',fun k h1 h2=>by omega⟩
   ·rename_i h';have:=WZ s n;rw[h]at this;exact⟨by omega,this.2.1,fun k h1 h2=>by
     rcases QHv.1 h2 with h3|rfl
     ·exact this.2.2 k h1 h3
     ·exact h'⟩

def ZB (s:List UInt8):List UInt8×List UInt8:=match KP s s.length with
 |none=>([],s)
 |some j=>(s.take j,s.drop (j+1))

theorem DR (s:List UInt8):((ZB s).1=[]∧(ZB s).2=s∧∀c∈s,c≠46)∨(s=(ZB s).1++46 :: (ZB s).2∧∀c∈(ZB s).2,c≠46):=by
 have h:=WZ s s.length;unfold ZB;cases hl:KP s s.length with
 |none=>
  rw[hl]at h;refine .inl ⟨rfl,rfl,fun c hc e=>?_⟩;subst e;obtain⟨k,hk⟩:=QF2.1 hc;exact h k (QFS.1 hk).1 hk
 |some j=>
  rw[hl]at h;obtain⟨h1,h2,h3⟩:=h;refine .inr ⟨?_,fun c hc e=>?_⟩
  ·have:s[j]=46:=(QFS.1 h2).2;show s=s.take j++46 :: s.drop (j+1);rw[←this,←QGx h1,QGY]
  ·subst e;obtain⟨k,hk⟩:=QF2.1 hc;rw[QGu]at hk;exact h3 (j+1+k) (by omega) (QFS.1 hk).1 hk

def SdI (s:List UInt8)(k:Nat)(st:St):Prop :=
 ∃f,st=⟨f,[Qf],[]⟩∧k≤s.length∧KP s s.length=KP s k∧f 0=.str s∧f 4=.int .i64 ((k:Int)-1)

theorem z62 (s:List UInt8)(hs:s.length≤120):Qs Tryz.prog 62 [.str s] (.tup [.str (ZB s).1,.str (ZB s).2]):=by
 refine k62.fn (by simp) ?_;have w0:IntKind.i64.wrap ((s.length:Int)-1)=(s.length:Int)-1:=by rw[ZM];omega
 simp only[w0,Qa,seval];refine Qd (SdI s) _ ⟨_,rfl,QFQ _,rfl,(by rfl),(by rfl)⟩ ?_;rintro k st ⟨f,rfl,hk,hx,h0,h4⟩;simp only[h4,Qa,seval];cases k with
 |zero=>
  have d0:decide (((0:Nat):Int)-1≥0)=false:=rfl;have e:ZB s=([],s):=by unfold ZB;rw[hx];rfl
  simp only[e,h0,Qa,seval]
 |succ j=>
  have j1:((j+1:Nat):Int)-1=(j:Int):=by omega
  have d0:decide (((j:Nat):Int)≥0)=true:=QHA (by omega);have w1:IntKind.i64.wrap ((j:Int)-1)=(j:Int)-1:=by rw[ZM];omega
  have w2:IntKind.i64.wrap ((j:Int)+1)=((j+1:Nat):Int):=by rw[ZM];omega
  obtain⟨c,hc⟩:∃c,s[j]? = some c:=⟨s[j]'(by omega),QFT (by omega)⟩;simp only[j1,Qi,QHa,hc,h0,h4,Qa,seval];by_cases hdot:c=46
  ·subst hdot;have b0:((((46:UInt8).toNat:Nat):Int)==46)=true:=rfl;have e:ZB s=(s.take j,s.drop (j+1)):=by
    unfold ZB;rw[hx];show(match (if s[j]? = some 46 then some j else KP s j)with|none=>([],s)|some j=>(s.take j,s.drop (j+1)))=_;rw[QFY hc]
   have hle:(0≤j∧j≤s.length)=True:=eq_true ⟨by omega,by omega⟩;have hle2:(j+1≤s.length∧s.length≤s.length)=True:=eq_true ⟨by omega,QFQ _⟩;have ht:((s.drop 0).take j)=s.take j:=by simp
   have ht2:((s.drop (j+1)).take (s.length-(j+1)))=s.drop (j+1):=QGo (by simp);simp only[w2,j1,e,J0,ZL,Xr,QGH,Qi,QHa,hle,hle2,ht2,h0,h4,Qa,seval]
  ·have b0:(((c.toNat:Nat):Int)==46)=false:=by
    rw[QHC];intro h
    apply hdot
    rw[←UInt8.toNat_inj];have:c.toNat=46:=by omega
    rw[this];rfl
   have hne:¬s[j]? = some 46:=fun h=>by rw[hc]at h;cases h;exact hdot rfl
   simp only[b0,j1,w1,h4,Qa,seval];exact⟨j,by omega,_,rfl,by omega,by rw[hx];show(if s[j]? = some 46 then some j else KP s j)=_;rw[QFX hne],(by exact h0),(by rfl)⟩

def MA (u:List UInt8):Bool:=if u=[]then false else(Qg u).any Zd

theorem Qn6 (s:List UInt8)(hs:s.length≤17592186044000):Qs Tryz.prog 145 [.str s,.str [46]] (.list ((Qg s).map Qk)):=by
 refine QfE.fn (by simp) ?_;simp only[Qa,seval];refine aC (QAD s hs) ?_;simp only[Qa,seval]

def IfI (s:List UInt8)(k:Nat)(st:St):Prop :=
 ∃f i,st=⟨f,[Qf],[]⟩∧k=(Qg s).length-i∧((Qg s).take i).all QZ=true∧f 0=.str s∧f 6=.list ((Qg s).map Qk)∧f 7=.int .i64 ((Qg s).length:Nat)∧f 8=.int .i64 (i:Nat)

theorem QAE (s:List UInt8)(hs:s.length≤17592186044000):Qs Tryz.prog 144 [.str s] (.bool (decide (s.length≤120)&&(Qg s).all QZ)):=by
 have hl:=WY s;have hc:s.count 46≤s.length:=List.count_le_length;refine Qfz.fn (by simp) ?_;simp only[Qa,seval];refine aC (Qn6 s hs) ?_;simp only[QG7,Qa,seval];refine Qd (IfI s) _ ⟨_,0,rfl,rfl,rfl,(by rfl),(by rfl),(by rfl),(by rfl)⟩ ?_;rintro _ st ⟨f,i,rfl,rfl,hx,h0,h6,h7,h8⟩;simp only[h7,h8,Qa,seval];by_cases hlt:i<(Qg s).length
 ·obtain⟨x,hi⟩:∃x,(Qg s)[i]? = some x:=⟨(Qg s)[i],QFT hlt⟩;have hg:((Qg s).map Qk)[i]? = some (.str x):=by simp[hi,Qk]
  have e1:=Qo i _ hlt (by simp only[maxLen];omega);have ht:=PX (q:=QZ) hi;rw[hx,QHp]at ht;simp only[QC hlt,Qi,QHa,Qc,hg,h6,h8,eE,seval];refine aC (Qn3 x) ?_;cases hp:QZ x
  ·have hf:(Qg s).all QZ=false:=by
    rw[QHw];intro h';rw[QF3.1 h' x (QF4 hi)]at hp;cases hp
   simp only[hf,QGR,QHD,Qa,seval]
  ·rw[hp]at ht;simp only[h8,e1,QHq,Qa,seval];exact⟨(Qg s).length-(i+1),by omega,_,i+1,rfl,rfl,ht,(by exact h0),(by exact h6),(by exact h7),(by rfl)⟩
 ·rw[QGo (by omega)]at hx;have e:decide ((s.length:Int)≤120)=decide (s.length≤120):=by rw[decide_eq_decide];omega
  simp only[QG hlt,h0,hx,e,QGX,Qa,seval]

theorem QwJ (s:List UInt8)(m:Ql):Qn Tryz.prog 146 [Qk s] m fun y m1=>y=.bool (Zd s)∧m1=m:=by
 refine PT.go (by simp) ?_;simp only[Qk,QB,Qa,seval];have e:Zd s=Wn.any fun w=>s==w:=rfl
 simp only[Wn,List.any_cons,List.any_nil,QHE]at e
 repeat' (first|(refine XR (fun h=>?_) (fun h=>?_)<;>simp only[h,QB,Qa,seval])|(refine Zr (fun h=>?_) (fun h=>?_)<;>simp only[h,Qh,QB,eE,seval])|(refine Zs (fun h=>?_) (fun h=>?_)<;>simp only[h,Qh,QB,eE,seval]))
 all_goals(simp only[*,QHr,Bool.or_true,QHE]at e;simp only[e])

section
variable (m:Ql)

end

section
variable {M:Nat}(P:PL)(hP:P.ok M)(hM:M≤17592186044000)
include hP hM

end

theorem Gd (n c:Nat):AV.shN n (.fn (.func c) [] [])=.fn (.func c) [] []:=by
 induction n with
 |zero=>rfl
 |succ n ih=>rw[AV.shN,ih];rfl

section
variable (L:List PO)(hl:L.length≤maxLen)(nm:PO→List UInt8)(c:Nat)(m:Ql)

end

section
variable (L:List PI)(hl:L.length≤maxLen)(nm:PI→List UInt8)(c:Nat)(m:Ql)

end

section
variable {M:Nat}(P:PL)(hP:P.ok M)
include hP

end

theorem QAF (x:PS)(n:Int)(fr:Nat→Ob)(m:Ql)(h3:fr 3=.cells [.int .i64 n]):Qn Tryz.prog 160 [QU x,.ptr 2 3 0] (Qf :: Qf :: fr :: m) fun y m1=>y=.bool (decide (x.lo≤n)&&decide (n≤x.hi))∧m1=Qf :: Qf :: fr :: m:=by
 refine QhD.go (by simp) ?_;simp only[QU,PS.cells,h3,eE,seval];cases h:decide (x.lo≤n)<;>simp only[h3,QHp,QHd,eE,seval]

theorem Qn7 (L:List PS)(hl:L.length≤maxLen)(n:Int):Qs Tryz.prog 131 [.list (L.map QU),.int .i64 n] (.bool (kept L n)):=by
 refine Qd1.fn (by simp) ?_;simp only[eE,seval];refine Qb (QAv L hl (fun x=>decide (x.lo≤n)&&decide (n≤x.hi)) 160 [.ptr 0 3 0] _ fun o _=>QAF o n _ _ (by rfl)) (by simp only[QGn,QGK,Qa,seval]<;>rfl) ?_;simp only[kept,Qa,seval]

end Go.Proofs.YtnpajgoobomndaaGreatDoor.Va

namespace Go.Proofs.YtnpajgoobomndaaGreatDoor.Va
open Go Am Rc Bt

def bt (s:List UInt8)(i lo hi:Nat):Bool :=
 match s[i]? with
 |some b=>decide (lo≤b.toNat)&&decide (b.toNat≤hi)
 |none=>false
def tl (s:List UInt8):Nat→Nat→Bool
 |_,0=>true
 |i,n+1=>bt s i 128 191&&tl s (i+1) n
def HI (s:List UInt8)(i b:Nat):Nat :=
 if b<128 then 1
 else if 194≤b∧b≤223∧tl s (i+1) 1=true then 2
 else if b=224∧bt s (i+1) 160 191=true∧tl s (i+2) 1=true then 3
 else if b=237∧bt s (i+1) 128 159=true∧tl s (i+2) 1=true then 3
 else if 225≤b∧b≤239∧b≠237∧tl s (i+1) 2=true then 3
 else if b=240∧bt s (i+1) 144 191=true∧tl s (i+2) 2=true then 4
 else if 241≤b∧b≤243∧tl s (i+1) 3=true then 4
 else if b=244∧bt s (i+1) 128 143=true∧tl s (i+2) 2=true then 4
 else 0
def sz (s:List UInt8)(i:Nat):Nat :=
 match s[i]? with
 |none=>0
 |some c=>HI s i c.toNat
def ZC (s:List UInt8):Nat→Nat→Int
 |0,_=>-1
 |k+1,i=>if i<s.length then(if sz s i=0 then(i:Int)else ZC s k (i+sz s i))else -1
def ZR (s:List UInt8):Bool:=decide (ZC s s.length 0<0)

theorem QAG (c:UInt8)(n:Nat):decide ((c.toNat:Int)≥(n:Int))=decide (n≤c.toNat):=by simp
theorem QAH (c:UInt8)(n:Nat):decide ((c.toNat:Int)≤(n:Int))=decide (c.toNat≤n):=by simp

theorem DS (s:List UInt8)(i lo hi:Nat):Qs Tryz.prog 116 [.str s,.int .i64 (i:Nat),.int .u8 (lo:Nat),.int .u8 (hi:Nat)] (.bool (bt s i lo hi)):=by
 refine QAf.fn (by simp) ?_;by_cases hlt:i<s.length
 ·obtain⟨c,hc⟩:∃c,s[i]? = some c:=⟨s[i],QFT hlt⟩;have hb:bt s i lo hi=(decide (lo≤c.toNat)&&decide (c.toNat≤hi)):=by simp only[bt,hc]
  simp only[QC hlt,Qi,QHa,hc,QAG,Qa,seval];by_cases h1:lo≤c.toNat
  ·have d1:decide (lo≤c.toNat)=true:=by simpa using h1
   simp only[d1,Qi,QHa,hc,hb,QAH,QHp,Qa,seval]
  ·have d1:decide (lo≤c.toNat)=false:=by simpa using h1
   simp only[d1,hb,QHd,Qa,seval]
 ·have hb:bt s i lo hi=false:=by simp only[bt,QG6 (Nat.le_of_not_lt hlt)]
  simp only[QG hlt,hb,Qa,seval]

def QwK (s:List UInt8)(i n:Nat)(k:Nat)(st:St):Prop :=
 ∃f j,st=⟨f,[Qf],[]⟩∧k=n-j∧j≤n∧tl s i n=tl s (i+j) (n-j)∧f 0=.str s∧f 1=.int .i64 (i:Nat)∧f 2=.int .i64 (n:Nat)∧f 7=.int .i64 (j:Nat)

theorem Z9 (a b:Nat)(h:a+b≤maxLen):IntKind.i64.wrap ((a:Int)+(b:Int))=((a+b:Nat):Int):=by
 simp only[maxLen]at h;rw[ZM];omega

theorem YL (s:List UInt8)(i n:Nat)(hi:i+n≤maxLen):Qs Tryz.prog 115 [.str s,.int .i64 (i:Nat),.int .i64 (n:Nat)] (.bool (tl s i n)):=by
 refine QAc.fn (by simp) ?_;simp only[Qa,seval];refine Qd (QwK s i n) _ ⟨_,0,rfl,rfl,QFZ _,rfl,rfl,rfl,rfl,rfl⟩ ?_;rintro _ st ⟨f,j,rfl,rfl,hj,ht,h0,h1,h2,h7⟩;simp only[h2,h7,Qa,seval];by_cases hlt:j<n
 ·have e0:=Z9 i j (by omega);have e1:=Qo j _ hlt (by omega);simp only[QC hlt,h0,h1,h7,e0,Qa,seval];refine aC (DS s (i+j) 128 191) ?_;have hs:tl s i n=(bt s (i+j) 128 191&&tl s (i+(j+1)) (n-(j+1))):=by
   rw[ht];obtain⟨m,hm⟩:∃m,n-j=m+1:=⟨n-j-1,by omega⟩;rw[hm,show n-(j+1)=m by omega];rfl
  cases hb:bt s (i+j) 128 191
  ·rw[hb]at hs;simp only[hs,QHd,Qa,seval]
  ·rw[hb,QHp]at hs;simp only[h7,e1,Qa,seval];exact⟨n-(j+1),by omega,_,j+1,rfl,rfl,by omega,hs,(by exact h0),(by exact h1),(by exact h2),(by rfl)⟩
 ·have hs:tl s i n=true:=by
   rw[ht,show n-j=0 by omega];rfl
  simp only[QG hlt,hs,Qa,seval]

def DT (s:List UInt8)(i:Nat)(c:UInt8)(D:Nat)(cond:Prop)(g:List Am.Item):Prop :=
 ∀Q:St→Prop,(∀f' B,(B=true↔cond)→f' 0=.str s→f' 1=.int .i64 (i:Nat)→f' 5=.int .u8 (c.toNat:Nat)→f' D=.bool B→Q ⟨f',[Qf],[]⟩)→
  ∀f,f 0=.str s→f 1=.int .i64 (i:Nat)→f 5=.int .u8 (c.toNat:Nat)→Qj Tryz.prog g ⟨f,[Qf],[]⟩ Q

section
variable {s:List UInt8}{i:Nat}{c:UInt8}(hi:i<s.length)(hs:s.length+8≤maxLen)
include hi hs

theorem QAI:DT s i c 12 (194≤c.toNat∧c.toNat≤223∧tl s (i+1) 1=true) Nv:=by
 intro Q hQ f h0 h1 h5;have e1:IntKind.i64.wrap ((i:Int)+1)=((i+1:Nat):Int):=Z9 i 1 (by omega);have e2:IntKind.i64.wrap ((i:Int)+2)=((i+2:Nat):Int):=Z9 i 2 (by omega);simp only[Nv,h5,Qa,seval]
 repeat' (first|(refine XR (fun h=>?_) (fun h=>?_)<;>simp only[h,h0,h1,h5,e1,e2,eE,seval])|(refine Zr (fun h=>?_) (fun h=>?_)<;>simp only[h,Qh,h0,h1,h5,e1,Qa,seval])|(refine Zs (fun h=>?_) (fun h=>?_)<;>simp only[h,Qh,h0,h1,h5,e1,e2,eE,seval])|((with_reducible apply Xh (k:=115));(case hy=>rfl);(case h1=>rfl);(case hk=>exact YL s (i+1) 1 (by omega));(case h2=>rfl);(case h3=>first|exact .inl rfl|exact .inr rfl);simp only[Qa,seval]))
 all_goals(refine hQ _ _ ?_ (by exact h0) (by exact h1) (by exact h5) rfl)
 all_goals simp only[QG4,QHB]at *
 all_goals
  constructor
  ·intro hh
   first
    |cases hh
    |(refine⟨by omega,?_⟩;first|exact hh|(refine⟨by omega,?_⟩;first|exact hh|(refine⟨by omega,?_⟩;exact hh))|exact⟨by assumption,hh⟩)
  ·intro hh
   first
    |exact hh.2.2.2
    |exact hh.2.2
    |(exfalso;omega)
    |(exfalso;simp_all;done)

theorem QAJ:DT s i c 25 (c.toNat=224∧bt s (i+1) 160 191=true∧tl s (i+2) 1=true) Nw:=by
 intro Q hQ f h0 h1 h5;have e1:IntKind.i64.wrap ((i:Int)+1)=((i+1:Nat):Int):=Z9 i 1 (by omega);have e2:IntKind.i64.wrap ((i:Int)+2)=((i+2:Nat):Int):=Z9 i 2 (by omega);simp only[Nw,h5,Qa,seval]
 repeat' (first|(refine XR (fun h=>?_) (fun h=>?_)<;>simp only[h,h0,h1,h5,e1,e2,eE,seval])|(refine Zr (fun h=>?_) (fun h=>?_)<;>simp only[h,Qh,h0,h1,e1,e2,Qa,seval])|(refine Zs (fun h=>?_) (fun h=>?_)<;>simp only[h,Qh,h0,h1,h5,e1,e2,eE,seval])|((with_reducible apply Xh (k:=116));(case hy=>rfl);(case h1=>rfl);(case hk=>exact DS s (i+1) 160 191);(case h2=>rfl);(case h3=>first|exact .inl rfl|exact .inr rfl);simp only[Qa,seval])|((with_reducible apply Xh (k:=115));(case hy=>rfl);(case h1=>rfl);(case hk=>exact YL s (i+2) 1 (by omega));(case h2=>rfl);(case h3=>first|exact .inl rfl|exact .inr rfl);simp only[Qa,seval]))
 all_goals(refine hQ _ _ ?_ (by exact h0) (by exact h1) (by exact h5) rfl)
 all_goals simp only[QGe,QHC,ne_eq]at *
 all_goals
  constructor
  ·intro hh
   first
    |cases hh
    |(refine⟨by omega,?_⟩;first|exact hh|(refine⟨by omega,?_⟩;first|exact hh|(refine⟨by omega,?_⟩;exact hh))|exact⟨by assumption,hh⟩)
  ·intro hh
   first
    |exact hh.2.2.2
    |exact hh.2.2
    |(exfalso;omega)
    |(exfalso;simp_all;done)

theorem QAK:DT s i c 40 (c.toNat=237∧bt s (i+1) 128 159=true∧tl s (i+2) 1=true) Nx:=by
 intro Q hQ f h0 h1 h5;have e1:IntKind.i64.wrap ((i:Int)+1)=((i+1:Nat):Int):=Z9 i 1 (by omega);have e2:IntKind.i64.wrap ((i:Int)+2)=((i+2:Nat):Int):=Z9 i 2 (by omega);simp only[Nx,h5,Qa,seval]
 repeat' (first|(refine XR (fun h=>?_) (fun h=>?_)<;>simp only[h,h0,h1,h5,e1,e2,eE,seval])|(refine Zr (fun h=>?_) (fun h=>?_)<;>simp only[h,Qh,h0,h1,e1,e2,Qa,seval])|(refine Zs (fun h=>?_) (fun h=>?_)<;>simp only[h,Qh,h0,h1,h5,e1,e2,eE,seval])|((with_reducible apply Xh (k:=116));(case hy=>rfl);(case h1=>rfl);(case hk=>exact DS s (i+1) 128 159);(case h2=>rfl);(case h3=>first|exact .inl rfl|exact .inr rfl);simp only[Qa,seval])|((with_reducible apply Xh (k:=115));(case hy=>rfl);(case h1=>rfl);(case hk=>exact YL s (i+2) 1 (by omega));(case h2=>rfl);(case h3=>first|exact .inl rfl|exact .inr rfl);simp only[Qa,seval]))
 all_goals(refine hQ _ _ ?_ (by exact h0) (by exact h1) (by exact h5) rfl)
 all_goals simp only[QGe,QHC,ne_eq]at *
 all_goals
  constructor
  ·intro hh
   first
    |cases hh
    |(refine⟨by omega,?_⟩;first|exact hh|(refine⟨by omega,?_⟩;first|exact hh|(refine⟨by omega,?_⟩;exact hh))|exact⟨by assumption,hh⟩)
  ·intro hh
   first
    |exact hh.2.2.2
    |exact hh.2.2
    |(exfalso;omega)
    |(exfalso;simp_all;done)

theorem QwL:DT s i c 55 (225≤c.toNat∧c.toNat≤239∧c.toNat≠237∧tl s (i+1) 2=true) DH:=by
 intro Q hQ f h0 h1 h5;have e1:IntKind.i64.wrap ((i:Int)+1)=((i+1:Nat):Int):=Z9 i 1 (by omega);have e2:IntKind.i64.wrap ((i:Int)+2)=((i+2:Nat):Int):=Z9 i 2 (by omega);simp only[DH,h5,Qa,seval]
 repeat' (first|(refine XR (fun h=>?_) (fun h=>?_)<;>simp only[h,h0,h1,h5,e1,e2,eE,seval])|(refine Zr (fun h=>?_) (fun h=>?_)<;>simp only[h,Qh,h0,h1,h5,e1,Qa,seval])|(refine Zs (fun h=>?_) (fun h=>?_)<;>simp only[h,Qh,h0,h1,h5,e1,e2,eE,seval])|((with_reducible apply Xh (k:=115));(case hy=>rfl);(case h1=>rfl);(case hk=>exact YL s (i+1) 2 (by omega));(case h2=>rfl);(case h3=>first|exact .inl rfl|exact .inr rfl);simp only[Qa,seval]))
 all_goals(refine hQ _ _ ?_ (by exact h0) (by exact h1) (by exact h5) rfl)
 all_goals simp only[QG4,QHB,QGj,bne_eq_false_iff_eq,ne_eq]at *
 all_goals
  constructor
  ·intro hh
   first
    |cases hh
    |(refine⟨by omega,?_⟩;first|exact hh|(refine⟨by omega,?_⟩;first|exact hh|(refine⟨by omega,?_⟩;exact hh))|exact⟨by assumption,hh⟩)
  ·intro hh
   first
    |exact hh.2.2.2
    |exact hh.2.2
    |(exfalso;omega)
    |(exfalso;simp_all;done)

theorem QwM:DT s i c 72 (c.toNat=240∧bt s (i+1) 144 191=true∧tl s (i+2) 2=true) DI:=by
 intro Q hQ f h0 h1 h5;have e1:IntKind.i64.wrap ((i:Int)+1)=((i+1:Nat):Int):=Z9 i 1 (by omega);have e2:IntKind.i64.wrap ((i:Int)+2)=((i+2:Nat):Int):=Z9 i 2 (by omega);simp only[DI,h5,Qa,seval]
 repeat' (first|(refine XR (fun h=>?_) (fun h=>?_)<;>simp only[h,h0,h1,h5,e1,e2,eE,seval])|(refine Zr (fun h=>?_) (fun h=>?_)<;>simp only[h,Qh,h0,h1,e1,e2,Qa,seval])|(refine Zs (fun h=>?_) (fun h=>?_)<;>simp only[h,Qh,h0,h1,h5,e1,e2,eE,seval])|((with_reducible apply Xh (k:=116));(case hy=>rfl);(case h1=>rfl);(case hk=>exact DS s (i+1) 144 191);(case h2=>rfl);(case h3=>first|exact .inl rfl|exact .inr rfl);simp only[Qa,seval])|((with_reducible apply Xh (k:=115));(case hy=>rfl);(case h1=>rfl);(case hk=>exact YL s (i+2) 2 (by omega));(case h2=>rfl);(case h3=>first|exact .inl rfl|exact .inr rfl);simp only[Qa,seval]))
 all_goals(refine hQ _ _ ?_ (by exact h0) (by exact h1) (by exact h5) rfl)
 all_goals simp only[QGe,QHC,ne_eq]at *
 all_goals
  constructor
  ·intro hh
   first
    |cases hh
    |(refine⟨by omega,?_⟩;first|exact hh|(refine⟨by omega,?_⟩;first|exact hh|(refine⟨by omega,?_⟩;exact hh))|exact⟨by assumption,hh⟩)
  ·intro hh
   first
    |exact hh.2.2.2
    |exact hh.2.2
    |(exfalso;omega)
    |(exfalso;simp_all;done)

theorem QwN:DT s i c 87 (241≤c.toNat∧c.toNat≤243∧tl s (i+1) 3=true) DJ:=by
 intro Q hQ f h0 h1 h5;have e1:IntKind.i64.wrap ((i:Int)+1)=((i+1:Nat):Int):=Z9 i 1 (by omega);have e2:IntKind.i64.wrap ((i:Int)+2)=((i+2:Nat):Int):=Z9 i 2 (by omega);simp only[DJ,h5,Qa,seval]
 repeat' (first|(refine XR (fun h=>?_) (fun h=>?_)<;>simp only[h,h0,h1,h5,e1,e2,eE,seval])|(refine Zr (fun h=>?_) (fun h=>?_)<;>simp only[h,Qh,h0,h1,h5,e1,Qa,seval])|(refine Zs (fun h=>?_) (fun h=>?_)<;>simp only[h,Qh,h0,h1,h5,e1,e2,eE,seval])|((with_reducible apply Xh (k:=115));(case hy=>rfl);(case h1=>rfl);(case hk=>exact YL s (i+1) 3 (by omega));(case h2=>rfl);(case h3=>first|exact .inl rfl|exact .inr rfl);simp only[Qa,seval]))
 all_goals(refine hQ _ _ ?_ (by exact h0) (by exact h1) (by exact h5) rfl)
 all_goals simp only[QG4,QHB]at *
 all_goals
  constructor
  ·intro hh
   first
    |cases hh
    |(refine⟨by omega,?_⟩;first|exact hh|(refine⟨by omega,?_⟩;first|exact hh|(refine⟨by omega,?_⟩;exact hh))|exact⟨by assumption,hh⟩)
  ·intro hh
   first
    |exact hh.2.2.2
    |exact hh.2.2
    |(exfalso;omega)
    |(exfalso;simp_all;done)

theorem QwO:DT s i c 100 (c.toNat=244∧bt s (i+1) 128 143=true∧tl s (i+2) 2=true) DK:=by
 intro Q hQ f h0 h1 h5;have e1:IntKind.i64.wrap ((i:Int)+1)=((i+1:Nat):Int):=Z9 i 1 (by omega);have e2:IntKind.i64.wrap ((i:Int)+2)=((i+2:Nat):Int):=Z9 i 2 (by omega);simp only[DK,h5,Qa,seval]
 repeat' (first|(refine XR (fun h=>?_) (fun h=>?_)<;>simp only[h,h0,h1,h5,e1,e2,eE,seval])|(refine Zr (fun h=>?_) (fun h=>?_)<;>simp only[h,Qh,h0,h1,e1,e2,Qa,seval])|(refine Zs (fun h=>?_) (fun h=>?_)<;>simp only[h,Qh,h0,h1,h5,e1,e2,eE,seval])|((with_reducible apply Xh (k:=116));(case hy=>rfl);(case h1=>rfl);(case hk=>exact DS s (i+1) 128 143);(case h2=>rfl);(case h3=>first|exact .inl rfl|exact .inr rfl);simp only[Qa,seval])|((with_reducible apply Xh (k:=115));(case hy=>rfl);(case h1=>rfl);(case hk=>exact YL s (i+2) 2 (by omega));(case h2=>rfl);(case h3=>first|exact .inl rfl|exact .inr rfl);simp only[Qa,seval]))
 all_goals(refine hQ _ _ ?_ (by exact h0) (by exact h1) (by exact h5) rfl)
 all_goals simp only[QGe,QHC,ne_eq]at *
 all_goals
  constructor
  ·intro hh
   first
    |cases hh
    |(refine⟨by omega,?_⟩;first|exact hh|(refine⟨by omega,?_⟩;first|exact hh|(refine⟨by omega,?_⟩;exact hh))|exact⟨by assumption,hh⟩)
  ·intro hh
   first
    |exact hh.2.2.2
    |exact hh.2.2
    |(exfalso;omega)
    |(exfalso;simp_all;done)

end

theorem c96 (s:List UInt8)(i:Nat)(hi:i<s.length)(hs:s.length+8≤maxLen):Qs Tryz.prog 96 [.str s,.int .i64 (i:Nat)] (.int .i64 (sz s i:Nat)):=by
 refine k96.fn (by simp) ?_;obtain⟨c,hc⟩:∃c,s[i]? = some c:=⟨s[i],QFT hi⟩;have hz:sz s i=HI s i c.toNat:=by simp only[sz,hc]
 unfold HI at hz;simp only[Ao,Ap,Aq,Ar,As,Au,Av,Ml,Mm,Mn,Mo,Mp,r96,o96,Qi,QHa,hc,Qa,seval];refine XR (fun h=>?_) (fun h=>?_)
 ·have h:c.toNat<128:=by simp at h;omega
  rw[hz,QFY h];simp only[Qa,seval]
  try rfl
 have h:¬c.toNat<128:=by simp at h;omega
 rw[hz,QFX h];simp only[Qa,seval];refine QAI hi hs _ (fun f B hB h0 h1 h5 hd=>?_) _ (by rfl) (by rfl) (by rfl);by_cases hB1:B=true
 ·rw[QFY (hB.1 hB1)];subst hB1;simp only[hd,Qa,seval]
  try rfl
 rw[QFX (fun hh=>hB1 (hB.2 hh))];have hB2:B=false:=by simpa using hB1
 subst hB2;simp only[hd,Qa,seval];refine QAJ hi hs _ (fun f B hB h0 h1 h5 hd=>?_) _ (by exact h0) (by exact h1) (by exact h5);by_cases hB1:B=true
 ·rw[QFY (hB.1 hB1)];subst hB1;simp only[hd,Qa,seval]
  try rfl
 rw[QFX (fun hh=>hB1 (hB.2 hh))];have hB2:B=false:=by simpa using hB1
 subst hB2;simp only[hd,Qa,seval];refine QAK hi hs _ (fun f B hB h0 h1 h5 hd=>?_) _ (by exact h0) (by exact h1) (by exact h5);by_cases hB1:B=true
 ·rw[QFY (hB.1 hB1)];subst hB1;simp only[hd,Qa,seval]
  try rfl
 rw[QFX (fun hh=>hB1 (hB.2 hh))];have hB2:B=false:=by simpa using hB1
 subst hB2;simp only[hd,Qa,seval];refine QwL hi hs _ (fun f B hB h0 h1 h5 hd=>?_) _ (by exact h0) (by exact h1) (by exact h5);by_cases hB1:B=true
 ·rw[QFY (hB.1 hB1)];subst hB1;simp only[hd,Qa,seval]
  try rfl
 rw[QFX (fun hh=>hB1 (hB.2 hh))];have hB2:B=false:=by simpa using hB1
 subst hB2;simp only[hd,Qa,seval];refine QwM hi hs _ (fun f B hB h0 h1 h5 hd=>?_) _ (by exact h0) (by exact h1) (by exact h5);by_cases hB1:B=true
 ·rw[QFY (hB.1 hB1)];subst hB1;simp only[hd,Qa,seval]
  try rfl
 rw[QFX (fun hh=>hB1 (hB.2 hh))];have hB2:B=false:=by simpa using hB1
 subst hB2;simp only[hd,Qa,seval];refine QwN hi hs _ (fun f B hB h0 h1 h5 hd=>?_) _ (by exact h0) (by exact h1) (by exact h5);by_cases hB1:B=true
 ·rw[QFY (hB.1 hB1)];subst hB1;simp only[hd,Qa,seval]
  try rfl
 rw[QFX (fun hh=>hB1 (hB.2 hh))];have hB2:B=false:=by simpa using hB1
 subst hB2;simp only[hd,Qa,seval];refine QwO hi hs _ (fun f B hB h0 h1 h5 hd=>?_) _ (by exact h0) (by exact h1) (by exact h5);by_cases hB1:B=true
 ·rw[QFY (hB.1 hB1)];subst hB1;simp only[hd,Qa,seval]
  try rfl
 rw[QFX (fun hh=>hB1 (hB.2 hh))];have hB2:B=false:=by simpa using hB1
 subst hB2;simp only[hd,Qa,seval]
 try rfl

theorem Az (s:List UInt8)(i:Nat)(hi:i<s.length)(_h:sz s i≠0):i+sz s i≤s.length:=by
 have tl1:∀n j,tl s j n=true→n≠0→j+n≤s.length:=by
  intro n
  induction n with
  |zero=>intro j _ h;exact absurd rfl h
  |succ n ih=>
   intro j hj _;simp only[tl,QGd]at hj;have hb:j<s.length:=by
    have h1:=hj.1;unfold bt at h1;split at h1
    ·rename_i b hb;exact(QFS.1 hb).1
    ·cases h1
   by_cases h0:n=0
   ·subst h0;omega
   ·have:=ih (j+1) hj.2 h0;omega
 obtain⟨c,hc⟩:∃c,s[i]? = some c:=⟨s[i],QFT hi⟩;simp only[sz,hc]at _h ⊢;unfold HI at _h ⊢
 (repeat' split)<;>first
  |omega
  |(rename_i hh;have:=tl1 _ _ hh.2.2 (by decide);omega)
  |(rename_i hh;have:=tl1 _ _ hh.2.2.2 (by decide);omega)
  |simp_all

def QAL (s:List UInt8)(k:Nat)(st:St):Prop :=
 ∃f i,st=⟨f,[Qf],[]⟩∧i≤s.length∧s.length-i≤k∧ZC s s.length 0=ZC s k i∧f 0=.str s∧f 3=.int .i64 (i:Nat)

theorem c70 (s:List UInt8)(hs:s.length+8≤maxLen):Qs Tryz.prog 70 [.str s] (.int .i64 (ZC s s.length 0)):=by
 refine k70.fn (by simp) ?_;simp only[Qa,seval];refine Qd (QAL s) s.length ⟨_,0,rfl,QFZ _,QFQ _,rfl,rfl,rfl⟩ ?_;rintro k st ⟨f,i,rfl,hi,hk,hb,h0,h3⟩;simp only[h0,h3,Qa,seval];by_cases hlt:i<s.length
 ·simp only[QC hlt,h0,h3,Qa,seval];refine aC (c96 s i hlt hs) ?_;obtain⟨k,rfl⟩:∃n,k=n+1:=⟨k-1,by omega⟩;have hbk:ZC s (k+1) i=if sz s i=0 then(i:Int)else ZC s k (i+sz s i):=by
   show(if i<s.length then _ else _)=_;rw[QFY hlt]
  by_cases hz:sz s i=0
  ·have b0:((sz s i:Int)==0)=true:=by simp[hz]
   simp only[b0,h3,hb,hbk,QFY hz,Qa,seval]
  ·have b0:((sz s i:Int)==0)=false:=by simp;omega
   have hle:=Az s i hlt hz;have e0:=Z9 i (sz s i) (by omega);simp only[b0,h3,e0,Qa,seval];exact⟨k,by omega,_,i+sz s i,rfl,hle,by omega,by rw[hb,hbk,QFX hz],(by exact h0),(by rfl)⟩
 ·have hbk:ZC s k i = -1:=by
   cases k with
   |zero=>rfl
   |succ k=>
    show(if i<s.length then _ else _)=_;rw[QFX hlt]
  simp only[QG hlt,hb,hbk,Qa,seval]

theorem c46 (s:List UInt8)(hs:s.length+8≤maxLen):Qs Tryz.prog 46 [.str s] (.bool (ZR s)):=by
 refine k46.fn (by simp) ?_;simp only[Qa,seval];refine aC (c70 s hs) ?_;simp only[Qa,seval]
 try rfl

def J6 (s:List UInt8)(i:Nat):Bool:=(s.drop i).take 3==[239,191,189]

theorem QAM (s t:List UInt8):Qs Tryz.prog 192 [.str s,.str t] (.bool (s.take t.length==t)):=by
 refine Qlr.fn (by simp) ?_;by_cases h:t.length≤s.length
 ·have d0:decide ((s.length:Int)≥(t.length:Int))=true:=by simp;omega
  have s1:(0≤t.length∧t.length≤s.length)=True:=by simp;omega
  simp only[d0,Qi,s1,QHa,QB,QGH,QGw,Qa,seval]
 ·have d0:decide ((s.length:Int)≥(t.length:Int))=false:=by simp;omega
  have e0:(s.take t.length==t)=false:=by
   rw[QHC];intro hh;have:=congrArg List.length hh;simp at this;omega
  simp only[d0,e0,Qa,seval]

theorem QAN (s t:List UInt8):Qs Tryz.prog 185 [.str s,.str t] (.bool (s.take t.length==t)):=by
 refine QkX.fn (by simp) ?_;simp only[Qa,seval];refine aC (QAM s t) ?_;simp only[Qa,seval]

theorem QAO (s:List UInt8)(i:Nat)(hi:i≤s.length)(c:Nat):Qs Tryz.prog 174 [.str s,.int .i64 (i:Nat),.int .i32 (c:Nat)] (.bool (decide (c=65533) && !J6 s i)):=by
 refine Qjc.fn (by simp) ?_;by_cases hc:c=65533
 ·have b0:((c:Int)==65533)=true:=by simp[hc]
  have s1:(i≤s.length∧s.length≤s.length)=True:=by simp;omega
  simp only[b0,Qi,s1,QHa,Qa,seval];refine aC (QAN (List.take (s.length-i) (List.drop i s)) [239,191,189]) ?_;have ht:List.take (s.length-i) (List.drop i s)=List.drop i s:=QGo (by simp);simp only[ht,J6,hc,Qa,seval]
 ·have b0:((c:Int)==65533)=false:=by simp;omega
  simp only[b0,hc,Qa,seval];simp

open Vp

theorem Jg (s:List UInt8)(j:Nat)(c:UInt8)(h:s[j]? = some c):(⟨⟨s⟩⟩:ByteArray).get! j=c:=by
 show(⟨s⟩:Array UInt8)[j]! = c;simp[h]

theorem Ha (a:UInt8)(n:Nat)(hn:n<256):(a==UInt8.ofNat n)=decide (a.toNat=n):=by
 rw[QGE,QGe,QG4]
 constructor
 ·rintro rfl;rw[Ys _ hn]
 ·intro h;rw[←UInt8.toNat_inj,Ys _ hn,h]

set_option maxHeartbeats 4000000 in
theorem QAP (s:List UInt8)(i:Nat)(a b c d:UInt8)(t:List UInt8)(hr:s.drop i=a :: b :: c :: d :: t):(decide ((Xl s i).1=65533) && !J6 s i)=decide (sz s i=0)∧(sz s i≠0→(Xl s i).2=sz s i):=by
 have hsz:∀j,(s[i+j]? = (a :: b :: c :: d :: t)[j]?):=fun j=>by rw[←hr,QGu]
 have hn:ByteArray.size ⟨⟨s⟩⟩=s.length:=rfl;have hl:s.length=i+(a :: b :: c :: d :: t).length:=by
  have h:=congrArg List.length hr;simp at h ⊢;omega
 have h0:=hsz 0;have h1:=hsz 1;have h2:=hsz 2;have h3:=hsz 3;simp only[QGm]at h0;have g0:=Jg s i a h0;have g1:=Jg s (i+1) b h1;have g2:=Jg s (i+2) c h2;have g3:=Jg s (i+3) d h3;have l1:(i+1<s.length)=True:=by simp at hl ⊢;omega
 have l2:(i+2<s.length)=True:=by simp at hl ⊢;omega
 have l3:(i+3<s.length)=True:=by simp at hl ⊢;omega
 have wa:=a.toNat_lt;have wb:=b.toNat_lt;have wc:=c.toNat_lt;have wd:=d.toNat_lt;have hrep:J6 s i=(decide (a.toNat=239)&&(decide (b.toNat=191)&&decide (c.toNat=189))):=by
  rw[←Ha a 239 (by decide),←Ha b 191 (by decide),←Ha c 189 (by decide)];simp[J6,hr]
 simp only[QGQ,QGL]at h0 h1 h2 h3;generalize hD:Xl s i=D;generalize hS:sz s i=S;rw[hrep];simp only[Xl,Utf8.decode,Utf8.valid,Utf8.runeError,hn,l1,l2,l3,QGm,g0,g1,g2,g3,sz,h0,HI,tl,bt,QFP,seval,h1,h2,h3,decide_true,QHp,QGX,QGd,QGI,QG4,QGe,ge_iff_le]at hD hS;clear hsz hr hl h0 h1 h2 h3 g0 g1 g2 g3 l1 l2 l3 hrep hn;generalize a.toNat=x at *;generalize b.toNat=y at *;generalize c.toNat=z at *;generalize d.toNat=u at *
 (repeat' split at hD)<;>subst hD<;>(repeat' split at hS)<;>subst hS<;>refine⟨?_,?_⟩<;>(try rw[QGE])<;>(try simp only[QGd,QG4,QGG,QHF,QHB])<;>first|omega|(intro _;rfl)|(simp;done)|(simp;omega)

theorem P4 (s:List UInt8)(i:Nat)(hi:i<s.length):(decide ((Xl s i).1=65533) && !J6 s i)=decide (sz s i=0)∧(sz s i≠0→(Xl s i).2=sz s i):=by
 have hsz:∀j,(s[i+j]? = (s.drop i)[j]?):=fun j=>by rw[QGu]
 have hn:ByteArray.size ⟨⟨s⟩⟩=s.length:=rfl;have hl:s.length=i+(s.drop i).length:=by simp;omega
 generalize hr:s.drop i=r at hsz hl;have h0:=hsz 0;have h1:=hsz 1;have h2:=hsz 2;have h3:=hsz 3;simp only[QGm]at h0
 match r,hl with
 | [],hl=>simp at hl;omega
 | [a],hl=>
  have g0:=Jg s i a h0;have l1:(i+1<s.length)=False:=by simp at hl ⊢;omega
  have l2:(i+2<s.length)=False:=by simp at hl ⊢;omega
  have l3:(i+3<s.length)=False:=by simp at hl ⊢;omega
  have wa:=a.toNat_lt;have hrep:J6 s i=false:=by simp[J6,hr]
  simp only[QGQ,List.getElem?_nil,QGL]at h0 h1 h2 h3;simp only[Xl,Utf8.decode,Utf8.runeError,hn,l1,l2,l3,QGm,g0,sz,h0,HI,tl,bt,QFP,seval,h1,h2,h3,hrep,decide_false,QHd,QHD,QGX,QF9,and_false]
  (repeat' split)<;>refine⟨?_,?_⟩<;>(try rw[QGE])<;>(try simp only[QG4,QGR,QGX])<;>first|omega|(intro _;rfl)|(intro _;omega)|(simp;done)|(simp;omega)
 | [a,b],hl=>
  have g0:=Jg s i a h0;have g1:=Jg s (i+1) b h1;have l1:(i+1<s.length)=True:=by simp at hl ⊢;omega
  have l2:(i+2<s.length)=False:=by simp at hl ⊢;omega
  have l3:(i+3<s.length)=False:=by simp at hl ⊢;omega
  have wa:=a.toNat_lt;have wb:=b.toNat_lt;have hrep:J6 s i=false:=by simp[J6,hr]
  simp only[QGQ,List.getElem?_nil,QGL]at h0 h1 h2 h3;simp only[Xl,Utf8.decode,Utf8.runeError,hn,l1,l2,l3,QGm,g0,g1,sz,h0,HI,tl,bt,QFP,seval,h1,h2,h3,hrep,decide_false,decide_true,QHd,QHD,QHp,QGX,QF9,and_false,QGd,QG4,QGe,ge_iff_le]
  (repeat' split)<;>refine⟨?_,?_⟩<;>(try rw[QGE])<;>(try simp only[QG4,QGR,QGX])<;>first|omega|(intro _;rfl)|(intro _;omega)|(simp;done)|(simp;omega)
 | [a,b,c],hl=>
  have g0:=Jg s i a h0;have g1:=Jg s (i+1) b h1;have g2:=Jg s (i+2) c h2;have l1:(i+1<s.length)=True:=by simp at hl ⊢;omega
  have l2:(i+2<s.length)=True:=by simp at hl ⊢;omega
  have l3:(i+3<s.length)=False:=by simp at hl ⊢;omega
  have wa:=a.toNat_lt;have wb:=b.toNat_lt;have wc:=c.toNat_lt;have hrep:J6 s i=(decide (a.toNat=239)&&(decide (b.toNat=191)&&decide (c.toNat=189))):=by
   rw[←Ha a 239 (by decide),←Ha b 191 (by decide),←Ha c 189 (by decide)];simp[J6,hr]
  simp only[QGQ,List.getElem?_nil,QGL]at h0 h1 h2 h3;simp only[Xl,Utf8.decode,Utf8.valid,Utf8.runeError,hn,l1,l2,l3,QGm,g0,g1,g2,sz,h0,HI,tl,bt,QFP,seval,h1,h2,h3,hrep,decide_false,decide_true,QHd,QHD,QHp,QGX,QF9,and_false,QGd,QGI,QG4,QGe,ge_iff_le]
  (repeat' split)<;>refine⟨?_,?_⟩<;>(try rw[QGE])<;>(try simp only[QGd,QG4,QGG,QHB,QHF])<;>first|omega|(intro _;rfl)|(intro _;omega)|(simp;done)|(simp;omega)
 |a :: b :: c :: d :: t,hl=>exact QAP s i a b c d t hr

def QAQ (s:List UInt8)(k:Nat)(st:St):Prop :=
 ∃f fr i,st=⟨f,[fr],[]⟩∧i≤s.length∧s.length-i≤k∧ZC s s.length 0=ZC s k i∧f 0=.str s∧f 6=.ptr 0 6 0∧fr 6=.iter (.str s) i

theorem QAR (s:List UInt8):Qs Tryz.prog 153 [.str s] (.int .i64 (ZC s s.length 0)):=by
 refine QgS.fn (by simp) ?_;simp only[Qa,seval];refine Hz rfl rfl ?_;simp only[Qa,seval];refine Qd (QAQ s) s.length ⟨_,_,0,rfl,QFZ _,QFQ _,rfl,(by rfl),(by rfl),(by rfl)⟩ ?_;rintro k st ⟨f,fr,i,rfl,hi,hk,hb,h0,h6,m6⟩;simp only[Qa,seval];refine HA (by exact h6) m6 (fun hlt=>?_) (fun hge=>?_)
 ·obtain⟨hd,hw⟩:=P4 s i hlt;obtain⟨k,rfl⟩:∃n,k=n+1:=⟨k-1,by omega⟩;have hbk:ZC s (k+1) i=if sz s i=0 then(i:Int)else ZC s k (i+sz s i):=by
   show(if i<s.length then _ else _)=_;rw[QFY hlt]
  have hwr:=QAO s i hi (Xl s i).1;rw[hd]at hwr;generalize Xl s i=cw at hw hwr;obtain⟨c,w⟩:=cw;simp only[h0,Qa,seval];refine aC hwr ?_;by_cases hz:sz s i=0
  ·simp only[hz,decide_true,hb,hbk,Qa,seval]
  ·have hw:=hw hz;simp only at hw;have hle:=Az s i hlt hz;simp only[hz,decide_false,Qa,seval];exact⟨k,by omega,_,_,i+sz s i,rfl,hle,by omega,by rw[hb,hbk,QFX hz],(by exact h0),(by exact h6),by rw[←hw]<;>first|rfl|simp only[eE,seval]⟩
 ·have hbk:ZC s k i = -1:=by
   cases k with
   |zero=>rfl
   |succ k=>
    show(if i<s.length then _ else _)=_;rw[QFX (by omega)]
  simp only[hb,hbk,Qa,seval]

theorem Qn8 (s:List UInt8):Qs Tryz.prog 125 [.str s] (.bool (ZR s)):=by
 refine QdI.fn (by simp) ?_;simp only[Qa,seval];refine aC (QAR s) ?_;simp only[Qa,seval]
 try rfl

end Go.Proofs.YtnpajgoobomndaaGreatDoor.Va

namespace Go.Proofs.YtnpajgoobomndaaGreatDoor.Va
open Go Am Rc Bt

def Hb (k:Int)(b:Nat):Bool :=
 if k=1 then decide ((b:Int)≤1)else if k=2 then decide (IntKind.i64.wrap (b:Int)≥-2147483648)&&decide (IntKind.i64.wrap (b:Int)≤2147483647)
 else if k=4 then decide ((b:Int)<4294967296)else if k=9 then decide ((b:Int)<2147483648)else true

theorem QAS (k:Int)(b:Nat):Qs Tryz.prog 163 [.int .i64 k,.int .u64 (b:Nat)] (.bool (Hb k b)):=by
 have e1:decide ((b:Int)≤4294967295)=decide ((b:Int)<4294967296):=by rw[decide_eq_decide];omega
 have e2:decide ((b:Int)≤2147483647)=decide ((b:Int)<2147483648):=by rw[decide_eq_decide];omega
 refine Qh5.fn (by simp) ?_;simp only[Qa,seval];unfold Hb;by_cases h1:k=1
 ·subst h1;have b1:((1:Int)==1)=true:=rfl;simp only[b1,Qa,seval]
 ·have b1:(k==1)=false:=by simp[h1]
  by_cases h2:k=2
  ·subst h2;have b2:((2:Int)==2)=true:=rfl;simp only[b1,b2,h1,Qa,seval];cases hd:decide (IntKind.i64.wrap (b:Int)≥-2147483648)<;>simp only[QHp,QHd,Qa,seval]
  ·have b2:(k==2)=false:=by simp[h2]
   by_cases h9:k=9
   ·subst h9;have b9:((9:Int)==9)=true:=rfl;simp only[b1,b2,b9,h1,h2,e2,Qa,seval]
   ·have b9:(k==9)=false:=by simp[h9]
    by_cases h4:k=4
    ·subst h4;have b4:((4:Int)==4)=true:=rfl;simp only[b1,b2,b9,b4,h1,h2,e1,Qa,seval]
    ·have b4:(k==4)=false:=by simp[h4]
     simp only[b1,b2,b9,b4,h1,h2,h4,h9,Qa,seval]

end Go.Proofs.YtnpajgoobomndaaGreatDoor.Va

namespace Go.Proofs.YtnpajgoobomndaaGreatDoor.Ev
open Go Am Rc

def tab:GJ:=fun k=>match k with
 |6=>some (r6,o6,27)
 |9=>some (r9,o9,51)
 |10=>some (RE,Xw,13)
 |7=>some (r7,o7,21)
 |24=>some (r24,o24,13)
 |13=>some (r13,FN,67)
 |14=>some (L0,FO,121)
 |15=>some (r15,o15,130)
 |11=>some (r11,o11,64)
 |25=>some (r25,o25,45)
 |26=>some (r26,o26,15)
 |27=>some (r27,o27,19)
 |28=>some (r28,o28,29)
 |29=>some (r29,o29,23)
 |30=>some (r30,X8,43)
 |31=>some (r31,o31,89)
 |32=>some (r32,o32,72)
 |33=>some (r33,o33,61)
 |34=>some (r34,o34,91)
 |48=>some (r48,o48,7)
 |49=>some (r49,o49,68)
 |51=>some (r51,o51,19)
 |52=>some (r52,o52,8)
 |53=>some (r53,o53,23)
 |54=>some (r54,o54,12)
 |55=>some (r55,o55,76)
 |56=>some (Kt,S1,54)
 |57=>some (r57,o57,11)
 |58=>some (r58,o58,15)
 |59=>some (r59,o59,43)
 |60=>some (r60,KF,21)
 |71=>some (r71,o71,99)
 |72=>some (r72,o72,12)
 |73=>some (r73,o73,19)
 |74=>some (r74,o74,9)
 |75=>some (r75,o75,19)
 |77=>some (r77,o77,18)
 |78=>some (r78,o78,8)
 |79=>some (r79,o79,20)
 |80=>some (r80,Js,12)
 |81=>some (r81,o81,8)
 |82=>some (r82,o82,40)
 |83=>some (r83,o83,6)
 |84=>some (r84,o84,28)
 |85=>some (r85,o85,68)
 |86=>some (r86,o86,19)
 |97=>some (r97,o97,56)
 |98=>some (r98,o98,27)
 |99=>some (r99,o99,20)
 |100=>some (Qa2,GV,19)
 |101=>some (Qbf,Qbg,42)
 |102=>some (PD,PF,79)
 |104=>some (PH,PJ,106)
 |105=>some (Qbt,Qbu,19)
 |106=>some (Qby,Qbz,9)
 |107=>some (QbK,QbL,19)
 |108=>some (QbP,QbQ,9)
 |109=>some (QbU,QbV,8)
 |110=>some (Qb6,Qb7,19)
 |111=>some (Qcj,Qck,45)
 |112=>some (Qcv,Qcw,61)
 |113=>some (QcH,QcI,77)
 |114=>some (QcS,QcT,19)
 |117=>some (QcX,QcY,9)
 |118=>some (Qc2,Qc3,10)
 |119=>some (Qda,Qdb,19)
 |120=>some (Qdn,Qdo,30)
 |121=>some (Qdt,Qdu,20)
 |122=>some (Qdy,Qdz,11)
 |123=>some (PK,PM,112)
 |124=>some (PP,PQ,52)
 |125=>some (QdG,QdH,6)
 |126=>some (QdL,QdM,15)
 |127=>some (QdP,QdQ,11)
 |128=>some (QdU,QdV,10)
 |131=>some (QdZ,Qd0,8)
 |132=>some (Qeb,Qec,19)
 |133=>some (Qeg,Qeh,8)
 |134=>some (Qem,Qen,20)
 |135=>some (Qeq,Qer,9)
 |136=>some (QeB,QeC,10)
 |137=>some (QeF,QeG,9)
 |138=>some (QeM,QeN,9)
 |139=>some (QeS,QeT,39)
 |140=>some (QeZ,G9,28)
 |141=>some (Qe4,Qe5,14)
 |142=>some (Qfg,Qfh,19)
 |143=>some (Qfl,Qfm,8)
 |144=>some (Qfx,Qfy,19)
 |145=>some (QfC,QfD,8)
 |146=>some (QfP,QfQ,27)
 |147=>some (QfT,QfU,12)
 |148=>some (QfY,QfZ,5)
 |149=>some (Qf5,Qf6,19)
 |150=>some (Qgi,Qgj,57)
 |151=>some (Qgt,Qgu,50)
 |152=>some (QgF,QgG,59)
 |153=>some (QgQ,QgR,16)
 |154=>some (Qg4,Qg5,31)
 |155=>some (Qha,Qhb,20)
 |156=>some (Qhm,Qhn,36)
 |157=>some (Qhr,Qhs,9)
 |159=>some (Qhw,Qhx,9)
 |160=>some (QhB,QhC,14)
 |161=>some (QhI,QhJ,20)
 |162=>some (QhQ,QhR,28)
 |163=>some (Qh3,Qh4,28)
 |164=>some (Qh8,Qh9,9)
 |165=>some (Qik,Qil,29)
 |166=>some (Qiy,Qiz,66)
 |167=>some (QiD,QiE,9)
 |169=>some (QiL,QiM,19)
 |170=>some (QiQ,QiR,9)
 |171=>some (QiV,QiW,9)
 |172=>some (Qi0,Qi1,34)
 |173=>some (Qi5,Qi6,11)
 |174=>some (Qja,Qjb,16)
 |175=>some (Qjn,Qjo,56)
 |176=>some (QjA,QjB,27)
 |177=>some (QjM,QjN,19)
 |178=>some (QjY,QjZ,19)
 |179=>some (Qj3,Qj4,9)
 |180=>some (Qkh,Qki,50)
 |181=>some (Qku,Qkv,34)
 |182=>some (Qkz,QkA,8)
 |183=>some (QkL,QkM,19)
 |184=>some (QkQ,QkR,8)
 |185=>some (QkV,QkW,8)
 |186=>some (PU,PV,16)
 |187=>some (Qk4,Qk5,15)
 |188=>some (Qld,Qle,10)
 |189=>some (Qlj,Qlk,19)
 |191=>some (Nl,PW,143)
 |192=>some (Qlp,Qlq,18)
 |193=>some (Qlu,Qlv,7)
 |194=>some (QlG,QlH,117)
 |195=>some (QlK,QlL,8)
 |197=>some (QlP,QlQ,6)
 |198=>some (Ql3,Ql4,81)
 |200=>some (Qmh,Qmi,39)
 |_=>none

theorem DU:Uo Tryz.prog tab:=by
 intro k c rs N h;unfold tab at h;split at h
 ·cases h;exact k6
 ·cases h;exact k9
 ·cases h;exact Kr
 ·cases h;exact k7
 ·cases h;exact k24
 ·cases h;exact k13
 ·cases h;exact k14
 ·cases h;exact k15
 ·cases h;exact k11
 ·cases h;exact k25
 ·cases h;exact k26
 ·cases h;exact k27
 ·cases h;exact k28
 ·cases h;exact k29
 ·cases h;exact k30
 ·cases h;exact k31
 ·cases h;exact k32
 ·cases h;exact k33
 ·cases h;exact k34
 ·cases h;exact k48
 ·cases h;exact k49
 ·cases h;exact k51
 ·cases h;exact k52
 ·cases h;exact k53
 ·cases h;exact k54
 ·cases h;exact k55
 ·cases h;exact k56
 ·cases h;exact k57
 ·cases h;exact k58
 ·cases h;exact k59
 ·cases h;exact k60
 ·cases h;exact k71
 ·cases h;exact k72
 ·cases h;exact k73
 ·cases h;exact k74
 ·cases h;exact k75
 ·cases h;exact k77
 ·cases h;exact k78
 ·cases h;exact k79
 ·cases h;exact k80
 ·cases h;exact k81
 ·cases h;exact k82
 ·cases h;exact k83
 ·cases h;exact k84
 ·cases h;exact k85
 ·cases h;exact k86
 ·cases h;exact k97
 ·cases h;exact GU
 ·cases h;exact k99
 ·cases h;exact Qa3
 ·cases h;exact Qbh
 ·cases h;exact Qbi
 ·cases h;exact Qbj
 ·cases h;exact Qbv
 ·cases h;exact QbA
 ·cases h;exact QbM
 ·cases h;exact QbR
 ·cases h;exact QbW
 ·cases h;exact Qb8
 ·cases h;exact QzI
 ·cases h;exact QzJ
 ·cases h;exact QzK
 ·cases h;exact QcU
 ·cases h;exact QcZ
 ·cases h;exact Qc4
 ·cases h;exact Qdc
 ·cases h;exact Qdp
 ·cases h;exact Qdv
 ·cases h;exact QdA
 ·cases h;exact QdB
 ·cases h;exact QdD
 ·cases h;exact QdI
 ·cases h;exact PR
 ·cases h;exact QdR
 ·cases h;exact QdW
 ·cases h;exact Qd1
 ·cases h;exact Qed
 ·cases h;exact Qei
 ·cases h;exact QzL
 ·cases h;exact QzM
 ·cases h;exact QzN
 ·cases h;exact QeH
 ·cases h;exact QzO
 ·cases h;exact QeU
 ·cases h;exact QzP
 ·cases h;exact Qe6
 ·cases h;exact Qfi
 ·cases h;exact Qfn
 ·cases h;exact Qfz
 ·cases h;exact QfE
 ·cases h;exact PT
 ·cases h;exact QfV
 ·cases h;exact Qf0
 ·cases h;exact Qf7
 ·cases h;exact Qgk
 ·cases h;exact Qgv
 ·cases h;exact QgH
 ·cases h;exact QgS
 ·cases h;exact Qg6
 ·cases h;exact Qhc
 ·cases h;exact Qho
 ·cases h;exact Qht
 ·cases h;exact Qhy
 ·cases h;exact QhD
 ·cases h;exact QzQ
 ·cases h;exact QhS
 ·cases h;exact Qh5
 ·cases h;exact QzR
 ·cases h;exact Qim
 ·cases h;exact QiA
 ·cases h;exact QiF
 ·cases h;exact QiN
 ·cases h;exact QiS
 ·cases h;exact QiX
 ·cases h;exact Qi2
 ·cases h;exact Qi7
 ·cases h;exact Qjc
 ·cases h;exact Qjp
 ·cases h;exact QjC
 ·cases h;exact QjO
 ·cases h;exact Qj0
 ·cases h;exact Qj5
 ·cases h;exact QzS
 ·cases h;exact Qkw
 ·cases h;exact QkB
 ·cases h;exact QkN
 ·cases h;exact QkS
 ·cases h;exact QkX
 ·cases h;exact Qk0
 ·cases h;exact Qk6
 ·cases h;exact QzT
 ·cases h;exact QzU
 ·cases h;exact Qlm
 ·cases h;exact Qlr
 ·cases h;exact Qlw
 ·cases h;exact QzV
 ·cases h;exact QlM
 ·cases h;exact QzW
 ·cases h;exact QzX
 ·cases h;exact QzY
 ·cases h

def XC:Kq:=fun _ _ _=>none

theorem JG:KE Tryz.prog XC:=by
 intro k args m v m' h;cases h

end Go.Proofs.YtnpajgoobomndaaGreatDoor.Ev

namespace Go.Proofs.YtnpajgoobomndaaGreatDoor.Va
open Go Am Rc Bt

def vo (k:Int)(b:Nat)(t:List UInt8)(l p s r:List AV):AV:=.agg [.int .i64 k,.int .u64 (b:Nat),.str t,.list l,.list p,.list s,.list r]

section
variable (k:Int)(b:Nat)(t:List UInt8)(l p s r:List AV)

def WA:Bool:=(l.length:Int)==0&&(p.length:Int)==0&&(s.length:Int)==0&&(r.length:Int)==0
theorem y90:Qs Tryz.prog 90 [vo k b t l p s r] (.bool (WA l p s r)):=by
 refine k90.fn (by simp) ?_;simp only[vo,WA,eE,seval];cases h0:((l.length:Int)==0)<;>cases h1:((p.length:Int)==0)<;>cases h2:((s.length:Int)==0)<;>simp only[h1,h2,QHp,QHd,eE,seval]

theorem QAT (hl:l.length≤140737488351232)(hp:p.length≤140737488351232)(hs:s.length≤140737488351232)(hr:r.length≤140737488351232) :
  Qs Tryz.prog 162 [vo k b t l p s r] (.bool (WA l p s r&&(if Ku k=true then(b:Int)==0 else t==[]))):=by
 refine QhS.fn (by simp) ?_;have w:IntKind.i64.wrap (IntKind.i64.wrap (IntKind.i64.wrap ((l.length:Int)+(p.length:Int))+(s.length:Int))+(r.length:Int))=(l.length+p.length+s.length+r.length:Nat):=by
  simp only[ZM];omega
 simp only[vo,w,eE,seval];by_cases h:l.length+p.length+s.length+r.length=0
 ·have d:decide (((l.length+p.length+s.length+r.length:Nat):Int) > 0)=false:=QHt (by omega);have e:WA l p s r=true:=by
   unfold WA;simp only[QGd,QGe];omega
  simp only[d,e,QHp,eE,seval];refine aC (QAs k) ?_;cases Ku k
  ·simp only[QF9,QB,eE,seval]
  ·simp only[eE,seval]
 ·have d:decide (((l.length+p.length+s.length+r.length:Nat):Int) > 0)=true:=QHA (by omega);have e:WA l p s r=false:=by
   unfold WA;rw[QHw];simp only[ne_eq,QGd,QGe];omega
  simp only[d,e,QHd,Qa,seval]

end

open Br

def key (o:PO):Bool:=if o.card=5 then decide (o.key≥1)&&decide (o.key≤7)&&o.key != 6 else o.key==0
def aim (P:PL)(o:PO):Bool :=
 if o.kind=10 then decide (o.target≥0)&&decide (o.target<(P.progs.length:Int))&&o.card != 3
 else if o.kind=9 then decide (o.target≥0)&&decide (o.target<(P.enums.length:Int))else WW o.kind&&o.target == -1
def P5 (P:PL)(o:PO):Bool:=ZR o.alias&&decide ((o.alias.length:Int)≤4096)&&decide (o.card≥1)&&decide (o.card≤5)&&key o&&aim P o
def uok (o:PO):Bool:=o.union == -1||o.card==2
def JH:List PO→Int→Int→Option Int
 | [],n,_=>some n
 |o :: l,n,b=>if o.union=n then JH l (n+1) n else if o.union = -1∨o.union=b then JH l n o.union else none
def Qoa (g:PG):Bool:=match JH g.ops 0 (-1)with
 |some n=>g.unions==n
 |none=>false
def ZN (k kd:Int)(b:Nat)(t:List UInt8)(l p s r:List AV):Bool :=
 WW k&&kd==k&&WA l p s r&&(if Ku kd=true then(b:Int)==0 else t==[])&&Hb k b&&decide ((t.length:Int)≤4096)&&(k != 7||ZR t)
def alias:List UInt8:=[97,108,105,97,115]
def nok:List AV→Bool
 | [.int _ kd,.int _ b,.str t,.list l,.list p,.list s,.list r]=>ZN 7 kd b.toNat t l p s r
 |_=>false
def nte (i:PI):Bool:=match i.notes with
 | []=>true
 | [n]=>n.name==alias&&nok n.val
 |_=>false
def P6 (P:PL)(g:PG):Bool:=Qoa g&&g.ops.all fun o=>P5 P o&&uok o
def Qob (x:PE):Bool:=x.notes.isEmpty&&x.items.all nte
def args (P:PL):Bool:=P.progs.all (P6 P)&&P.enums.all Qob

theorem Qoc (k kd:Int)(b:Nat)(t:List UInt8)(l p s r:List AV)(hl:l.length≤140737488351232)(hp:p.length≤140737488351232)(hs:s.length≤140737488351232)(hr:r.length≤140737488351232) :
  Qs Tryz.prog 139 [.int .i64 k,vo kd b t l p s r] (.bool (ZN k kd b t l p s r)):=by
 have hle:=QAT kd b t l p s r hl hp hs hr;have hw:=QAS k b;simp only[vo]at hle;have n1:(kd != k)=!(kd==k):=rfl;have n2:(k != 7)=!(k==7):=rfl;have n3:decide ((t.length:Int) > 4096)=!decide ((t.length:Int)≤4096):=(by rw[QGE];simp only[QG4,QGG,QHB];omega);refine QeU.fn (by simp) ?_;simp only[vo,ZN,n2,eE,seval];refine aC (QAr k) ?_;cases WW k
 ·simp only[QHd,QGR,Qa,seval]
 simp only[QHp,QHq,n1,eE,seval];cases a1:(kd==k)
 ·simp only[QHd,QGR,Qa,seval]
 simp only[QHp,QHq,eE,seval];refine aC hle ?_;cases(WA l p s r&&(if Ku kd=true then(b:Int)==0 else t==[]))
 ·simp only[QHd,QGR,Qa,seval]
 simp only[QHp,QHq,eE,seval];refine aC hw ?_;cases Hb k b
 ·simp only[QHd,QGR,Qa,seval]
 simp only[QHp,QHq,n3,eE,seval];cases a2:decide ((t.length:Int)≤4096)
 ·simp only[QHd,QGR,Qa,seval]
 simp only[QHp,QHq,n2,Qa,seval];cases a3:(k==7)
 ·simp only[QGR,QHr,Qa,seval]
 ·simp only[QHq,QHs,eE,seval];refine aC (Qn8 t) ?_;simp only[Qa,seval]

section
variable (P:PL)

end

section
variable (kd:Int)(b:Nat)(t:List UInt8)(l p s r:List AV)(hl:l.length≤140737488351232)(hp:p.length≤140737488351232)(hs:s.length≤140737488351232)(hr:r.length≤140737488351232)

def nv:AV:=.agg [.str alias,.int .i64 kd,.int .u64 (b:Nat),.str t,.list l,.list p,.list s,.list r]

end

end Go.Proofs.YtnpajgoobomndaaGreatDoor.Va

namespace Go.Proofs.YtnpajgoobomndaaGreatDoor.Va
open Go Am Rc Bt

def UQ (b:Nat):Nat :=
 let z:=b % 9223372036854775808
 if z > 9218868437227405312 then 0 else if z=9218868437227405312 then 1 else if z=0 then 2 else if z<4503599627370496 then 3 else 4

theorem x92 (b:Nat):Qs Tryz.prog 92 [.int .u64 (b:Nat)] (.int .i64 (UQ b:Nat)):=by
 refine k92.fn (by simp) ?_;have hm:(b:Int).tmod 9223372036854775808=((b % 9223372036854775808:Nat):Int):=by
  rw[Int.tmod_eq_emod_of_nonneg (by omega)];omega
 simp only[hm,Qa,seval];unfold UQ;generalize b % 9223372036854775808=z
 repeat' (first|(refine XR (fun h=>?_) (fun h=>?_)<;>simp only[h,Qa,seval])|(refine Zr (fun h=>?_) (fun h=>?_)<;>simp only[h,Qh,eE,seval])|(refine Zs (fun h=>?_) (fun h=>?_)<;>simp only[h,Qh,eE,seval]))
 all_goals(simp only[QG4,QHB,QGe,QHC,ne_eq]at *)
 all_goals((repeat' split)<;>first|rfl|(exfalso;omega))

theorem Qod (b:Nat):b &&& 4503599627370495=b % 4503599627370496:=Nat.and_two_pow_sub_one_eq_mod b 52
theorem Qoe (b:Nat):b &&& 9218868437227405312=(b / 4503599627370496 % 2048)*4503599627370496:=by
 have h1:(9218868437227405312:Nat)=2047 <<< 52:=by decide
 have h2:(b / 4503599627370496 % 2048)*4503599627370496=(b >>> 52 % 2 ^ 11) <<< 52:=by
  rw[Nat.shiftLeft_eq,Nat.shiftRight_eq_div_pow]
 rw[h1,h2]
 apply Nat.eq_of_testBit_eq
 intro i;rw[Nat.testBit_and,Nat.testBit_shiftLeft,Nat.testBit_shiftLeft,Nat.testBit_mod_two_pow,Nat.testBit_shiftRight,show(2047:Nat)=2 ^ 11-1 by decide,Nat.testBit_two_pow_sub_one];by_cases h:i≥52
 ·rw[show 52+(i-52)=i by omega];simp[h,Bool.and_comm]
 ·simp[h]

theorem QAU (b:Nat)(hb:b<18446744073709551616):Qs Tryz.prog 165 [.int .u64 (b:Nat)] (.int .i64 (UQ b:Nat)):=by
 refine Qim.fn (by simp) ?_;have a1:bits .and .u64 (b:Int) 9218868437227405312=(((b / 4503599627370496 % 2048)*4503599627370496:Nat):Int):=by
  have:=FA b 9218868437227405312 hb (by decide);rw[Qoe]at this;exact this
 have a2:bits .and .u64 (b:Int) 4503599627370495=((b % 4503599627370496:Nat):Int):=by
  have:=FA b 4503599627370495 hb (by decide);rw[Qod]at this;exact this
 simp only[a1,a2,Qa,seval];unfold UQ
 repeat' (first|(refine XR (fun h=>?_) (fun h=>?_)<;>simp only[h,Qa,seval])|(refine Zr (fun h=>?_) (fun h=>?_)<;>simp only[h,Qh,Qa,seval])|(refine Zs (fun h=>?_) (fun h=>?_)<;>simp only[h,Qh,eE,seval]))
 all_goals(simp only[QGe,QGj,bne_eq_false_iff_eq,QHC,ne_eq]at *)
 all_goals((repeat' split)<;>first|rfl|(exfalso;omega))

def Ze (k:Int)(b:Nat):Nat:=if k=6∧UQ b=0 then 9221120237041090560 else b

theorem Qof (b:Nat):((UQ b:Int)==0)=decide (UQ b=0):=by
 rw[QGE,QGe,QG4];omega

end Go.Proofs.YtnpajgoobomndaaGreatDoor.Va

namespace Go.Proofs.YtnpajgoobomndaaGreatDoor.So

section
variable {α:Type}

structure SW (lt:α→α→Bool):Prop where
 irr:∀x,lt x x=false
 tr:∀x y z,lt x y=true→lt y z=true→lt x z=true
 nt:∀x y z,lt x y=false→lt y z=false→lt x z=false

variable {lt:α→α→Bool}

theorem SW.as (h:SW lt){x y:α}(hx:lt x y=true):lt y x=false:=by
 cases hy:lt y x with
 |false=>rfl
 |true=>
  have:=h.tr x y x hx hy;rw[h.irr]at this;cases this

end

end Go.Proofs.YtnpajgoobomndaaGreatDoor.So

namespace Go.Proofs.YtnpajgoobomndaaGreatDoor.Va
open Go Am Rc Bt Br Up So

def nK:List (List UInt8×Int×List Int):=[
 ([100,101,112,114,101,99,97,116,101,100],1,[1,2,3,4,5,6]),
 ([100,111,99],7,[1,2,3,4,5,6]),
 ([97,108,105,97,115],7,[2,4,6]),
 ([115,105,110,99,101],4,[2,4,6]),
 ([117,110,116,105,108],4,[2,4,6]),
 ([109,105,110],3,[2]),
 ([109,97,120],3,[2]),
 ([108,101,110,103,116,104],4,[2]),
 ([115,101,99,114,101,116],1,[2]),
 ([105,100,101,109,112,111,116,101,110,116],1,[6]),
 ([116,105,109,101,111,117,116],4,[6]),
 ([114,111,117,116,101],7,[6]),
 ([111,119,110,101,114],7,[1,5])]
def Bd (s:List UInt8):Option (Int×List Int):=(nK.find? fun x=>x.1==s).map Prod.snd
def XJ (s:List UInt8):Int:=((Bd s).getD (0,[])).1
def MB (s:List UInt8)(t:Int):Bool:=((Bd s).getD (0,[])).2.contains t
def _root_.Go.Proofs.YtnpajgoobomndaaGreatDoor.Br.V.fitk (k:Int)(v:V):Bool:=ZN k v.kd v.bits v.text (v.list.map V.av) (v.pairs.map V.pav) (v.slots.map V.sav) (v.raws.map R.av)
def HJ (n:SN):Bool:=XJ n.name != 0&&n.val.fitk (XJ n.name)
def JI (t:Int)(last:Option (List UInt8))(n:SN):Int :=
 if XJ n.name=0 then 8 else if MB n.name t=false then 1 else if n.val.fitk (XJ n.name)=false then 12 else
 match last with
 |none=>0
 |some s=>if Op.bytesLess n.name s=true then 11 else if n.name=s then 9 else 0
def WB (t:Int):Option (List UInt8)→List SN→Int
 |_,[]=>0
 |last,n :: l=>if JI t last n=0 then WB t (some n.name) l else JI t last n
def XX (l:List SN)(t:Int):Int:=if l.length > 8 then 3 else WB t none l

def QW (S:SC)(n:List UInt8):Bool:=S.msgs.any fun m=>m.name==n
def Hc (S:SC)(n:List UInt8):Bool:=S.enums.any fun m=>m.name==n
def DV (c k:Int):Bool:=if c=5 then decide (k≥1)&&decide (k≤7)&&k != 6 else k==0
def WC (f:SF):Bool:=decide (f.card≥1)&&decide (f.card≤5)&&DV f.card f.key
def Ja (S:SC)(f:SF):Bool :=
 if 1≤f.kind∧f.kind≤8 then f.tname==[]else if f.kind=9 then Hc S f.tname else if f.kind=10 then QW S f.tname&&f.card != 3 else false
def ZW (m:SM)(i:Nat):Bool:=match m.fields[i]? with
 |none=>true
 |some f=>f.union==[]||(f.card==2&&Xb f.union && !(m.fields.any fun x=>x.name==f.union) &&
   (!((m.fields.take i).any fun x=>x.union==f.union)||(match i with
    |0=>true
    |j+1=>match m.fields[j]? with
     |none=>true
     |some y=>y.union==f.union)))
def _root_.Go.Proofs.YtnpajgoobomndaaGreatDoor.Br.V.zro (v:V):Bool:=v.kd==0&&v.bits==0&&v.text==[]&&v.list.length+v.pairs.length+v.slots.length+v.raws.length==0
def KI (S:SC)(f:SF):Bool :=
 if f.hasd=false then f.dflt.zro
 else if f.card=2∧f.union=[]∧f.dflt.fitk f.kind=true∧Ze f.dflt.kd f.dflt.bits=f.dflt.bits then
  (if f.kind=9 then(match S.enums.find? fun e=>e.name==f.tname with
   |none=>false
   |some e=>e.items.any fun it=>(IntKind.u64.wrap it.num)==(f.dflt.bits:Int))else true)
 else false
def W0 (S:SC)(m:SM)(i:Nat):Bool:=match m.fields[i]? with
 |none=>true
 |some f=>decide (f.num≥1)&&decide (f.num≤65535)&&(match i with
   |0=>true
   |j+1=>match m.fields[j]? with
    |none=>true
    |some y=>decide (f.num > y.num))&&Xb f.name && !((m.fields.take i).any fun x=>x.name==f.name) && !(kept m.free f.num) && !(m.gone.contains f.name) &&
   WC f&&Ja S f&&ZW m i&&KI S f&&XX f.notes 2==0
def He (lo hi:Int)(l:List PS):Bool:=(l.all fun x=>decide (x.lo≥lo)&&decide (x.hi≤hi)&&decide (x.lo≤x.hi))&&Xx l spt

def XU (m:SM):List (List UInt8):=(m.fields.filter fun f=>f.card==1&&f.kind==10).map SF.tname
def Zf (S:SC)(X:List (List UInt8))(m:SM):List (List UInt8):=match S.msgs.find? fun x=>x.name==m.name with
 |none=>X
 |some f=>if (XU f).any (fun n=>QW S n && !X.contains n)=true then X else if X.contains m.name=true then X else X++[m.name]
def YM (S:SC)(X:List (List UInt8)):List (List UInt8):=S.msgs.foldl (Zf S) X
def Wo (S:SC):Nat→List (List UInt8)
 |0=>[]
 |k+1=>YM S (Wo S k)
def Wp (S:SC):List (List UInt8):=Wo S (S.msgs.length+1)
def UR (S:SC)(m:SM):Bool:=(XU m).any fun n=>QW S n && !(Wp S).contains n

def Hf (S:SC)(m:SM):Bool:=Xp m.name&&decide (m.fields.length≤64)&&decide (m.free.length≤16)&&decide (m.gone.length≤16)&&Xd (W0 S m) m.fields.length&&He 1 65535 m.free &&
 (m.gone.all ZR)&&XX m.notes 1==0 && !UR S m
def W2 (e:SE)(i:Nat):Bool:=match e.items[i]? with
 |none=>true
 |some x=>decide (x.num≥0)&&decide (x.num≤2147483647)&&(match i with
   |0=>x.num==0
   |j+1=>match e.items[j]? with
    |none=>true
    |some y=>decide (x.num > y.num))&&Xb x.name && !((e.items.take i).any fun y=>y.name==x.name) && !(kept e.free x.num)&&XX x.notes 4==0
def Hg (e:SE):Bool:=Xp e.name&&decide (e.items.length≥1)&&decide (e.items.length≤64)&&decide (e.free.length≤16)&&Xd (W2 e) e.items.length&&He 0 2147483647 e.free&&XX e.notes 3==0
def ND (S:SC)(v:SQ)(i:Nat):Bool:=match v.meths[i]? with
 |none=>true
 |some x=>Xb x.name&&(match i with
   |0=>true
   |j+1=>match v.meths[j]? with
    |none=>true
    |some y=>Op.bytesLess y.name x.name)&&QW S x.inn&&QW S x.out&&decide (x.shape≥1)&&decide (x.shape≤4)&&XX x.notes 6==0
def P7 (S:SC)(v:SQ):Bool:=Xp v.name&&decide (v.meths.length≤64)&&Xd (ND S v) v.meths.length&&XX v.notes 5==0
def Jm (S:SC):Bool:=!(S.enums.any fun e=>S.msgs.any fun m=>m.name==e.name) && !(S.servs.any fun v=>S.msgs.any fun m=>m.name==v.name) && !(S.servs.any fun v=>S.enums.any fun e=>e.name==v.name)
def P8 (S:SC):Bool:=Xx S.msgs (Kv SM.name)&&Xx S.enums (Kv SE.name)&&Xx S.servs (Kv SQ.name)
def P9 (S:SC):Bool:=decide (S.msgs.length≤64)&&decide (S.enums.length≤64)&&decide (S.servs.length≤64)
def ZO (S:SC):Bool:=P9 S&&P8 S&&Jm S&&S.msgs.all (Hf S)&&S.enums.all Hg&&S.servs.all (P7 S)

def unl:List (List UInt8)→List SF→List (List UInt8)
 |us,[]=>us
 |us,f :: l=>unl (if f.union=[]∨us.contains f.union=true then us else us++[f.union]) l
def ZF (us:List (List UInt8))(s:List UInt8):Int:=QS (fun u=>u==s) us 0
def Xy (l:List SN):Option V:=(l.find? fun n=>n.name==alias).map SN.val
def Kx (S:SC)(f:SF):Int:=if f.kind=10 then QS (fun m:SM=>m.name==f.tname) S.msgs 0 else if f.kind=9 then QS (fun m:SE=>m.name==f.tname) S.enums 0 else -1
def JO (S:SC)(us:List (List UInt8))(f:SF):PO :=
 ⟨f.num,f.name,((Xy f.notes).map V.text).getD [],f.card,f.key,f.kind,Kx S f,if f.union=[]then -1 else ZF us f.union⟩
def ZI (S:SC)(m:SM):PG:=⟨m.name,m.fields.map (JO S (unl [] m.fields)),((unl [] m.fields).length:Int)⟩
def JJ (x:SI):PI:=⟨x.name,x.num,match Xy x.notes with
 |none=>[]
 |some v=>[⟨alias,v.cells⟩]⟩
def Jt (e:SE):PE:=⟨e.name,e.opn,e.items.map JJ,e.free,[]⟩
def X5 (S:SC):PL:=⟨S.msgs.map (ZI S),S.enums.map Jt⟩

end Go.Proofs.YtnpajgoobomndaaGreatDoor.Va

namespace Go.Proofs.YtnpajgoobomndaaGreatDoor.Va
open Go Am Rc Bt Br

def J7 (B:List Bool)(o:PO):Bool:=o.card==1&&o.kind==10 && !(B[o.target.toNat]?.getD false)
def WD (G:List PG)(B:List Bool)(i:Nat):List Bool:=match G[i]? with
 |some g=>B.set i (!g.ops.any (J7 B))
 |none=>B
def DW (G:List PG)(B:List Bool):Nat→List Bool
 |0=>B
 |i+1=>WD G (DW G B i) i
def its (G:List PG):Nat→List Bool
 |0=>List.replicate G.length false
 |c+1=>DW G (its G c) G.length
def fin (P:PL):Bool:=(its P.progs P.progs.length).all id

theorem IR (G:List PG)(B:List Bool)(i:Nat):(WD G B i).length=B.length:=by
 unfold WD;split<;>simp
theorem Be (G:List PG)(B:List Bool):∀i,(DW G B i).length=B.length
 |0=>rfl
 |i+1=>by rw[DW,IR,Be G B i]
theorem Bf (G:List PG):∀c,(its G c).length=G.length
 |0=>by simp[its]
 |c+1=>by rw[its,Be,Bf G c]

def HK (G:List PG)(B:List Bool):Prop:=∀(i:Nat) (g:PG),G[i]? = some g→B[i]? = some true→g.ops.any (J7 B)=false

theorem MD {B B':List Bool}(h:∀k:Nat,B[k]?.getD false=true→B'[k]?.getD false=true){o:PO}(hn:J7 B o=false):J7 B' o=false:=by
 unfold J7 at *;cases hc:(o.card==1&&o.kind==10)
 ·rfl
 ·rw[hc]at hn;simp only[QHp,Bool.not_eq_false']at hn ⊢;rw[h _ hn]

theorem IS {G:List PG}{B:List Bool}(h:HK G B)(i:Nat):HK G (WD G B i)∧∀k:Nat,B[k]?.getD false=true→(WD G B i)[k]?.getD false=true:=by
 have mono:∀k:Nat,B[k]?.getD false=true→(WD G B i)[k]?.getD false=true:=by
  intro k hk;unfold WD;split
  ·rename_i g hg;by_cases hki:i=k
   ·subst hki;have hb:B[i]? = some true:=by
     cases hB:B[i]? with
     |none=>rw[hB]at hk;cases hk
     |some b=>rw[hB]at hk;simp at hk;rw[hk]
    have hlt:=(QFS.1 hb).1;rw[List.getElem?_set_self hlt,h i g hg hb];rfl
   ·rw[List.getElem?_set_ne hki];exact hk
  ·exact hk
 refine⟨fun j g hg hb=>?_,mono⟩;rw[List.any_eq_false];intro o ho;rw[Bool.not_eq_true];have hB:B[j]? = some true∨g.ops.any (J7 B)=false:=by
  unfold WD at hb;split at hb
  ·rename_i g' hg';by_cases hij:i=j
   ·subst hij;rw[hg]at hg';cases hg'
    right
    by_cases hlt:i<B.length
    ·rw[List.getElem?_set_self hlt]at hb
     simpa using hb
    ·rw[QG6 (by simp;omega)]at hb;cases hb
   ·rw[List.getElem?_set_ne hij]at hb;exact .inl hb
  ·exact .inl hb
 have ha:g.ops.any (J7 B)=false:=hB.elim (h j g hg) id;rw[List.any_eq_false]at ha;exact MD mono (by simpa using ha o ho)

theorem Hh {G:List PG}{B:List Bool}(h:HK G B):∀i,HK G (DW G B i)
 |0=>h
 |i+1=>(IS (Hh h i) i).1
theorem Bg (G:List PG):∀c,HK G (its G c)
 |0=>by
  intro i g _ hb;rw[its,List.getElem?_replicate]at hb;split at hb<;>cases hb
 |c+1=>Hh (Bg G c) _

theorem Qog {G:List PG}{B:List Bool}(h:HK G B){i:Nat}{g:PG}{b:Bool}(hg:G[i]? = some g)(hb:B[i]? = some b):WD G B i=B.set i (b || !g.ops.any (J7 B)):=by
 unfold WD;rw[hg];cases b with
 |false=>rfl
 |true=>
  show B.set i _=B.set i (true||_);rw[h i g hg hb];rfl

structure En (P:PL)(c:Nat)(B:List Bool)(f:Fr)(fr:Nat→Ob):Prop where
 h1:f 1=.ptr 0 1 0
 m1:fr 1=.cells [.list (P.progs.map QV),.list (P.enums.map Q6)]
 h3:f 3=.ptr 0 3 0
 m3:fr 3=.cells [.vec 0 9 1 0 P.progs.length false]
 m9:fr 9=.vec 1 1 (B.map AV.bool)
 h12:f 12=.int .i64 (P.progs.length:Nat)
 h13:f 13=.int .i64 (c:Nat)
 r5:∀s∈[5],(fr s).isRow=false

theorem En.drop {P:PL}{c:Nat}{B:List Bool}{f f':Fr}{fr fr':Nat→Ob}(h:En P c B f fr)(hf:∀i,f' i=Pz [5] (f i))(hm:∀i,i∉[5]→fr' i=H0 [5] (fr i))(hn:∀i∈[5],fr' i=.none):En P c B f' fr' where
 h1:=by rw[hf,h.h1]<;>rfl
 m1:=by rw[hm 1 (by decide),h.m1]<;>rfl
 h3:=by rw[hf,h.h3]<;>rfl
 m3:=by rw[hm 3 (by decide),h.m3]<;>rfl
 m9:=by rw[hm 9 (by decide),h.m9]<;>rfl
 h12:=by rw[hf,h.h12]<;>rfl
 h13:=by rw[hf,h.h13]<;>rfl
 r5:=fun s hs=>by rw[hn s hs]<;>rfl

def ck (P:PL):Int :=
 if Bc P=false then 3 else if nam P=false then 8 else if Ax P=false then 11 else if Ay P=false then 9 else if rng P=false then 6 else if args P=false then 1 else if fin P=false then 19 else 0

theorem ME {P:PL}(h:Bc P=true):P.progs.length≤64∧P.enums.length≤64∧(∀g∈P.progs,g.ops.length≤64)∧∀e∈P.enums,1≤e.items.length∧e.items.length≤64∧e.free.length≤16:=by
 unfold Bc at h;simp only[QGd,QG4,QF3]at h;obtain⟨⟨⟨h1,h2⟩,h3⟩,h4⟩:=h;refine⟨h1,h2,fun g hg=>?_,fun e he=>?_⟩
 ·have:=h3 g hg;unfold PY at this;exact of_decide_eq_true this
 ·have:=h4 e he;unfold PZ at this;simp only[QGd,QG4]at this;exact⟨this.1.1,this.1.2,this.2⟩

def Pc (P:PL):List AV:=[.list (P.progs.map QV),.list (P.enums.map Q6)]

section
variable {M:Nat}(P:PL)(hP:P.ok M)(fr:Nat→Ob)(m1:fr 1=.cells (Pc P))(f:Fr)(b:Bool)(h1:f 1=.ptr 0 1 0)(h3:f 3=.bool b)(Q:Exit→St→Prop)
include hP m1 h1 h3

end

section
variable {M:Nat}(P:PL)(hP:P.ok M)
include hP

end

theorem z39 (L:List PS)(hl:L.length≤maxLen)(n:Int):Qs Tryz.prog 39 [.list (L.map QU),.int .i64 n] (.bool (kept L n)):=by
 let I:Nat→St→Prop:=fun k st=>∃f i,st=⟨f,[Qf],[]⟩∧k=L.length-i∧kept L n=kept (L.drop i) n∧f 0=.list (L.map QU)∧f 1=.int .i64 n∧f 5=.int .i64 (i:Nat)
 refine k39.fn (by simp) ?_;simp only[Qa,seval];refine Qd I _ ⟨_,0,rfl,rfl,rfl,(by rfl),(by rfl),(by rfl)⟩ ?_;rintro _ st ⟨f,i,rfl,rfl,hx,h0,h1,h5⟩;simp only[QG7,h0,h5,Qa,seval];by_cases hlt:i<L.length
 ·obtain⟨x,hi⟩:∃x,L[i]? = some x:=⟨L[i],QFT hlt⟩;have hg:(L.map QU)[i]? = some (QU x):=by simp[hi]
  have e1:=Qo i _ hlt hl;have hd:kept (L.drop i) n=((decide (x.lo≤n)&&decide (n≤x.hi))||kept (L.drop (i+1)) n):=by
   unfold kept;rw[QGx hlt,show L[i]=x from(QFS.1 hi).2];rfl
  rw[hd]at hx;simp only[QC hlt,Qi,QHa,Qc,hg,QU,PS.cells,h0,h1,h5,eE,seval];cases a1:decide (x.lo≤n)
  ·rw[a1,QHd,QHs]at hx;simp only[h5,e1,Qa,seval];exact⟨L.length-(i+1),by omega,_,i+1,rfl,rfl,hx,(by exact h0),(by exact h1),(by rfl)⟩
  ·cases a2:decide (n≤x.hi)
   ·rw[a1,a2,QHD,QHs]at hx;simp only[a2,Qi,QHa,Qc,hg,QU,PS.cells,h0,h1,h5,e1,eE,seval];exact⟨L.length-(i+1),by omega,_,i+1,rfl,rfl,hx,(by exact h0),(by exact h1),(by rfl)⟩
   ·rw[a1,a2,QGX,QHr]at hx;simp only[a2,Qi,QHa,Qc,hg,QU,PS.cells,h0,h1,h5,hx,eE,seval]
 ·have hx':kept L n=false:=by rw[hx,QGr (by omega)];rfl
  simp only[QG hlt,hx',Qa,seval]

section
variable {M:Nat}(P:PL)(hP:P.ok M)(fr:Nat→Ob)(m1:fr 1=.cells (Pc P))(f:Fr)(b:Bool)(h1:f 1=.ptr 0 1 0)(h3:f 3=.bool b)(Q:Exit→St→Prop)

include hP m1 h1 h3

end

section
variable (kd:Int)(b:Nat)(t:List UInt8)(l p s r:List AV)(ht:t.length+8≤maxLen)
include ht

end

section
variable (P:PL)

end

def oth (k:Int)(b:Nat)(t:List UInt8)(l p s r:List AV):Bool :=
 (k != 11&&decide ((l.length:Int) > 0))||(k != 12&&decide ((p.length:Int) > 0))||(k != 10&&decide (((s.length+r.length:Nat):Int) > 0))||((b:Int) != 0&&(Ku k||k==10||k==11||k==12))||(!(t==[]) && !Ku k)

section
variable (k:Int)(b:Nat)(t:List UInt8)(l p s r:List AV)(hs:s.length≤140737488351232)(hr:r.length≤140737488351232)

end

section
variable (k:Int)(b:Nat)(t:List UInt8)(l p s r:List AV)(hs:s.length≤140737488351232)(hr:r.length≤140737488351232)

end

theorem MG {α:Type}(p:α→Bool){l:List α}{i:Nat}{x:α}(hx:l[i]? = some x):(l.drop i).find? p=if p x=true then some x else(l.drop (i+1)).find? p:=by
 have hlt:i<l.length:=(QFS.1 hx).1;rw[QGx hlt,show l[i]=x from(QFS.1 hx).2,List.find?_cons];cases p x<;>rfl

def zc:List AV:=[.int .i64 0,.str [],.str [],.int .i64 0,.int .i64 0,.int .i64 0,.int .i64 0,.int .i64 0]

section progs
variable (L:List PG)(hl:L.length≤maxLen)(p:PG→Bool)(c:Nat)(cap:AV)(m:Ql)

def IxG (k:Nat)(st:St):Prop :=
 ∃f i,st=⟨f,Qf :: m,[]⟩∧k=L.length-i∧QS p L 0=QS p (L.drop i) i∧f 0=.list (L.map QV)∧f 1=.fn (.func c) [] [cap.sh]∧f 7=.int .i64 (L.length:Nat)∧f 8=.int .i64 (i:Nat)

include hl in
theorem y51 (hc:∀o∈L,Qn Tryz.prog c [QV o,cap.sh] (Qf :: m) fun y m1=>y=.bool (p o)∧m1=Qf :: m) :
  Qn Tryz.prog 51 [.list (L.map QV),.fn (.func c) [] [cap]] m fun y m1=>y=.int .i64 (QS p L 0)∧m1=m:=by
 refine k51.go (by simp) ?_;simp only[QG7,Qa,seval];refine Qd (IxG L p c cap m) _ ⟨_,0,rfl,rfl,rfl,(by rfl),(by rfl),(by rfl),(by rfl)⟩ ?_;rintro _ st ⟨f,i,rfl,rfl,hx,h0,h1,h7,h8⟩;simp only[h7,h8,Qa,seval];by_cases hlt:i<L.length
 ·obtain⟨x,hi⟩:∃x,L[i]? = some x:=⟨L[i],QFT hlt⟩;have hcl:=hc x (QF4 hi);have hg:(L.map QV)[i]? = some (QV x):=by simp[hi]
  have e1:=Qo i _ hlt hl;simp only[QV,PG.cells]at hcl;simp only[QC hlt,Qi,QHa,Qc,hg,QV,PG.cells,h0,h1,h8,eE,seval];refine XZ (fa:=[]) (fb:=[cap.sh]) (by rfl) hcl (by simp only[QGn,QGK,QGc,QGb,Qa,seval]) ?_;rw[XW p hi]at hx;cases hp:p x
  ·rw[hp]at hx;simp only[QF9,if_false]at hx;simp only[h8,e1,Qa,seval];exact⟨L.length-(i+1),by omega,_,i+1,rfl,rfl,hx,(by exact h0),(by exact h1),(by exact h7),(by rfl)⟩
  ·rw[hp]at hx;simp only[if_true]at hx;simp only[hx,Qa,seval]
 ·have hx':QS p L 0 = -1:=by rw[hx,QGr (by omega)];rfl
  simp only[QG hlt,hx',Qa,seval]

end progs

section items
variable (L:List PI)(hl:L.length≤maxLen)(p:PI→Bool)(c:Nat)(cap:AV)(m:Ql)

theorem Bh {α:Type}(p:α→Bool)(l:List α):decide (QS p l 0≥0)=l.any p:=by
 rcases Xo p l 0 with⟨h1,h2⟩|⟨k,o,h1,_,h3⟩
 ·rw[h1];have:l.any p=false:=by
   rw[List.any_eq_false];intro x hx;exact fun h=>by have:=QHx.1 h2 x hx;exact this h
  rw[this];rfl
 ·rw[h1];have:l.any p=true:=QHi.2 ⟨o,QHy h3,QHz h3⟩;rw[this];exact QHA (by omega)

end items

def pmi (b:Nat)(x:PI):Bool:=IntKind.u64.wrap x.num==(b:Int)
theorem y52 (g:PG)(frO:Nat→Ob)(s:List UInt8)(hf:frO 3=.cells [.str s]):Qn Tryz.prog 52 [QV g,.ptr 1 3 0] [Qf,frO] fun y m1=>y=.bool (g.name==s)∧m1=[Qf,frO]:=by
 refine k52.go (by simp) ?_;simp only[hf,QV,PG.cells,QB,eE,seval]

def AA (s:List UInt8)(L:List PG):AV:=.tup [.int .i64 (if QS (fun g:PG=>g.name==s) L 0<0 then 0 else QS (fun g:PG=>g.name==s) L 0),.bool (decide (QS (fun g:PG=>g.name==s) L 0≥0))]

theorem y26 (P:PL)(hl:P.progs.length≤maxLen)(s:List UInt8):Qs Tryz.prog 26 [P.av,.str s] (AA s P.progs):=by
 refine k26.fn (by simp) ?_;simp only[PL.av,eE,seval];refine Qb (y51 P.progs hl (fun g=>g.name==s) 52 (.ptr 0 3 0) _ fun g _=>y52 g _ s (by rfl)) (by simp only[QGn,QGK,Qa,seval]<;>rfl) ?_;unfold AA;by_cases h:QS (fun g:PG=>g.name==s) P.progs 0<0
 ·have d:decide (QS (fun g:PG=>g.name==s) P.progs 0<0)=true:=QHA h;simp only[QFY h,Qa,seval]
 ·have d:decide (QS (fun g:PG=>g.name==s) P.progs 0<0)=false:=QHt h;simp only[QFX h,Qa,seval]

def acp (E:List PE)(t:Int)(b:Nat):Bool :=
 if 0≤t∧t<E.length∧b≤2147483647 then
  match E[t.toNat]? with
  |some x=>x.opn||x.items.any (pmi b)
  |none=>false
 else false

def QAV (P:PL)(k tg kd:Int)(b:Nat)(t:List UInt8)(l p s r:List AV):Int :=
 if (kd != k||oth kd b t l p s r)=true then 12 else if decide ((t.length:Int) > 4096)=true then 3 else if (k==7 && !ZR t)=true then 7
 else if (!ZN k kd b t l p s r)=true then 12 else if (k==9 && !acp P.enums tg b)=true then 16 else 0

section
variable {M:Nat}(P:PL)(hP:P.ok M)(k tg kd:Int)(b:Nat)(t:List UInt8)(l p s r:List AV)(hl:l.length≤140737488351232)(hp:p.length≤140737488351232)(hs:s.length≤140737488351232)(hr:r.length≤140737488351232)

end

section
variable {M:Nat}(hM:M≤140737488351232)(P:PL)(hP:P.ok M)(fr:Nat→Ob)(m1:fr 1=.cells (Pc P))(f:Fr)(b:Bool)(h1:f 1=.ptr 0 1 0)(h3:f 3=.bool b)(Q:Exit→St→Prop)
include hM hP m1 h1 h3

end

section
variable {M:Nat}(P:PL)(hP:P.ok M)(fr:Nat→Ob)(m1:fr 1=.cells (Pc P))(f:Fr)(b:Bool)(h1:f 1=.ptr 0 1 0)(h3:f 3=.bool b)(Q:Exit→St→Prop)
include hP m1 h1 h3

end

section
variable (x:PE)(hl1:x.items.length≤maxLen)(hl:x.free.length≤maxLen)(P:PL)(f:Fr)(b:Bool)(j:Nat)(fr:Nat→Ob)(h1:f 1=.ptr 0 1 0)(h3:f 3=.bool b)(h7:f 7=.int .i64 (j:Nat))(h8:f 8=.ptr 0 8 0)(m1:fr 1=.cells (Pc P))(m8:fr 8=.cells x.cells)(Q:Exit→St→Prop)
include hl1 hl h1 h3 h7 h8 m8

end

section
variable {M:Nat}(P:PL)(hP:P.ok M)(fr:Nat→Ob)(m1:fr 1=.cells (Pc P))(f:Fr)(b:Bool)(h1:f 1=.ptr 0 1 0)(h3:f 3=.bool b)(Q:Exit→St→Prop)
include hP m1 h1 h3

end

section
variable (k kd:Int)(b:Nat)(t:List UInt8)(l p s r:List AV)(ht:t.length+8≤maxLen)

include ht in
theorem v67:Qs Tryz.prog 67 [.int .i64 k,vo kd b t l p s r] (.bool (ZN k kd b t l p s r)):=by
 have hl:=y90 kd b t l p s r;simp only[vo]at hl;have n1:(kd != k)=!(kd==k):=rfl;have n2:(t != [])=!(t==[]):=rfl;refine k67.fn (by simp) ?_;simp only[vo,ZN,eE,seval];refine aC (x89 k) ?_;cases hk:WW k
 ·simp only[QGR,QHd,Qa,seval]
 simp only[n1,QHq,QHp,eE,seval];cases a1:(kd==k)
 ·simp only[QGR,QHd,Qa,seval]
 have e:kd=k:=by simpa using a1
 subst e;simp only[QHq,QHp,eE,seval];refine aC hl ?_;cases WA l p s r
 ·simp only[QGR,QHd,Qa,seval]
 simp only[QHq,QHp,Qa,seval];refine aC (x91 kd) ?_;cases tx:Ku kd
 ·simp only[QF9,QB,eE,seval];cases a2:(t==[])
  ·simp only[QGR,QHd,Qa,seval]
  have e:t=[]:=by simpa using a2
  subst e;have k7:(kd != 7)=true:=by
   simp only[Ku,QGD,QHC]at tx;simp[tx.1]
  have d0:decide (((0:Nat):Int)≤4096)=true:=rfl;simp only[k7,QGV,QHq,QHp,QGX,QHr,Qa,seval];unfold Hb;by_cases h1:kd=1
  ·subst h1;have b1:((1:Int)==1)=true:=rfl;simp only[b1,eE,seval]
  ·have b1:(kd==1)=false:=by simp[h1]
   by_cases h2:kd=2
   ·subst h2;have b2:((2:Int)==2)=true:=rfl;simp only[b1,b2,h1,eE,seval];cases hd:decide (IntKind.i64.wrap (b:Int)≥-2147483648)<;>simp only[QHp,QHd,Qa,seval]
   ·have b2:(kd==2)=false:=by simp[h2]
    by_cases h4:kd=4
    ·subst h4;have b4:((4:Int)==4)=true:=rfl;simp only[b1,b2,b4,h1,h2,eE,seval]
    ·have b4:(kd==4)=false:=by simp[h4]
     by_cases h9:kd=9
     ·subst h9;have b9:((9:Int)==9)=true:=rfl;simp only[b1,b2,b9,b4,h1,h2,h4,eE,seval]
     ·have b9:(kd==9)=false:=by simp[h9]
      simp only[b1,b2,b9,b4,h1,h2,h4,h9,Qa,seval]
 ·simp only[eE,seval];cases a2:((b:Int)==0)
  ·simp only[QHd,Qa,seval]
  have hfn:Hb kd b=true:=by
   simp only[Ku,QGI,QGe]at tx;rcases tx with rfl|rfl<;>rfl
  cases a3:decide ((t.length:Int)≤4096)
  ·simp only[a3,hfn,QHd,QHD,eE,seval]
  simp only[Ku,QGI,QGe]at tx;rcases tx with rfl|rfl
  ·have c8:((7:Int)==8)=false:=rfl;have c7:((7:Int) != 7)=false:=rfl;simp only[a3,c8,c7,hfn,QHp,QHs,eE,seval];refine aC (c46 t ht) ?_;simp only[Qa,seval]
  ·have c8:((8:Int)==8)=true:=rfl;have c7:((8:Int) != 7)=true:=rfl;simp only[a3,c8,c7,hfn,QHr,eE,seval]

end

section
variable {M:Nat}(P:PL)(hP:P.ok M)(k tg kd:Int)(b:Nat)(t:List UInt8)(l p s r:List AV)(ht:t.length+8≤maxLen)(hs:s.length≤140737488351232)(hr:r.length≤140737488351232)

end
open Up So

def DX (l:List Int):Int:=l.foldl (fun a t=>a+(2:Int) ^ t.toNat) 0
def YN (x:List UInt8×Int×List Int):AV:=.agg [.int .i64 x.2.1,.int .i64 (DX x.2.2)]
def Bi:List AV→List (List UInt8×Int×List Int)→Bool
 | [],[]=>true
 |.agg [.int .i64 a,.int .i64 b] :: l,x :: r=>a==x.2.1&&b==DX x.2.2&&Bi l r
 |_,_=>false
theorem Qoh:∀ {l:List AV} {r:List (List UInt8×Int×List Int)},Bi l r=true→l=r.map YN:=by
 intro l
 induction l with
 |nil=>
  intro r h;cases r with
  |nil=>rfl
  |cons x r=>simp[Bi]at h
 |cons y l ih=>
  intro r h;cases r with
  |nil=>unfold Bi at h;split at h<;>simp_all
  |cons x r=>
   unfold Bi at h;split at h
   ·simp_all
   ·rename_i hl hr;cases hl;cases hr;simp only[QGd,QGe]at h;rw[QGn,←ih h.2,YN,←h.1.1,←h.1.2]
   ·cases h
theorem W3 (s:List UInt8):∀L:List (List UInt8×Int×List Int),ZP s (L.map Prod.fst) (L.map YN)=(L.find? fun x=>x.1==s).map YN
 | []=>rfl
 |x :: L=>by
  rw[QGn,QGn,ZP,W3 s L,List.find?_cons];rw[show(s==x.1)=(x.1==s)from BEq.comm];cases x.1==s<;>rfl

def W4:GJ:=fun k=>match k with
 |186=>some (PU,PV,16)
 |93=>some (r93,o93,21)
 |94=>some (r94,o94,48)
 |_=>none
theorem Kj:Uo Tryz.prog W4:=by
 intro k c rs N h;unfold W4 at h;split at h
 ·cases h;exact Qk0
 ·cases h;exact k93
 ·cases h;exact k94
 ·cases h
def pKn:Option (AV×Ql)→Bool
 |some (.mp ks vs,_)=>ks==nK.map Prod.fst&&Bi vs nK
 |_=>false
theorem Qoi:pKn (JF Ev.XC W4 (Zt Ev.XC W4 300) 186 [] [])=true:=by decide +kernel
theorem Qoj:Qs Tryz.prog 186 [] (.mp (nK.map Prod.fst) (nK.map YN)):=by
 have h:=Qoi;unfold pKn at h;split at h
 ·rename_i ks vs m' h1;rw[QGd,QGe]at h;rw[←h.1,←Qoh h.2];exact(ZU Ev.JG Kj (WT Ev.JG Kj 300) _ _ _ _ _ h1).mono fun _ _ e=>e.1
 ·cases h
def pKi (n:Int):Option (AV×Ql)→Bool
 |some (.int .i64 k,_)=>k==n
 |_=>false
def pKb (b:Bool):Option (AV×Ql)→Bool
 |some (.bool k,_)=>k==b
 |_=>false
def KY:List Int:=[1,2,3,4,5,6]
theorem Ra:nK.all (fun x=>pKi x.2.1 (JF Ev.XC W4 (Zt Ev.XC W4 300) 93 [.str x.1] []))=true:=by decide +kernel
theorem Rb:nK.all (fun x=>KY.all fun t=>pKb (x.2.2.contains t) (JF Ev.XC W4 (Zt Ev.XC W4 300) 94 [.str x.1,.int .i64 t] []))=true:=by decide +kernel
theorem Rd:nK.all (fun x=>KY.all fun t=>(bits .and .i64 ((DX x.2.2).fdiv (2 ^ (min t.toNat IntKind.i64.bits))) 1==0) == !(x.2.2.contains t))=true:=by decide +kernel
theorem Qok:nK.all (fun x=>decide (x.2.1≠0))=true:=by decide

theorem Wq {s:List UInt8}{x:List UInt8×Int×List Int}(h:nK.find? (fun x=>x.1==s)=some x):x∈nK∧x.1=s∧XJ s=x.2.1∧x.2.1≠0∧∀t,MB s t=x.2.2.contains t:=by
 have h1:=QHy h;have h2:x.1=s:=by simpa using QHz h
 have e:Bd s=some x.2:=by unfold Bd;rw[h];rfl
 refine⟨h1,h2,?_,?_,fun t=>?_⟩
 ·unfold XJ;rw[e];rfl
 ·simpa using QF3.1 Qok x h1
 ·unfold MB;rw[e];rfl
theorem Wr {s:List UInt8}(h:nK.find? (fun x=>x.1==s)=none):XJ s=0:=by
 have e:Bd s=none:=by unfold Bd;rw[h];rfl
 unfold XJ;rw[e];rfl

theorem QAW (s:List UInt8):Qs Tryz.prog 193 [.str s] (.int .i64 (XJ s)):=by
 have hm:=W3 s nK;refine Qlw.fn (by simp) ?_;simp only[Qa,seval];refine aC Qoj ?_;cases hf:nK.find? (fun x=>x.1==s)with
 |none=>
  rw[hf]at hm;simp only[Za,hm,Option.map_none,Wr hf,Qa,seval]
 |some x=>
  rw[hf]at hm;obtain⟨_,_,hk,_⟩:=Wq hf;have hg:AV.gr (.agg [.int .i64 x.2.1,.int .i64 (DX x.2.2)])=true:=rfl;simp only[Za,hm,QGg,YN,hg,hk,Qa,seval]

section
variable {M:Nat}(n:SN)(hn:n.ok M)(hM:M+8≤maxLen)

theorem Yx (n:SN):n.cells=[.str n.name,.int .i64 n.val.kd,.int .u64 (n.val.bits:Nat),.str n.val.text,.list (n.val.list.map V.av),.list (n.val.pairs.map V.pav),.list (n.val.slots.map V.sav),.list (n.val.raws.map R.av)]:=by
 rw[SN.cells,V.eta]

include hn in
theorem QAX:Qs Tryz.prog 187 [.agg n.cells] (.bool (HJ n)):=by
 have hv:=hn.val;have n1:=hv.nl;have n2:=hv.np;have n3:=hv.ns;have n4:=hv.nr;have hf:=Qoc (XJ n.name) n.val.kd n.val.bits n.val.text (n.val.list.map V.av) (n.val.pairs.map V.pav) (n.val.slots.map V.sav) (n.val.raws.map R.av) (by simp;omega) (by simp;omega) (by simp;omega) (by simp;omega);have he:HJ n=(XJ n.name != 0&&ZN (XJ n.name) n.val.kd n.val.bits n.val.text (n.val.list.map V.av) (n.val.pairs.map V.pav) (n.val.slots.map V.sav) (n.val.raws.map R.av)):=rfl;simp only[vo]at hf;rw[Yx,he];refine Qk6.fn (by simp) ?_;simp only[eE,seval];refine aC (QAW n.name) ?_;cases h0:(XJ n.name != 0)
 ·simp only[h0,QHd,Qa,seval]
 ·simp only[h0,QHp,eE,seval];refine aC hf ?_;simp only[Qa,seval]

include hn in
theorem QAY (t:Int)(ht:t∈KY)(last:List UInt8)(ok:Bool):Qs Tryz.prog 175 [.agg n.cells,.int .i64 t,.str last,.bool ok] (.int .i64 (JI t (if ok=true then some last else none) n)):=by
 have hr:=QAX n hn;have hm:=W3 n.name nK;have t1:decide (t<1)=false:=by simp[KY]at ht;exact QHt (by omega)
 have t2:decide (t > 6)=false:=by simp[KY]at ht;exact QHt (by omega)
 have t3:(0≤t)=True:=by simp[KY]at ht;simp;omega
 have hrt:HJ n=(XJ n.name != 0&&n.val.fitk (XJ n.name)):=rfl;rw[Yx]at hr ⊢;unfold JI;refine Qjp.fn (by simp) ?_;simp only[eE,seval];refine aC Qoj ?_;cases hf:nK.find? (fun x=>x.1==n.name)with
 |none=>
  rw[hf]at hm;rw[QFY (Wr hf)];simp only[hm,Option.map_none,eE,seval]
 |some x=>
  rw[hf]at hm;obtain⟨hx,_,hk,h0,htg⟩:=Wq hf;have hg:AV.gr (.agg [.int .i64 x.2.1,.int .i64 (DX x.2.2)])=true:=rfl;have hb:(bits .and .i64 ((DX x.2.2).fdiv (2 ^ (min t.toNat IntKind.i64.bits))) 1==0)=!(x.2.2.contains t):=by simpa using QF3.1 (QF3.1 Rd x hx) t ht
  have hb2:(bits .and .i64 ((DX x.2.2).fdiv (2 ^ (min t.toNat 64))) 1==0)=!(x.2.2.contains t):=hb;rw[QFX (by rw[hk];exact h0),htg t];have hrt':HJ n=n.val.fitk (XJ n.name):=by rw[hrt,hk];simp[h0]
  simp only[hm,QGg,YN,hg,t1,t2,t3,hb2,eE,seval];cases hc:x.2.2.contains t
  ·simp only[QGR,Qa,seval]
  ·simp only[QHq,Bool.true_eq_false,eE,seval];refine aC hr ?_;rw[hrt'];cases hq:n.val.fitk (XJ n.name)
   ·simp only[QGR,Qa,seval]
   ·simp only[QHq,Bool.true_eq_false,Qa,seval];cases ok
    ·simp only[QF9,Qa,seval]
    ·simp only[eE,seval];cases hl:Op.bytesLess n.name last
     ·simp only[QB,hl,QF9,eE,seval];by_cases he:n.name=last
      ·have b0:(n.name==last)=true:=by simp[he]
       simp only[b0,QFY he,Qa,seval]
      ·have b0:(n.name==last)=false:=by simp[he]
       simp only[b0,QFX he,Qa,seval]
     ·simp only[QB,hl,Qa,seval]
end

def Zn (l:List SN):Nat→Option (List UInt8)
 |0=>none
 |i+1=>(l[i]?).map SN.name
theorem JK {l:List SN}{i:Nat}{x:SN}(h:l[i]? = some x):Zn l (i+1)=some x.name:=by
 rw[Zn,h];rfl
theorem DY {t:Int}{l:List SN}{i:Nat}{x:SN}(h:l[i]? = some x)(la:Option (List UInt8)):WB t la (l.drop i)=if JI t la x=0 then WB t (some x.name) (l.drop (i+1))else JI t la x:=by
 have hlt:i<l.length:=(QFS.1 h).1;rw[QGx hlt,show l[i]=x from(QFS.1 h).2];rfl

def KcI (l:List SN)(t:Int)(k:Nat)(st:St):Prop :=
 ∃f fr i la,st=⟨f,[fr],[]⟩∧k=l.length-i∧i≤l.length∧WB t none l=WB t (Zn l i) (l.drop i)∧f 5=.str la∧(i=0∨Zn l i=some la)∧f 1=.int .i64 t∧f 12=.list (l.map fun n=>.agg n.cells)∧f 13=.int .i64 (l.length:Nat)∧f 14=.int .i64 (i:Nat)∧∀s∈[7],(fr s).isRow=false

theorem Qol {M:Nat}(l:List SN)(hl:l.length≤maxLen)(hn:∀n∈l,n.ok M)(t:Int)(ht:t∈KY):Qs Tryz.prog 154 [.list (l.map fun n=>.agg n.cells),.int .i64 t] (.int .i64 (XX l t)):=by
 unfold XX;refine Qg6.fn (by simp) ?_;simp only[QG7,Qa,seval];by_cases h8:l.length > 8
 ·have d:decide ((l.length:Int) > 8)=true:=QHA (by omega);rw[QFY h8];simp only[d,Qa,seval]
 have d:decide ((l.length:Int) > 8)=false:=QHt (by omega);rw[QFX h8];simp only[d,Qa,seval];refine Qd (KcI l t) _ ⟨_,_,0,[],rfl,rfl,QFZ _,rfl,(by rfl),.inl rfl,(by rfl),(by rfl),(by simp only[QG7,Qa,seval]),(by rfl),by simp<;>rfl⟩ ?_;rintro _ st ⟨f0,fr0,i,la,rfl,rfl,hi,hc,h50,hla,h10,h120,h130,h140,r7⟩;refine Qz (a:=_) [7] r7 ?_;intro f fr hff hm hn7;have h1:f 1=.int .i64 t:=by rw[hff,h10]<;>rfl
 have h5:f 5=.str la:=by rw[hff,h50]<;>rfl
 have h12:f 12=.list (l.map fun n=>.agg n.cells):=by rw[hff,h120]<;>rfl
 have h13:f 13=.int .i64 (l.length:Nat):=by rw[hff,h130]<;>rfl
 have h14:f 14=.int .i64 (i:Nat):=by rw[hff,h140]<;>rfl
 have n7:=hn7 7 (by decide);clear hff hm hn7 h10 h50 h120 h130 h140 r7;simp only[h13,h14,Qa,seval];by_cases hlt:i<l.length
 ·obtain⟨x,hi'⟩:∃x,l[i]? = some x:=⟨l[i],QFT hlt⟩;have hg:(l.map fun n=>AV.agg n.cells)[i]? = some (.agg x.cells):=by simp[hi']
  have e1:=Qo i _ hlt hl;have ho:=QAY x (hn x (QF4 hi')) t ht la (decide ((i:Int) > 0));have hx:(if decide ((i:Int) > 0)=true then some la else none)=Zn l i:=by
   rcases QGB i with h0|h0
   ·subst h0;rfl
   ·rw[QFY (QHA (by omega))];rcases hla with h|h
    ·omega
    ·exact h.symm
  rw[hx]at ho;rw[DY hi']at hc;rw[Yx]at hg ho;simp only[QC hlt,Qi,QHa,Qc,hg,n7,h1,h5,h12,h14,eE,seval];refine aC ho ?_;by_cases hz:JI t (Zn l i) x=0
  ·have d0:(JI t (Zn l i) x != 0)=false:=by simp[hz]
   rw[QFY hz]at hc;simp only[d0,h14,e1,eE,seval];exact⟨l.length-(i+1),by omega,_,_,i+1,x.name,rfl,rfl,by omega,by rw[hc,JK hi'],(by rfl),.inr (JK hi'),(by exact h1),(by exact h12),(by exact h13),(by rfl),by simp<;>rfl⟩
  ·have d0:(JI t (Zn l i) x != 0)=true:=by simp[hz]
   rw[QFX hz]at hc;simp only[d0,hc,Qa,seval]
 ·rw[QGr (by omega)]at hc;have hc':WB t none l=0:=hc;simp only[QG hlt,hc',Qa,seval]

theorem y93 (s:List UInt8):Qs Tryz.prog 93 [.str s] (.int .i64 (XJ s)):=by
 cases hf:nK.find? (fun x=>x.1==s)with
 |some x=>
  obtain⟨hx,hs,hk,_,_⟩:=Wq hf;have h:=QF3.1 Ra x hx;rw[hs]at h;rw[hk];unfold pKi at h;split at h
  ·rename_i k m' h1;rw[QGe]at h;subst h;exact(ZU Ev.JG Kj (WT Ev.JG Kj 300) _ _ _ _ _ h1).mono fun _ _ e=>e.1
  ·cases h
 |none=>
  have hno:=QHx.1 hf;have hb:∀x∈nK,(s==x.1)=false:=fun x hx=>by
   have:=hno x hx;rw[BEq.comm]
   simpa using this
  simp only[nK,List.forall_mem_cons,QHG,false_implies,implies_true,and_true]at hb;obtain⟨b1,b2,b3,b4,b5,b6,b7,b8,b9,b10,b11,b12,b13⟩:=hb;rw[Wr hf];refine k93.fn (by simp) ?_;simp only[QB,b1,b2,b3,b4,b5,b6,b7,b8,b9,b10,b11,b12,b13,Qa,seval]
theorem y94 (s:List UInt8)(hs:XJ s≠0)(t:Int)(ht:t∈KY):Qs Tryz.prog 94 [.str s,.int .i64 t] (.bool (MB s t)):=by
 cases hf:nK.find? (fun x=>x.1==s)with
 |some x=>
  obtain⟨hx,hs,_,_,hk⟩:=Wq hf;have h:=QF3.1 (QF3.1 Rb x hx) t ht;rw[hs]at h;rw[hk t];unfold pKb at h;split at h
  ·rename_i k m' h1;rw[QGe]at h;subst h;exact(ZU Ev.JG Kj (WT Ev.JG Kj 300) _ _ _ _ _ h1).mono fun _ _ e=>e.1
  ·cases h
 |none=>exact absurd (Wr hf) hs

theorem IU {n:V}{k:Int}(h:n.fitk k=true):n.kd=k:=by
 unfold V.fitk ZN at h;simp only[QGd,QGe]at h;exact h.1.1.1.1.1.2
section
variable {M:Nat}(n:SN)(hn:n.ok M)(hM:M+8≤maxLen)
include hn hM in
theorem y95:Qs Tryz.prog 95 [.agg n.cells] (.bool (HJ n)):=by
 have hf:=v67 (XJ n.name) n.val.kd n.val.bits n.val.text (n.val.list.map V.av) (n.val.pairs.map V.pav) (n.val.slots.map V.sav) (n.val.raws.map R.av) (by have:=hn.val.text;omega);have he:HJ n=(XJ n.name != 0&&ZN (XJ n.name) n.val.kd n.val.bits n.val.text (n.val.list.map V.av) (n.val.pairs.map V.pav) (n.val.slots.map V.sav) (n.val.raws.map R.av)):=rfl;have hk:n.val.fitk (XJ n.name)=ZN (XJ n.name) n.val.kd n.val.bits n.val.text (n.val.list.map V.av) (n.val.pairs.map V.pav) (n.val.slots.map V.sav) (n.val.raws.map R.av):=rfl;simp only[vo]at hf;rw[Yx,he,←hk];rw[←hk]at hf;refine k95.fn (by simp) ?_;simp only[eE,seval];refine aC (y93 n.name) ?_;cases h0:(XJ n.name != 0)
 ·simp only[h0,QHd,Qa,seval]
 simp only[h0,QHp,eE,seval];cases a1:(n.val.kd==XJ n.name)
 ·have e:n.val.fitk (XJ n.name)=false:=by
   rw[QHw];intro h;rw[IU h]at a1;simp at a1
  simp only[e,Qa,seval]
 ·simp only[eE,seval];refine aC hf ?_;simp only[Qa,seval]
end

def ScI (l:List SN)(t:Int)(k:Nat)(st:St):Prop :=
 ∃f i,st=⟨f,[Qf],[]⟩∧k=l.length-i∧i≤l.length∧WB t none l=WB t (Zn l i) (l.drop i)∧f 0=.list (l.map fun n=>.agg n.cells)∧f 1=.int .i64 t∧f 5=.int .i64 (i:Nat)

theorem y69 {M:Nat}(hM:M+8≤maxLen)(l:List SN)(hl:l.length≤maxLen)(hn:∀n∈l,n.ok M)(t:Int)(ht:t∈KY):Qs Tryz.prog 69 [.list (l.map fun n=>.agg n.cells),.int .i64 t] (.int .i64 (XX l t)):=by
 unfold XX;refine k69.fn (by simp) ?_;simp only[QG7,Qa,seval];by_cases h8:l.length > 8
 ·have d:decide ((l.length:Int) > 8)=true:=QHA (by omega);rw[QFY h8];simp only[d,Qa,seval]
 have d:decide ((l.length:Int) > 8)=false:=QHt (by omega);rw[QFX h8];simp only[d,Qa,seval];refine Qd (ScI l t) _ ⟨_,0,rfl,rfl,QFZ _,rfl,(by rfl),(by rfl),(by rfl)⟩ ?_;rintro _ st ⟨f,i,rfl,rfl,hi,hc,h0,h1,h5⟩;simp only[QG7,h0,h5,Qa,seval];by_cases hlt:i<l.length
 case neg=>
  rw[QGr (by omega)]at hc;have hc':WB t none l=0:=hc;simp only[QG hlt,hc',Qa,seval]
 obtain⟨x,hi'⟩:∃x,l[i]? = some x:=⟨l[i],QFT hlt⟩;have hx:=hn x (QF4 hi');have hg:(l.map fun n=>AV.agg n.cells)[i]? = some (.agg x.cells):=by simp[hi']
 have e1:=Qo i _ hlt hl;have hr:=y95 x hx hM;have hrt:HJ x=(XJ x.name != 0&&x.val.fitk (XJ x.name)):=rfl;rw[DY hi']at hc;rw[Yx]at hg hr;simp only[QC hlt,Qi,QHa,Qc,hg,h0,h5,eE,seval];refine aC (y93 x.name) ?_;by_cases hk:XJ x.name=0
 ·have b0:(XJ x.name==0)=true:=by simp[hk]
  have hz:JI t (Zn l i) x=8:=by unfold JI;rw[QFY hk]
  rw[hz,QFX (by decide)]at hc;simp only[b0,hc,Qa,seval]
 have b0:(XJ x.name==0)=false:=by simp[hk]
 simp only[b0,Qi,QHa,Qc,hg,h0,h1,h5,eE,seval];refine aC (y94 x.name hk t ht) ?_;cases a1:MB x.name t
 ·have hz:JI t (Zn l i) x=1:=by unfold JI;rw[QFX hk,QFY a1]
  rw[hz,QFX (by decide)]at hc;simp only[QGR,hc,Qa,seval]
 simp only[QHq,Qi,QHa,Qc,hg,h0,h5,eE,seval];refine aC hr ?_;have hrt':HJ x=x.val.fitk (XJ x.name):=by rw[hrt];simp[hk]
 rw[hrt'];cases a2:x.val.fitk (XJ x.name)
 ·have hz:JI t (Zn l i) x=12:=by unfold JI;rw[QFX hk,QFX (by rw[a1];decide),QFY a2]
  rw[hz,QFX (by decide)]at hc;simp only[QGR,hc,Qa,seval]
 have hz:JI t (Zn l i) x=match Zn l i with
   |none=>0
   |some s=>if Op.bytesLess x.name s=true then 11 else if x.name=s then 9 else 0:=by
  unfold JI;rw[QFX hk,QFX (by rw[a1];decide),QFX (by rw[a2];decide)]<;>cases Zn l i<;>rfl
 cases i with
 |zero=>
  have c1:decide (((0:Nat):Int) > 0)=false:=rfl;have hz':JI t (Zn l 0) x=0:=hz;rw[QFY hz']at hc;simp only[QHq,h5,Qa,seval];exact⟨l.length-(0+1),by omega,_,0+1,rfl,rfl,by omega,by rw[hc,JK hi'],(by exact h0),(by exact h1),(by rfl)⟩
 |succ j=>
  obtain⟨p,hj⟩:∃p,l[j]? = some p:=⟨l[j],QFT (by omega)⟩;have hgj:(l.map fun n=>AV.agg n.cells)[j]? = some (.agg p.cells):=by simp[hj]
  have e2:=JU j _ hlt hl;have c1:decide (((j+1:Nat):Int) > 0)=true:=QHA (by omega);rw[JK hj]at hz hc;dsimp only at hz;rw[Yx]at hgj;simp only[QHq,c1,e2,Qi,QHa,Qc,hg,hgj,QB,h0,h5,eE,seval];cases a3:Op.bytesLess x.name p.name
  ·rw[a3,QFX (by decide)]at hz;by_cases a4:x.name=p.name
   ·have b4:(x.name==p.name)=true:=by simp[a4]
    rw[QFY a4]at hz;rw[hz,QFX (by decide)]at hc;simp only[b4,c1,e2,Qi,QHa,Qc,hg,hgj,QB,hc,h0,h5,eE,seval]
   ·have b4:(x.name==p.name)=false:=by simp[a4]
    rw[QFX a4]at hz;rw[QFY hz]at hc;simp only[b4,c1,e2,Qi,QHa,Qc,hg,hgj,QB,h0,h5,e1,eE,seval];exact⟨l.length-(j+1+1),by omega,_,j+1+1,rfl,rfl,by omega,by rw[hc,JK hi'],(by exact h0),(by exact h1),(by rfl)⟩
  ·rw[a3,QFY rfl]at hz;rw[hz,QFX (by decide)]at hc;simp only[hc,Qa,seval]

def J8 (S:SC)(n:List UInt8):Int:=QS (fun m:SM=>m.name==n) S.msgs 0
def Xa (S:SC)(F:List Bool)(m:SM):Bool:=(XU m).any fun n=>decide (J8 S n≥0) && !(F[(J8 S n).toNat]?.getD false)
def JP (S:SC)(F:List Bool)(i:Nat):List Bool:=match S.msgs[i]? with
 |none=>F
 |some m=>if F[i]? = some false∧Xa S F m=false then F.set i true else F
def Q0 (S:SC)(F:List Bool):Nat→List Bool
 |0=>F
 |i+1=>JP S (Q0 S F i) i
def Zu (S:SC):Nat→List Bool→List Bool
 |0,F=>F
 |k+1,F=>if Q0 S F S.msgs.length=F then F else Zu S k (Q0 S F S.msgs.length)
def QM (S:SC):List Bool:=Zu S S.msgs.length (List.replicate S.msgs.length false)

theorem IV (S:SC)(F:List Bool)(i:Nat):(JP S F i).length=F.length:=by
 unfold JP;split
 ·rfl
 ·split
  ·exact List.length_set ..
  ·rfl
theorem JV (S:SC)(F:List Bool):∀i,(Q0 S F i).length=F.length
 |0=>rfl
 |i+1=>by rw[Q0,IV,JV S F i]
theorem YO (S:SC):∀(k:Nat) (F:List Bool),(Zu S k F).length=F.length
 |0,_=>rfl
 |k+1,F=>by
  rw[Zu];split
  ·rfl
  ·rw[YO S k,JV]

def WE (F:List Bool):Nat:=F.countP id
theorem Bj {F:List Bool}{i:Nat}(h:F[i]? = some false):WE (F.set i true)=WE F+1:=by
 induction F generalizing i with
 |nil=>cases h
 |cons b F ih=>
  cases i with
  |zero=>
   simp only[QGL,QGh]at h;subst h;simp[WE]
  |succ i=>
   simp only[QGQ]at h;have:=ih h;unfold WE at this ⊢;rw[List.set_cons_succ,List.countP_cons,List.countP_cons,this];omega
theorem Qom (F:List Bool):WE F≤F.length:=List.countP_le_length
theorem Hi (S:SC)(F:List Bool)(i:Nat):JP S F i=F∨WE (JP S F i)=WE F+1:=by
 unfold JP;split
 ·exact .inl rfl
 ·split
  ·rename_i h;exact .inr (Bj h.1)
  ·exact .inl rfl
theorem Kk (S:SC)(F:List Bool):∀i,Q0 S F i=F∨WE F<WE (Q0 S F i)
 |0=>.inl rfl
 |i+1=>by
  rw[Q0];rcases Kk S F i with h|h
  ·rw[h];rcases Hi S F i with g|g
   ·exact .inl g
   ·exact .inr (by omega)
  ·rcases Hi S (Q0 S F i) i with g|g
   ·exact .inr (by rw[g];exact h)
   ·exact .inr (by omega)
theorem Ws (S:SC):∀(k:Nat) (F:List Bool),F.length-WE F≤k→Q0 S (Zu S k F) S.msgs.length=Zu S k F
 |0,F,h=>by
  rw[Zu];rcases Kk S F S.msgs.length with g|g
  ·exact g
  ·have h1:=Qom (Q0 S F S.msgs.length);rw[JV]at h1;omega
 |k+1,F,h=>by
  rw[Zu];split
  ·rename_i e;exact e
  ·rename_i e;refine Ws S k _ ?_;rcases Kk S F S.msgs.length with g|g
   ·exact absurd g e
   ·rw[JV];omega

theorem W5 (S:SC):∀(k:Nat) (F:List Bool),∃j,j≤k∧Zu S k F=Nat.repeat (fun F=>Q0 S F S.msgs.length) j F∧(j<k→Q0 S (Zu S k F) S.msgs.length=Zu S k F)
 |0,F=>⟨0,QFQ _,rfl,fun h=>by omega⟩
 |k+1,F=>by
  by_cases e:Q0 S F S.msgs.length=F
  ·exact⟨0,QFZ _,by rw[Zu,QFY e];rfl,fun _=>by rw[Zu,QFY e];exact e⟩
  ·obtain⟨j,h1,h2,h3⟩:=W5 S k (Q0 S F S.msgs.length);have hrep:∀(j:Nat) (F:List Bool),Nat.repeat (fun F=>Q0 S F S.msgs.length) (j+1) F=Nat.repeat (fun F=>Q0 S F S.msgs.length) j (Q0 S F S.msgs.length):=by
    intro j
    induction j with
    |zero=>intro F;rfl
    |succ j ih=>intro F;show Q0 S (Nat.repeat _ (j+1) F) _=_;rw[ih F];rfl
   refine⟨j+1,by omega,by rw[Zu,QFX e,h2,hrep],fun hj=>?_⟩;rw[Zu,QFX e];exact h3 (by omega)

def W6 (S:SC)(F:List Bool)(X:List (List UInt8)):Prop:=F.length=S.msgs.length∧∀(i:Nat) (m:SM),S.msgs[i]? = some m→(X.contains m.name=true↔F[i]? = some true)
def AB (S:SC):Prop:=∀(i j:Nat) (m n:SM),S.msgs[i]? = some m→S.msgs[j]? = some n→m.name=n.name→i=j

section
variable {S:SC}(hD:AB S)
include hD
theorem MH {i:Nat}{m:SM}(h:S.msgs[i]? = some m):J8 S m.name=(i:Int):=by
 unfold J8;rcases Xo (fun x:SM=>x.name==m.name) S.msgs 0 with⟨_,hn⟩|⟨k,o,h1,h2,h3⟩
 ·have:=QHx.1 hn m (QF4 h);simp at this
 ·have hn:o.name=m.name:=by simpa using QHz h3
  have:=hD k i o m h2 h hn;rw[h1];omega
theorem IW {i:Nat}{m:SM}(h:S.msgs[i]? = some m):S.msgs.find? (fun x=>x.name==m.name)=some m:=by
 rcases Xo (fun x:SM=>x.name==m.name) S.msgs 0 with⟨_,hn⟩|⟨k,o,h1,h2,h3⟩
 ·have:=QHx.1 hn m (QF4 h);simp at this
 ·have hn:o.name=m.name:=by simpa using QHz h3
  have:=hD k i o m h2 h hn;subst this;rw[h2]at h;cases h;exact h3
theorem Bk {F:List Bool}{X:List (List UInt8)}(h:W6 S F X)(m:SM):(XU m).any (fun n=>QW S n && !X.contains n)=Xa S F m:=by
 unfold Xa;congr 1
 funext n;cases hm:QW S n with
 |false=>
  have:¬J8 S n≥0:=by
   unfold J8;rcases Xo (fun x:SM=>x.name==n) S.msgs 0 with⟨h1,_⟩|⟨k,o,_,h2,h3⟩
   ·rw[h1];decide
   ·unfold QW at hm;have:=List.any_eq_false.1 hm o (QF4 h2);exact absurd (QHz h3) this
  rw[QHt this];rfl
 |true=>
  unfold QW at hm;obtain⟨x,hx,hxn⟩:=QHi.1 hm;obtain⟨i,hi,rfl⟩:=List.getElem_of_mem hx;have hxi:S.msgs[i]? = some S.msgs[i]:=QFT hi;have hxn:S.msgs[i].name=n:=by simpa using hxn
  subst hxn;rw[MH hD hxi,QHA (by omega),QHa];obtain⟨hl,h2⟩:=h;have h3:=h2 i _ hxi;have hF:F[i]? = some (F[i]'(by omega)):=QFT (by omega);rw[hF]at h3 ⊢;simp only[QGh,QGU]at h3 ⊢;cases hb:F[i]'(by omega)<;>cases hc:X.contains S.msgs[i].name<;>simp_all
theorem IX {F:List Bool}{X:List (List UInt8)}(h:W6 S F X){i:Nat}{m:SM}(hm:S.msgs[i]? = some m):W6 S (JP S F i) (Zf S X m):=by
 have hne:=Bk hD h m;unfold Zf JP;rw[hm,IW hD hm];dsimp only;rw[hne];obtain⟨hl,h2⟩:=h;have h3:=h2 i m hm;have hi:i<S.msgs.length:=(QFS.1 hm).1;have hF:F[i]? = some (F[i]'(by omega)):=QFT (by omega);cases hs:Xa S F m with
 |true=>
  rw[QFY (show true=true from rfl),QFX (fun h:F[i]? = some false∧true=false=>by cases h.2)];exact⟨hl,h2⟩
 |false=>
  rw[QFX (show ¬(false=true)by decide)];by_cases hc:X.contains m.name=true
  ·have:=h3.1 hc;rw[QFY hc,QFX (fun h:F[i]? = some false∧false=false=>by rw[this]at h;cases h.1)];exact⟨hl,h2⟩
  ·have hf:F[i]? = some false:=by
    cases hb:F[i]'(by omega)with
    |false=>rw[hF,hb]
    |true=>exact absurd (h3.2 (by rw[hF,hb])) hc
   rw[QFX hc,QFY (show F[i]? = some false∧false=false from⟨hf,rfl⟩)];refine⟨by rw[List.length_set];exact hl,fun j n hn=>?_⟩;have h4:=h2 j n hn;rw[List.getElem?_set];by_cases hij:i=j
   ·subst hij;rw[hm]at hn;cases hn;rw[QFY rfl,QFY (by omega)];simp
   ·rw[QFX hij,←h4];have hnn:n.name≠m.name:=fun e=>hij (hD i j m n hm hn e.symm)
    simp only[QHH,QG0,QHI];exact⟨fun h=>h.resolve_right hnn,.inl⟩
theorem DZ {F:List Bool}{X:List (List UInt8)}(h:W6 S F X):∀i,i≤S.msgs.length→W6 S (Q0 S F i) ((S.msgs.take i).foldl (Zf S) X)
 |0,_=>by simpa [Q0]using h
 |i+1,hi=>by
  have ih:=DZ h i (by omega);have hm:S.msgs[i]? = some (S.msgs[i]'(by omega)):=QFT (by omega);rw[Q0,QHk,hm,List.foldl_append];exact IX hD ih hm
theorem MI {F:List Bool}{X:List (List UInt8)}(h:W6 S F X):W6 S (Q0 S F S.msgs.length) (YM S X):=by
 have:=DZ hD h S.msgs.length (QFQ _)
 rwa [QHh]at this
theorem D0 {F:List Bool}{X:List (List UInt8)}(h:W6 S F X):∀(k:Nat),W6 S (Nat.repeat (fun F=>Q0 S F S.msgs.length) k F) (Nat.repeat (YM S) k X)
 |0=>h
 |k+1=>MI hD (D0 h k)
theorem Qon:W6 S (QM S) (Wp S):=by
 have h0:W6 S (List.replicate S.msgs.length false) []:=by
  refine⟨QHb,fun i m hm=>?_⟩;have hi:=(QFS.1 hm).1;rw[List.getElem?_replicate,QFY hi];simp
 obtain⟨j,h1,h2,h3⟩:=W5 S S.msgs.length (List.replicate S.msgs.length false);have hfix:Q0 S (QM S) S.msgs.length=QM S:=Ws S _ _ (by rw[QHb];omega);have hX:∀k,Wo S k=Nat.repeat (YM S) k []:=by
  intro k
  induction k with
  |zero=>rfl
  |succ k ih=>rw[Wo,ih];rfl
 have hstay:∀d,Nat.repeat (fun F=>Q0 S F S.msgs.length) d (QM S)=QM S:=by
  intro d
  induction d with
  |zero=>rfl
  |succ d ih=>show Q0 S (Nat.repeat _ d (QM S)) _=_;rw[ih,hfix]
 have hadd:∀d (F:List Bool),Nat.repeat (fun F=>Q0 S F S.msgs.length) (d+j) F=Nat.repeat (fun F=>Q0 S F S.msgs.length) d (Nat.repeat (fun F=>Q0 S F S.msgs.length) j F):=by
  intro d
  induction d with
  |zero=>intro F;rw[QGf];rfl
  |succ d ih=>intro F;rw[show d+1+j=(d+j)+1 by omega];show Q0 S (Nat.repeat _ (d+j) F) _=_;rw[ih F];rfl
 have:=D0 hD h0 (S.msgs.length+1);rw[←hX,show S.msgs.length+1=(S.msgs.length+1-j)+j by omega,hadd,←h2,show Zu S S.msgs.length (List.replicate S.msgs.length false)=QM S from rfl,hstay]at this;rw[show(S.msgs.length+1-j)+j=S.msgs.length+1 by omega]at this;exact this
theorem MJ (m:SM):UR S m=Xa S (QM S) m:=Bk hD (Qon hD) m
end

end Go.Proofs.YtnpajgoobomndaaGreatDoor.Va

namespace Go.Proofs.YtnpajgoobomndaaGreatDoor.Va
open Go Am Rc Bt Br Up

def _root_.Go.Proofs.YtnpajgoobomndaaGreatDoor.Br.V.oth (v:V):Bool:=Va.oth v.kd v.bits v.text (v.list.map V.av) (v.pairs.map V.pav) (v.slots.map V.sav) (v.raws.map R.av)
def _root_.Go.Proofs.YtnpajgoobomndaaGreatDoor.Br.V.one (P:PL)(k tg:Int)(v:V):Int:=QAV P k tg v.kd v.bits v.text (v.list.map V.av) (v.pairs.map V.pav) (v.slots.map V.sav) (v.raws.map R.av)

section
variable (m:PG→V→Int)(P:PL)
end

mutual
def _root_.Go.Proofs.YtnpajgoobomndaaGreatDoor.Br.V.cnt:V→Nat
 |.mk _ _ _ l p s r=>1+r.length+Qoo l+Qop p+Qoq s
def Qoo:List V→Nat
 | []=>0
 |x :: l=>x.cnt+Qoo l
def Qop:List (V×V)→Nat
 | []=>0
 |(a,b) :: l=>a.cnt+b.cnt+Qop l
def Qoq:List (Int×V)→Nat
 | []=>0
 |(_,a) :: l=>a.cnt+Qoq l
end

inductive Thin:V→Prop
 |mk {v:V} (n:v.list.length+2*v.pairs.length+v.slots.length≤1099511627776) (list:∀x∈v.list,Thin x) (keys:∀x∈v.pairs,Thin x.1) (vals:∀x∈v.pairs,Thin x.2) (slots:∀x∈v.slots,Thin x.2):Thin v

open So

section sorting
variable {α:Type}{lt:α→α→Bool}
end sorting

theorem YP:∀ {a b c:List UInt8},Op.bytesLess a b=true→Op.bytesLess b c=true→Op.bytesLess a c=true
 |a,b,[],_,h=>by cases b<;>simp[Op.bytesLess]at h
 | [],_,_ :: _,_,_=>by simp[Op.bytesLess]
 |x :: a,[],_ :: _,h,_=>by simp[Op.bytesLess]at h
 |x :: a,y :: b,z :: c,h,k=>by
  simp only[Op.bytesLess,QGI,QGd,QG4,QGe]at h k ⊢;rcases h with h|⟨h1,h2⟩<;>rcases k with k|⟨k1,k2⟩
  ·exact .inl (UInt8.lt_trans h k)
  ·subst k1;exact .inl h
  ·subst h1;exact .inl k
  ·subst h1 k1;exact .inr ⟨rfl,YP h2 k2⟩
theorem HL:∀ {a b:List UInt8},Op.bytesLess a b=false→Op.bytesLess b a=false→a=b
 | [],[],_,_=>rfl
 | [],_ :: _,h,_=>by simp[Op.bytesLess]at h
 |_ :: _,[],_,h=>by simp[Op.bytesLess]at h
 |x :: a,y :: b,h,k=>by
  simp only[Op.bytesLess,QGD,QHF,QHB,QHC]at h k;have e:x=y:=by
   rcases Nat.lt_trichotomy x.toNat y.toNat with g|g|g
   ·exact absurd (UInt8.lt_iff_toNat_lt.2 g) h.1
   ·exact UInt8.toNat_inj.1 g
   ·exact absurd (UInt8.lt_iff_toNat_lt.2 g) k.1
  subst e;rw[HL (h.2.resolve_left fun g=>g rfl) (k.2.resolve_left fun g=>g rfl)]
theorem J2:∀a:List UInt8,Op.bytesLess a a=false
 | []=>rfl
 |x :: a=>by simp[Op.bytesLess,J2 a]

def kl (k:Int)(a b:V):Bool :=
 if Ku k=true then Op.bytesLess a.text b.text else if (k==2||k==3)=true then decide (IntKind.i64.wrap (a.bits:Int)<IntKind.i64.wrap (b.bits:Int))else decide ((a.bits:Int)<(b.bits:Int))
section
variable (nm:PG→V→V)(P:PL)
end

theorem JW {α β:Type}(f:α→β)(lt:β→β→Bool)(l:List α):Xx (l.map f) lt=Xx l (fun x y=>lt (f x) (f y)):=by
 unfold Xx;rw[QG7];refine UN fun i hi=>?_
 cases i with
 |zero=>rfl
 |succ k=>
  rw[Je (x:=f (l[k]'(by omega))) (y:=f l[k+1]) (by rw[QG5,QFT (by omega)];rfl) (by rw[QG5,QFT hi];rfl)];rw[Je (QFT (by omega:k<l.length)) (QFT hi)]
theorem D1 {α β:Type}(f:α→β)(nm:β→List UInt8)(l:List α):Wl (l.map f) nm=Wl l (fun x=>nm (f x)):=by
 unfold Wl;rw[QG7];refine UN fun i hi=>?_
 rw[KX (x:=f l[i]) (by rw[QG5,QFT hi];rfl),KX (QFT hi),←List.map_take,List.all_map];rfl

theorem MK {α:Type}{f g:α→Bool}:∀ {l:List α},(∀x∈l,f x=g x)→l.any f=l.any g
 | [],_=>rfl
 |x :: l,h=>by rw[List.any_cons,List.any_cons,h x (by simp),MK fun y hy=>h y (by simp[hy])]

structure Sok (S:SC):Prop where
 lm:S.msgs.length≤64∧S.enums.length≤64∧S.servs.length≤64
 om:Xx S.msgs (Kv SM.name)=true
 oe:Xx S.enums (Kv SE.name)=true
 ap:∀e∈S.enums,∀m∈S.msgs,m.name≠e.name
 ms:∀m∈S.msgs,Hf S m=true
 es:∀e∈S.enums,Hg e=true
theorem Qor {S:SC}(h:ZO S=true):Sok S:=by
 unfold ZO at h;simp only[QGd,QF3]at h;obtain⟨⟨⟨⟨⟨h1,h2⟩,h3⟩,h4⟩,h5⟩,_⟩:=h;unfold P9 at h1;unfold P8 at h2;unfold Jm at h3;simp only[QGd,QG4]at h1 h2 h3;refine⟨⟨h1.1.1,h1.1.2,h1.2⟩,h2.1.1,h2.1.2,fun e he m hm hn=>?_,h4,h5⟩;have:=h3.1.1;rw[QGG,List.any_eq_false]at this;refine this e he (QHi.2 ⟨m,hm,?_⟩);simp[hn]

structure Mok (S:SC)(m:SM):Prop where
 name:Xp m.name=true
 len:m.fields.length≤64
 flds:∀i,i<m.fields.length→W0 S m i=true
 nc:UR S m=false
theorem JL {S:SC}{m:SM}(h:Hf S m=true):Mok S m:=by
 unfold Hf at h;simp only[QGd,QG4,QGG]at h;obtain⟨⟨⟨⟨⟨⟨⟨⟨h1,h2⟩,_⟩,_⟩,h3⟩,_⟩,_⟩,_⟩,h4⟩:=h;exact⟨h1,h2,QO.1 h3,h4⟩
structure Fok (S:SC)(m:SM)(i:Nat)(f:SF):Prop where
 num:1≤f.num∧f.num≤65535
 up:∀j y,i=j+1→m.fields[j]? = some y→y.num<f.num
 name:Xb f.name=true
 twice:((m.fields.take i).any fun x=>x.name==f.name)=false
 card:WC f=true
 typ:Ja S f=true
 uni:ZW m i=true
 KI:KI S f=true
 notes:XX f.notes 2=0
theorem Qos {S:SC}{m:SM}{i:Nat}{f:SF}(hf:m.fields[i]? = some f)(h:W0 S m i=true):Fok S m i f:=by
 unfold W0 at h;rw[hf]at h;simp only[QGd,QG4,QGG,QGe]at h;obtain⟨⟨⟨⟨⟨⟨⟨⟨⟨⟨⟨h1,h2⟩,h3⟩,h4⟩,h5⟩,_⟩,_⟩,h6⟩,h7⟩,h8⟩,h9⟩,h10⟩:=h;refine⟨⟨h1,h2⟩,fun j y hj hy=>?_,h4,h5,h6,h7,h8,h9,h10⟩;subst hj;dsimp only at h3;rw[hy]at h3
 simpa using h3
theorem J3 {S:SC}{m:SM}(hm:Mok S m){i:Nat}{f:SF}(hf:m.fields[i]? = some f):Fok S m i f:=Qos hf (hm.flds i (QFS.1 hf).1)

theorem Bl {t:Int}:∀ {l:List SN} {last:Option (List UInt8)},WB t last l=0→∀n∈l,XJ n.name≠0∧n.val.fitk (XJ n.name)=true
 |n :: l,last,h,x,hx=>by
  rw[WB]at h;split at h
  ·rename_i h1;rcases QG2.1 hx with rfl|hx
   ·unfold JI at h1;split at h1
    ·cases h1
    ·rename_i h2;split at h1
     ·cases h1
     ·split at h1
      ·cases h1
      ·rename_i h3;exact⟨h2,by simpa using h3⟩
   ·exact Bl h x hx
  ·rename_i h1;exact absurd h h1
theorem IY {l:List SN}{t:Int}(h:XX l t=0):∀n∈l,XJ n.name≠0∧n.val.fitk (XJ n.name)=true:=by
 unfold XX at h;split at h
 ·cases h
 ·exact Bl h
theorem Re:XJ alias=7:=by decide
theorem HM {l:List SN}{t:Int}(h:XX l t=0){v:V}(hv:Xy l=some v):v.fitk 7=true:=by
 unfold Xy at hv;cases hf:l.find? (fun n=>n.name==alias)with
 |none=>rw[hf]at hv;cases hv
 |some n=>
  rw[hf]at hv;cases hv;have hn:n.name=alias:=by simpa using QHz hf
  have:=(IY h n (QHy hf)).2
  rwa [hn,Re]at this
theorem ML {v:V}(h:v.fitk 7=true):ZR v.text=true∧v.text.length≤4096:=by
 unfold V.fitk ZN at h;simp only[QGd,QG4,QGI]at h;refine⟨?_,by omega⟩;rcases h.2 with h|h
 ·exact absurd h (by decide)
 ·exact h

theorem Hj {S:SC}(hS:Xx S.msgs (Kv SM.name)=true):AB S:=by
 have hs:∀i (hi:i+1<S.msgs.length),Op.bytesLess S.msgs[i].name S.msgs[i+1].name=true:=by
  intro i hi;have h:=hS;unfold Xx at h;have:=QO.1 h (i+1) hi;rw[Je (QFT (by omega:i<S.msgs.length)) (QFT hi)]at this;exact this
 have hp:∀(i j:Nat) (hi:i<S.msgs.length) (hj:j<S.msgs.length),i<j→Op.bytesLess S.msgs[i].name S.msgs[j].name=true:=by
  intro i j hi hj hij;obtain⟨d,rfl⟩:∃d,j=i+1+d:=⟨j-(i+1),by omega⟩;clear hij
  induction d with
  |zero=>exact hs i (by omega)
  |succ d ih=>exact YP (ih (by omega)) (hs (i+1+d) (by omega))
 intro i j m n hm hn e;obtain⟨hi,rfl⟩:=QFS.1 hm;obtain⟨hj,rfl⟩:=QFS.1 hn;rcases Nat.lt_trichotomy i j with c|c|c
 ·have:=hp i j hi hj c;rw[e,J2]at this;cases this
 ·exact c
 ·have:=hp j i hj hi c;rw[e,J2]at this;cases this

section
variable {S:SC}(hS:Sok S)
include hS
theorem D2:AB S:=Hj hS.om

theorem IZ:∀b∈QM S,b=true:=by
 have hfix:Q0 S (QM S) S.msgs.length=QM S:=Ws S _ _ (by rw[QHb];omega);have hlen:(QM S).length=S.msgs.length:=by unfold QM;rw[YO,QHb]
 have hD:=D2 hS
 -- a step that changes something changes the count
 have hst:∀i,i≤S.msgs.length→Q0 S (QM S) i=QM S:=by
  intro i hi;have mono:∀i d,WE (Q0 S (QM S) i)≤WE (Q0 S (QM S) (i+d)):=by
   intro i d
   induction d with
   |zero=>exact QFQ _
   |succ d ih=>
    rw[show i+(d+1)=(i+d)+1 by omega,Q0];rcases Hi S (Q0 S (QM S) (i+d)) (i+d)with g|g
    ·rw[g];exact ih
    ·omega
  rcases Kk S (QM S) i with g|g
  ·exact g
  ·have:=mono i (S.msgs.length-i);rw[show i+(S.msgs.length-i)=S.msgs.length by omega,hfix]at this;omega
 intro b hb;obtain⟨i,hi,rfl⟩:=List.getElem_of_mem hb;have hm:S.msgs[i]? = some (S.msgs[i]'(by omega)):=QFT (by omega);have h1:=hst (i+1) (by omega);rw[Q0,hst i (by omega)]at h1;unfold JP at h1;rw[hm]at h1;have hc:=(JL (hS.ms _ (List.getElem_mem (by omega:i<S.msgs.length)))).nc;rw[MJ hD]at hc;cases hF:(QM S)[i]with
 |true=>rfl
 |false=>
  change (if (QM S)[i]? = some false∧Xa S (QM S) (S.msgs[i]'(by omega))=false then(QM S).set i true else QM S)=QM S at h1
  rw[QFY ⟨by rw[QFT hi,hF],hc⟩]at h1;have:=congrArg (fun l:List Bool=>l[i]?) h1;rw[List.getElem?_set_self hi,QFT hi,hF]at this;cases this

theorem Bm {m:SM}(hm:m∈S.msgs){f:SF}(hf:f∈m.fields)(hk:f.kind=10):∃(j:Nat) (n:SM),S.msgs[j]? = some n∧n.name=f.tname∧Kx S f=(j:Int)∧J8 S f.tname=(j:Int)∧f.card≠3:=by
 obtain⟨i,hi⟩:=QF2.1 hf;have ht:=(J3 (JL (hS.ms m hm)) hi).typ;unfold Ja at ht;rw[QFX (by omega),QFX (by omega),QFY hk]at ht;simp only[QGd,QGj]at ht;obtain⟨h1,h2⟩:=ht;unfold QW at h1;obtain⟨x,hx,hxn⟩:=QHi.1 h1;have hxn:x.name=f.tname:=by simpa using hxn
 obtain⟨j,hj⟩:=QF2.1 hx;have:=MH (D2 hS) hj;rw[hxn]at this;refine⟨j,x,hj,hxn,?_,this,h2⟩;unfold Kx;rw[QFY hk];exact this
theorem Rf {m:SM}(hm:m∈S.msgs){f:SF}(hf:f∈m.fields)(hk:f.kind=9):∃(j:Nat) (n:SE),S.enums[j]? = some n∧n.name=f.tname∧Kx S f=(j:Int):=by
 obtain⟨i,hi⟩:=QF2.1 hf;have ht:=(J3 (JL (hS.ms m hm)) hi).typ;unfold Ja at ht;rw[QFX (by omega),QFY hk]at ht;unfold Hc at ht;obtain⟨x,hx,hxn⟩:=QHi.1 ht;unfold Kx;rw[QFX (by omega),QFY hk];rcases Xo (fun m:SE=>m.name==f.tname) S.enums 0 with⟨_,hn⟩|⟨k,o,h1,h2,h3⟩
 ·exact absurd hxn (QHx.1 hn x hx)
 ·exact⟨k,o,h2,by simpa using QHz h3,by rw[h1];omega⟩

theorem Qot:fin (X5 S)=true:=by
 have hD:=D2 hS;have hG:(X5 S).progs=S.msgs.map (ZI S):=rfl
 -- what a program needs
 have hneed:∀(F:List Bool),F.length=S.msgs.length→∀m∈S.msgs,(ZI S m).ops.any (J7 F)=Xa S F m:=by
  intro F _ m hm;unfold Xa XU;rw[List.any_map,List.any_filter];show(m.fields.map (JO S (unl [] m.fields))).any (J7 F)=_;rw[List.any_map];refine MK fun f hf=>?_
  show J7 F (JO S (unl [] m.fields) f)=_;unfold J7;show(f.card==1&&f.kind==10 && !(F[(Kx S f).toNat]?.getD false))=_;by_cases hc:f.card=1∧f.kind=10
  ·obtain⟨j,n,h1,h2,h3,h4,_⟩:=Bm hS hm hf hc.2;simp only[Function.comp_apply,hc.1,hc.2,beq_self_eq_true,QHp,h3,h4];rw[QHA (by omega:(j:Int)≥0),QHp]
  ·have:(f.card==1&&f.kind==10)=false:=by
    rw[QHF,QHC,QHC];omega
   rw[this];rfl
 have hstp:∀(F:List Bool) (i:Nat),F.length=S.msgs.length→HK (X5 S).progs F→WD (X5 S).progs F i=JP S F i:=by
  intro F i hl hk;unfold JP;cases hm:S.msgs[i]? with
  |none=>
   unfold WD;rw[hG,QG5,hm];rfl
  |some m=>
   have hi:=(QFS.1 hm).1;have hg:(X5 S).progs[i]? = some (ZI S m):=by rw[hG,QG5,hm];rfl
   have hb:F[i]? = some (F[i]'(by omega)):=QFT (by omega);rw[Qog hk hg hb,hneed F hl m (QF4 hm)];dsimp only;cases hF:F[i]'(by omega)with
   |true=>
    rw[QFX (fun h=>by rw[hb,hF]at h;cases h.1),QHr,←hF];exact List.set_getElem_self _
   |false=>
    cases hs:Xa S F m with
    |true=>
     rw[QFX (fun h=>by cases h.2)];show F.set i false=F;rw[←hF];exact List.set_getElem_self _
    |false=>rw[QFY ⟨by rw[hb,hF],rfl⟩];rfl
 have hrnd:∀(F:List Bool),F.length=S.msgs.length→HK (X5 S).progs F→∀i,DW (X5 S).progs F i=Q0 S F i:=by
  intro F hl hk i
  induction i with
  |zero=>rfl
  |succ i ih=>rw[DW,Q0,←ih,hstp _ i (by rw[ih,JV,hl]) (Hh hk i)]
 have hits:∀k,its (X5 S).progs k=Nat.repeat (fun F=>Q0 S F S.msgs.length) k (List.replicate S.msgs.length false):=by
  intro k
  induction k with
  |zero=>rw[its,hG,QG7];rfl
  |succ k ih=>
   have hpl:(X5 S).progs.length=S.msgs.length:=by rw[hG,QG7]
   rw[its,hrnd _ (by rw[Bf,hpl]) (Bg _ k),ih,hpl];rfl
 obtain⟨j,h1,h2,h3⟩:=W5 S S.msgs.length (List.replicate S.msgs.length false);have hfix:Q0 S (QM S) S.msgs.length=QM S:=Ws S _ _ (by rw[QHb];omega);have hstay:∀d,Nat.repeat (fun F=>Q0 S F S.msgs.length) d (QM S)=QM S:=by
  intro d
  induction d with
  |zero=>rfl
  |succ d ih=>show Q0 S (Nat.repeat _ d (QM S)) _=_;rw[ih,hfix]
 have hadd:∀d (F:List Bool),Nat.repeat (fun F=>Q0 S F S.msgs.length) (d+j) F=Nat.repeat (fun F=>Q0 S F S.msgs.length) d (Nat.repeat (fun F=>Q0 S F S.msgs.length) j F):=by
  intro d
  induction d with
  |zero=>intro F;rw[QGf];rfl
  |succ d ih=>intro F;rw[show d+1+j=(d+j)+1 by omega];show Q0 S (Nat.repeat _ (d+j) F) _=_;rw[ih F];rfl
 have hkey:Nat.repeat (fun F=>Q0 S F S.msgs.length) S.msgs.length (List.replicate S.msgs.length false)=QM S:=by
  have e1:=hadd (S.msgs.length-j) (List.replicate S.msgs.length false);rw[Nat.sub_add_cancel h1,←h2,show Zu S S.msgs.length (List.replicate S.msgs.length false)=QM S from rfl,hstay]at e1;exact e1
 unfold fin;rw[show(X5 S).progs.length=S.msgs.length by rw[hG,QG7],hits,hkey,QF3];exact IZ hS
end

structure Eok (e:SE):Prop where
 name:Xp e.name=true
 len:1≤e.items.length∧e.items.length≤64
 free:e.free.length≤16
 itms:∀i,i<e.items.length→W2 e i=true
 spn:He 0 2147483647 e.free=true
theorem KZ {e:SE}(h:Hg e=true):Eok e:=by
 unfold Hg at h;simp only[QGd,QG4]at h;obtain⟨⟨⟨⟨⟨⟨h1,h2⟩,h3⟩,h4⟩,h5⟩,h6⟩,_⟩:=h;exact⟨h1,⟨h2,h3⟩,h4,QO.1 h5,h6⟩
structure Iok (e:SE)(i:Nat)(x:SI):Prop where
 num:0≤x.num∧x.num≤2147483647
 fst:i=0→x.num=0
 up:∀j y,i=j+1→e.items[j]? = some y→y.num<x.num
 name:Xb x.name=true
 twice:((e.items.take i).any fun y=>y.name==x.name)=false
 kept:kept e.free x.num=false
 notes:XX x.notes 4=0
theorem K0 {e:SE}(he:Eok e){i:Nat}{x:SI}(hx:e.items[i]? = some x):Iok e i x:=by
 have h:=he.itms i (QFS.1 hx).1;unfold W2 at h;rw[hx]at h;simp only[QGd,QG4,QGG,QGe]at h;obtain⟨⟨⟨⟨⟨⟨h1,h2⟩,h3⟩,h4⟩,h5⟩,h6⟩,h7⟩:=h;refine⟨⟨h1,h2⟩,fun h0=>?_,fun j y hj hy=>?_,h4,h5,h6,h7⟩
 ·subst h0
  simpa using h3
 ·subst hj;dsimp only at h3;rw[hy]at h3
  simpa using h3

theorem Qou {S:SC}(hS:Sok S):Bc (X5 S)=true:=by
 unfold Bc;simp only[QGd,QG4,QF3];refine⟨⟨⟨?_,?_⟩,fun g hg=>?_⟩,fun e he=>?_⟩
 ·show(S.msgs.map (ZI S)).length≤64;rw[QG7];exact hS.lm.1
 ·show(S.enums.map Jt).length≤64;rw[QG7];exact hS.lm.2.1
 ·obtain⟨m,hm,rfl⟩:=QG3.1 hg;unfold PY;show decide ((m.fields.map _).length≤64)=true;rw[QG7];exact QHA (JL (hS.ms m hm)).len
 ·obtain⟨x,hx,rfl⟩:=QG3.1 he;have:=KZ (hS.es x hx);unfold PZ;show(decide (1≤(x.items.map JJ).length)&&decide ((x.items.map JJ).length≤64)&&decide (x.free.length≤16))=true;rw[QG7,QHA this.len.1,QHA this.len.2,QHA this.free];rfl
theorem Qov {S:SC}(hS:Sok S):nam (X5 S)=true:=by
 unfold nam;simp only[QGd,QF3];refine⟨fun g hg=>?_,fun e he=>?_⟩
 ·obtain⟨m,hm,rfl⟩:=QG3.1 hg;have hk:=JL (hS.ms m hm);unfold QnT;simp only[QGd,QF3];refine⟨hk.name,fun o ho=>?_⟩;obtain⟨f,hf,rfl⟩:=QG3.1 ho;obtain⟨i,hi⟩:=QF2.1 hf;exact(J3 hk hi).name
 ·obtain⟨x,hx,rfl⟩:=QG3.1 he;have hk:=KZ (hS.es x hx);unfold QnU;simp only[QGd,QF3];refine⟨hk.name,fun o ho=>?_⟩;obtain⟨f,hf,rfl⟩:=QG3.1 ho;obtain⟨i,hi⟩:=QF2.1 hf;exact(K0 hk hi).name
theorem Qow {S:SC}(hS:Sok S):Ax (X5 S)=true:=by
 unfold Ax;simp only[QGd,QF3];refine⟨⟨⟨?_,?_⟩,fun g hg=>?_⟩,fun e he=>?_⟩
 ·show Xx (S.msgs.map (ZI S)) _=true;rw[JW];exact hS.om
 ·show Xx (S.enums.map Jt) _=true;rw[JW];exact hS.oe
 ·obtain⟨m,hm,rfl⟩:=QG3.1 hg;have hk:=JL (hS.ms m hm);unfold QnV;show Xx (m.fields.map _) _=true;rw[JW];unfold Xx;rw[QO];intro i hi;cases i with
  |zero=>rfl
  |succ k=>
   have h1:m.fields[k]? = some (m.fields[k]'(by omega)):=QFT (by omega);have h2:m.fields[k+1]? = some m.fields[k+1]:=QFT hi;rw[Je h1 h2];exact QHA ((J3 hk h2).up k _ rfl h1)
 ·obtain⟨x,hx,rfl⟩:=QG3.1 he;have hk:=KZ (hS.es x hx);unfold QnW;show Xx (x.items.map JJ) _=true;rw[JW];unfold Xx;rw[QO];intro i hi;cases i with
  |zero=>rfl
  |succ k=>
   have h1:x.items[k]? = some (x.items[k]'(by omega)):=QFT (by omega);have h2:x.items[k+1]? = some x.items[k+1]:=QFT hi;rw[Je h1 h2];exact QHA ((K0 hk h2).up k _ rfl h1)
theorem Qox {S:SC}(hS:Sok S):Ay (X5 S)=true:=by
 unfold Ay;simp only[QGd,QF3];refine⟨fun g hg=>?_,fun e he=>?_⟩
 ·obtain⟨m,hm,rfl⟩:=QG3.1 hg;have hk:=JL (hS.ms m hm);unfold P0;simp only[QGd,QF3];refine⟨fun e he=>?_,?_⟩
  ·obtain⟨x,hx,rfl⟩:=QG3.1 he;have:(Jt x).name≠(ZI S m).name:=fun h=>hS.ap x hx m hm h.symm
   simpa using this
  ·show Wl (m.fields.map _) _=true;rw[D1];unfold Wl;rw[QO];intro i hi;have h2:m.fields[i]? = some m.fields[i]:=QFT hi;rw[KX h2,Bb,QGG];exact(J3 hk h2).twice
 ·obtain⟨x,hx,rfl⟩:=QG3.1 he;have hk:=KZ (hS.es x hx);unfold QnX;show Wl (x.items.map JJ) _=true;rw[D1];unfold Wl;rw[QO];intro i hi;have h2:x.items[i]? = some x.items[i]:=QFT hi;rw[KX h2,Bb,QGG];exact(K0 hk h2).twice
theorem Qoy {S:SC}(hS:Sok S):rng (X5 S)=true:=by
 unfold rng;simp only[QGd,QF3];refine⟨fun g hg o ho=>?_,fun e he=>?_⟩
 ·obtain⟨m,hm,rfl⟩:=QG3.1 hg;obtain⟨f,hf,rfl⟩:=QG3.1 ho;obtain⟨i,hi⟩:=QF2.1 hf;have:=(J3 (JL (hS.ms m hm)) hi).num;unfold QnY;show(decide (f.num≥1)&&decide (f.num≤65535))=true;rw[QHA this.1,QHA this.2];rfl
 ·obtain⟨x,hx,rfl⟩:=QG3.1 he;have hk:=KZ (hS.es x hx);have hsp:=hk.spn;unfold He at hsp;simp only[QGd]at hsp;unfold Qn1;simp only[QGd,QF3];refine⟨⟨⟨fun y hy=>QF3.1 hsp.1 y hy,hsp.2⟩,?_⟩,fun y hy=>?_⟩
  ·unfold Qn0;show(match x.items.map JJ with
    | []=>true
    |x :: _=>x.num==0)=true
   cases hi:x.items with
   |nil=>rfl
   |cons a l=>
    have:=(K0 hk (i:=0) (x:=a) (by rw[hi];rfl)).fst rfl;show(a.num==0)=true;rw[this];rfl
  ·obtain⟨z,hz,rfl⟩:=QG3.1 hy;obtain⟨i,hi⟩:=QF2.1 hz;have h1:=K0 hk hi;unfold QnZ;show(decide (z.num≤2147483647) && !kept x.free z.num)=true;rw[QHA h1.num.2,h1.kept];rfl

theorem Yd:∀(l:List SF) (us:List (List UInt8)),∃r,unl us l=us++r
 | [],us=>⟨[],by simp[unl]⟩
 |f :: l,us=>by
  rw[unl];split
  ·exact Yd l us
  ·obtain⟨r,h⟩:=Yd l (us++[f.union]);exact⟨f.union :: r,by rw[h];simp⟩
theorem Hk:∀(l:List SF) (us:List (List UInt8)) (s:List UInt8),s∈unl us l↔s∈us∨(s≠[]∧∃f∈l,f.union=s)
 | [],us,s=>by simp[unl]
 |f :: l,us,s=>by
  rw[unl];split
  ·rename_i h;rw[Hk l us s]
   constructor
   ·rintro(h1|⟨h1,g,hg,h2⟩)
    ·exact .inl h1
    ·exact .inr ⟨h1,g,by simp[hg],h2⟩
   ·rintro(h1|⟨h1,g,hg,h2⟩)
    ·exact .inl h1
    ·rcases QG2.1 hg with rfl|hg
     ·rcases h with h|h
      ·exact absurd (h2.symm.trans h) h1
      ·rw[h2]at h;exact .inl (by simpa using h)
     ·exact .inr ⟨h1,g,hg,h2⟩
  ·rename_i h;simp only[not_or]at h;rw[Hk l _ s];simp only[QG0,QHI]
   constructor
   ·rintro((h1|h1)|⟨h1,g,hg,h2⟩)
    ·exact .inl h1
    ·exact .inr ⟨by rw[h1];exact h.1,f,by simp,h1.symm⟩
    ·exact .inr ⟨h1,g,by simp[hg],h2⟩
   ·rintro(h1|⟨h1,g,hg,h2⟩)
    ·exact .inl (.inl h1)
    ·rcases QG2.1 hg with rfl|hg
     ·exact .inl (.inr h2.symm)
     ·exact .inr ⟨h1,g,hg,h2⟩
theorem K1:∀(a b:List SF) (us:List (List UInt8)),unl us (a++b)=unl (unl us a) b
 | [],b,us=>rfl
 |f :: a,b,us=>by rw[QGb,unl,unl,K1 a b]
theorem Bn {us r:List (List UInt8)}{s:List UInt8}(h:s∈us):ZF (us++r) s=ZF us s∧0≤ZF us s∧ZF us s<(us.length:Int):=by
 unfold ZF;rcases Xo (fun u=>u==s) us 0 with⟨_,hn⟩|⟨k,o,h1,h2,h3⟩
 ·exact absurd (by simp) (QHx.1 hn s h)
 ·have hk:=(QFS.1 h2).1;have happ:∀(l:List (List UInt8)) (i:Nat),s∈l→QS (fun u=>u==s) (l++r) i=QS (fun u=>u==s) l i:=by
   intro l
   induction l with
   |nil=>intro i h;cases h
   |cons x l ih=>
    intro i h;rw[QGb,QS,QS];split
    ·rfl
    ·rename_i hx;exact ih _ ((QG2.1 h).resolve_left fun e=>hx (by simp[e]))
  refine⟨happ us 0 h,?_,?_⟩
  ·rw[h1];omega
  ·rw[h1];omega
theorem I0 {us r:List (List UInt8)}{s:List UInt8}(h:s∉us):ZF (us++s :: r) s=(us.length:Int):=by
 unfold ZF;have:∀(l:List (List UInt8)) (i:Nat),s∉l→QS (fun u=>u==s) (l++s :: r) i=((i+l.length:Nat):Int):=by
  intro l
  induction l with
  |nil=>
   intro i _;rw[QGc,QS,QFY (by simp)];rfl
  |cons x l ih=>
   intro i h;simp only[QG2,not_or]at h;rw[QGb,QS,QFX (by simpa using fun e=>h.1 e.symm),ih (i+1) h.2,QF5];congr 1
   omega
 have:=this us 0 h
 simpa using this

def Jh (us:List (List UInt8))(f:SF):Int:=if f.union=[]then -1 else ZF us f.union

theorem D3 {S:SC}{m:SM}(hu:∀i,i<m.fields.length→ZW m i=true):∀(b a:List SF),m.fields=a++b→JH (b.map (JO S (unl [] m.fields))) ((unl [] a).length:Int) (match a.getLast? with
   |none=>-1
   |some f=>Jh (unl [] m.fields) f)=some ((unl [] m.fields).length:Int)
 | [],a,h=>by
  rw[QGM]at h;rw[QGK,JH,h]
 |f :: b,a,h=>by
  have h2:m.fields=(a++[f])++b:=by rw[h];simp
  have ih:=D3 (S:=S) hu b (a++[f]) h2;rw[List.getLast?_concat]at ih
  change JH (b.map (JO S (unl [] m.fields))) ((unl [] (a++[f])).length:Int) (Jh (unl [] m.fields) f)=_ at ih
  have hal:m.fields[a.length]? = some f:=by rw[h];simp
  have hun:=hu a.length (QFS.1 hal).1;obtain⟨r,hr⟩:=Yd b (unl [] (a++[f]));have hfull:unl [] m.fields=unl [] (a++[f])++r:=by rw[h2,K1,hr]
  have hone:unl [] (a++[f])=if f.union=[]∨(unl [] a).contains f.union=true then unl [] a else unl [] a++[f.union]:=by rw[K1];rfl
  rw[QGn,JH];show(if Jh (unl [] m.fields) f=((unl [] a).length:Int)then JH (b.map _) (((unl [] a).length:Int)+1) ((unl [] a).length:Int)
   else if Jh (unl [] m.fields) f = -1∨Jh (unl [] m.fields) f=_ then JH (b.map _) ((unl [] a).length:Int) (Jh (unl [] m.fields) f)else none)=_
  by_cases h0:f.union=[]
  ·have hf:Jh (unl [] m.fields) f = -1:=by unfold Jh;rw[QFY h0]
   rw[QFY (.inl h0)]at hone;rw[hone]at ih;rw[hf]at ih ⊢;rw[QFX (by omega),QFY (.inl rfl)];exact ih
  ·by_cases hc:(unl [] a).contains f.union=true
   ·rw[QFY (.inr hc)]at hone;have hmem:f.union∈unl [] a:=by simpa using hc
    obtain⟨i1,i2,i3⟩:=Bn (r:=r) hmem;have hf:Jh (unl [] m.fields) f=ZF (unl [] a) f.union:=by
     unfold Jh;rw[QFX h0,hfull,hone];exact i1
    rw[hone]at ih
    -- the field before has the same union
    have hprev:(match a.getLast? with
      |none=>-1
      |some g=>Jh (unl [] m.fields) g)=Jh (unl [] m.fields) f:=by
     have hex:=((Hk a [] f.union).1 hmem).resolve_left (by simp);obtain⟨_,g,hg,hgu⟩:=hex;unfold ZW at hun;rw[hal]at hun;simp only[QGI,QGe,QGd,QGG]at hun;have hun:=(hun.resolve_left h0).2;have htk:m.fields.take a.length=a:=by rw[h];simp
     have hany:((m.fields.take a.length).any fun x=>x.union==f.union)=true:=by
      rw[htk];exact QHi.2 ⟨g,hg,by simp[hgu]⟩
     rw[hany]at hun;have hun:=hun.resolve_left (by decide);cases hla:a.getLast? with
     |none=>
      rw[List.getLast?_eq_none_iff]at hla;rw[hla]at hg;cases hg
     |some y=>
      dsimp only;obtain⟨a',rfl⟩:=List.getLast?_eq_some_iff.1 hla;rw[QGs,QHe]at hun;dsimp only at hun;have hy:m.fields[a'.length]? = some y:=by rw[h];simp
      rw[hy]at hun;have hyu:y.union=f.union:=by simpa using hun
      unfold Jh;rw[hyu]
    rw[hprev,QFX (by rw[hf];omega),QFY (.inr rfl)];exact ih
   ·rw[QFX (not_or.2 ⟨h0,hc⟩)]at hone;have hnm:f.union∉unl [] a:=by simpa using hc
    have hf:Jh (unl [] m.fields) f=((unl [] a).length:Int):=by
     unfold Jh;rw[QFX h0,hfull,hone,QGa];exact I0 hnm
    rw[hone,QGs,QHe,hf]at ih;rw[QFY hf];exact ih

theorem I1 {S:SC}(hS:Sok S):args (X5 S)=true:=by
 unfold args;simp only[QGd,QF3];refine⟨fun g hg=>?_,fun e he=>?_⟩
 ·obtain⟨m,hm,rfl⟩:=QG3.1 hg;have hk:=JL (hS.ms m hm);unfold P6;simp only[QGd,QF3];refine⟨?_,fun o ho=>?_⟩
  ·unfold Qoa;have:=D3 (S:=S) (m:=m) (fun i hi=>(J3 hk (QFT hi)).uni) m.fields [] rfl;show(match JH (m.fields.map (JO S (unl [] m.fields))) 0 (-1)with
    |some n=>(ZI S m).unions==n
    |none=>false)=true
   have e:JH (m.fields.map (JO S (unl [] m.fields))) 0 (-1)=some ((unl [] m.fields).length:Int):=this;rw[e];show(((unl [] m.fields).length:Int)==((unl [] m.fields).length:Int))=true;simp
  ·obtain⟨f,hf,rfl⟩:=QG3.1 ho;obtain⟨i,hi⟩:=QF2.1 hf;have fo:=J3 hk hi;have hc:=fo.card;unfold WC at hc;simp only[QGd,QG4]at hc;obtain⟨⟨c1,c2⟩,c3⟩:=hc;refine⟨?_,?_⟩
   ·unfold P5;simp only[QGd,QG4];have hal:ZR (JO S (unl [] m.fields) f).alias=true∧(JO S (unl [] m.fields) f).alias.length≤4096:=by
     show ZR (((Xy f.notes).map V.text).getD [])=true∧(((Xy f.notes).map V.text).getD []).length≤4096;cases hv:Xy f.notes with
     |none=>exact⟨by decide,QFZ _⟩
     |some v=>exact ML (HM fo.notes hv)
    refine⟨⟨⟨⟨⟨hal.1,by have:=hal.2;omega⟩,c1⟩,c2⟩,c3⟩,?_⟩;unfold aim;show(if f.kind=10 then decide (Kx S f≥0)&&decide (Kx S f<((S.msgs.map (ZI S)).length:Int))&&f.card != 3
     else if f.kind=9 then decide (Kx S f≥0)&&decide (Kx S f<((S.enums.map Jt).length:Int))else WW f.kind&&Kx S f == -1)=true
    rw[QG7,QG7];by_cases Kr:f.kind=10
    ·obtain⟨j,n,h1,_,h3,_,h5⟩:=Bm hS hm hf Kr;have:=(QFS.1 h1).1;rw[QFY Kr,h3,QHA (by omega:(j:Int)≥0),QHA (by omega:(j:Int)<(S.msgs.length:Int))]
     simpa using h5
    rw[QFX Kr];by_cases k9:f.kind=9
    ·obtain⟨j,n,h1,_,h3⟩:=Rf hS hm hf k9;have:=(QFS.1 h1).1;rw[QFY k9,h3,QHA (by omega:(j:Int)≥0),QHA (by omega:(j:Int)<(S.enums.length:Int))];rfl
    ·have ht:=fo.typ;unfold Ja at ht;rw[QFX k9];by_cases k8:1≤f.kind∧f.kind≤8
     ·unfold Kx WW;rw[QFX Kr,QFX k9,QHA (by omega:f.kind≥1),QHA (by omega:f.kind≤9)];rfl
     ·rw[QFX k8,QFX k9,QFX Kr]at ht;cases ht
   ·unfold uok;show((if f.union=[]then(-1:Int)else ZF (unl [] m.fields) f.union) == -1||f.card==2)=true;by_cases h0:f.union=[]
    ·rw[QFY h0];rfl
    ·have hu:=fo.uni;unfold ZW at hu;rw[hi]at hu;simp only[QGI,QGe,QGd]at hu;have:=(hu.resolve_left h0).1.1.1;rw[this,QGI];exact .inr rfl
 ·obtain⟨x,hx,rfl⟩:=QG3.1 he;have hk:=KZ (hS.es x hx);unfold Qob;simp only[QGd,QF3];refine⟨rfl,fun y hy=>?_⟩;obtain⟨z,hz,rfl⟩:=QG3.1 hy;obtain⟨i,hi⟩:=QF2.1 hz;have h1:=(K0 hk hi).notes;unfold nte JJ;dsimp only;cases hv:Xy z.notes with
  |none=>rfl
  |some v=>
   have h2:=HM h1 hv;dsimp only;rw[V.eta];show(alias==alias&&ZN 7 v.kd (Int.toNat (v.bits:Int)) v.text _ _ _ _)=true;rw[QHa];unfold V.fitk at h2
   simpa using h2

theorem QwP {S:SC}(h:ZO S=true):ck (X5 S)=0:=by
 have hS:=Qor h;unfold ck;rw[Qou hS,Qov hS,Qow hS,Qox hS,Qoy hS,I1 hS,Qot hS];rfl

structure PB where
 dfn:List UInt8
 num:Int
 err:Int
def PB.av (x:PB):AV:=.agg [.str x.dfn,.int .i64 x.num,.int .i64 x.err]
def pb (d:List UInt8)(n:Int)(ok:Bool)(e:Int):List PB:=bif ok then []else [⟨d,n,e⟩]
theorem X6 {d:List UInt8}{n:Int}{ok:Bool}{e:Int}:pb d n ok e=[]↔ok=true:=by
 cases ok<;>simp[pb]
def Xs (d:List UInt8)(n:Int)(l:List SN)(t:Int):List PB:=pb d n (XX l t==0) (XX l t)
def JQ {α:Type}(l:List α)(num:α→Int)(i:Nat)(x:α):Bool:=match i with
 |0=>true
 |j+1=>match l[j]? with
  |none=>true
  |some y=>decide (num x > num y)
def Ju (S:SC)(m:SM)(i:Nat)(f:SF):List PB :=
 pb m.name f.num (decide (f.num≥1)&&decide (f.num≤65535)) 6++pb m.name f.num (JQ m.fields SF.num i f) 11++pb m.name f.num (Xb f.name) 8 ++
 pb m.name f.num (!((m.fields.take i).any fun x=>x.name==f.name)) 9++pb m.name f.num (!(kept m.free f.num) && !(m.gone.contains f.name)) 21 ++
 pb m.name f.num (WC f) 1++pb m.name f.num (Ja S f) 12++pb m.name f.num (ZW m i) 15++pb m.name f.num (KI S f) 1++Xs m.name f.num f.notes 2
def upto {α β:Type}(l:List α)(g:Nat→α→List β):Nat→List β
 |0=>[]
 |n+1=>upto l g n++(match l[n]? with
  |none=>[]
  |some x=>g n x)
def JM (d:List UInt8)(lo hi:Int)(l:List PS)(i:Nat)(x:PS):List PB :=
 pb d (-1) (decide (x.lo≥lo)&&decide (x.hi≤hi)&&decide (x.lo≤x.hi)) 6++pb d (-1) (match i with
  |0=>true
  |j+1=>match l[j]? with
   |none=>true
   |some y=>decide (x.lo > y.hi)) 11
def ZX (S:SC)(cy:SM→Bool)(m:SM):List PB :=
 pb m.name (-1) (Xp m.name) 8++pb m.name (-1) (decide (m.fields.length≤64)&&decide (m.free.length≤16)&&decide (m.gone.length≤16)) 3 ++
 upto m.fields (Ju S m) m.fields.length++upto m.free (JM m.name 1 65535 m.free) m.free.length++upto m.gone (fun _ g=>pb m.name (-1) (ZR g) 7) m.gone.length ++
 Xs m.name (-1) m.notes 1++pb m.name (-1) (!cy m) 19
def ZY (e:SE)(i:Nat)(x:SI):List PB :=
 pb e.name x.num (decide (x.num≥0)&&decide (x.num≤2147483647)) 6++pb e.name x.num (JQ e.items SI.num i x) 11++pb e.name x.num (Xb x.name) 8 ++
 pb e.name x.num (!((e.items.take i).any fun y=>y.name==x.name)) 9++pb e.name x.num (!(kept e.free x.num)) 21++Xs e.name x.num x.notes 4
def Zv (e:SE):Bool:=match e.items with
 | []=>true
 |x :: _=>x.num==0
def ZS (e:SE):List PB :=
 pb e.name (-1) (Xp e.name) 8++pb e.name (-1) (decide (e.items.length≥1)&&decide (e.items.length≤64)&&decide (e.free.length≤16)) 3++pb e.name (-1) (Zv e) 14 ++
 upto e.items (ZY e) e.items.length++upto e.free (JM e.name 0 2147483647 e.free) e.free.length++Xs e.name (-1) e.notes 3
def Jv (S:SC)(v:SQ)(i:Nat)(x:SO):List PB :=
 pb v.name (i:Int) (Xb x.name) 8++pb v.name (i:Int) (match i with
  |0=>true
  |j+1=>match v.meths[j]? with
   |none=>true
   |some y=>Op.bytesLess y.name x.name) 11++pb v.name (i:Int) (QW S x.inn&&QW S x.out) 12++pb v.name (i:Int) (decide (x.shape≥1)&&decide (x.shape≤4)) 1++Xs v.name (i:Int) x.notes 6
def Z7 (S:SC)(v:SQ):List PB :=
 pb v.name (-1) (Xp v.name) 8++pb v.name (-1) (decide (v.meths.length≤64)) 3++upto v.meths (Jv S v) v.meths.length++Xs v.name (-1) v.notes 5
def ZZ (l:List (List UInt8)):List PB:=pb [] (-1) (decide (l.length≤64)) 3++pb [] (-1) (Xx l Op.bytesLess) 11
def K3 (S:SC)(cy:SM→Bool):List PB :=
 ZZ (S.msgs.map SM.name)++ZZ (S.enums.map SE.name)++ZZ (S.servs.map SQ.name)++pb [] (-1) (Jm S) 9 ++
 S.msgs.flatMap (ZX S cy)++S.enums.flatMap ZS++S.servs.flatMap (Z7 S)

theorem Ky {α β:Type}{l:List α}{g:Nat→α→List β}{n:Nat}:upto l g n=[]↔∀i,i<n→∀x,l[i]? = some x→g i x=[]:=by
 induction n with
 |zero=>simp[upto]
 |succ n ih=>
  rw[upto,QHJ,ih]
  constructor
  ·rintro⟨h1,h2⟩ i hi x hx;rcases QHv.1 hi with h|rfl
   ·exact h1 i h x hx
   ·rw[hx]at h2;exact h2
  ·intro h;refine⟨fun i hi=>h i (by omega),?_⟩;cases hx:l[n]? with
   |none=>rfl
   |some x=>exact h n (by omega) x hx
theorem Bo {S:SC}{m:SM}{i:Nat}{f:SF}(hf:m.fields[i]? = some f):Ju S m i f=[]↔W0 S m i=true:=by
 cases i with
 |zero=>
  unfold W0;rw[hf];unfold Ju Xs JQ;simp only[QHJ,X6,QGd,and_assoc]
 |succ j=>
  unfold W0;rw[hf];unfold Ju Xs JQ;simp only[QHJ,X6,QGd,and_assoc];cases m.fields[j]?<;>exact Iff.rfl
theorem Bp {d:List UInt8}{lo hi:Int}{l:List PS}:upto l (JM d lo hi l) l.length=[]↔He lo hi l=true:=by
 rw[Ky];unfold He;rw[QGd,QF3];unfold Xx;rw[QO]
 constructor
 ·intro h;refine⟨fun x hx=>?_,fun i hi=>?_⟩
  ·obtain⟨i,hi⟩:=QF2.1 hx;have:=h i (QFS.1 hi).1 x hi;unfold JM at this;simp only[QHJ,X6]at this;exact this.1
  ·cases i with
   |zero=>rfl
   |succ k=>
    have h1:l[k]? = some (l[k]'(by omega)):=QFT (by omega);have h2:l[k+1]? = some l[k+1]:=QFT hi;have:=h (k+1) hi _ h2;unfold JM at this;simp only[QHJ,X6]at this;have:=this.2;rw[h1]at this;rw[Je h1 h2];exact this
 ·rintro⟨h1,h2⟩ i hi x hx;unfold JM;simp only[QHJ,X6];refine⟨h1 x (QF4 hx),?_⟩;cases i with
  |zero=>rfl
  |succ k=>
   have h3:l[k]? = some (l[k]'(by omega)):=QFT (by omega);have:=h2 (k+1) hi;rw[Je h3 hx]at this;dsimp only;rw[h3];exact this
theorem Bq {S:SC}{cy:SM→Bool}{m:SM}(hc:cy m=UR S m):ZX S cy m=[]↔Hf S m=true:=by
 have h1:upto m.fields (Ju S m) m.fields.length=[]↔Xd (W0 S m) m.fields.length=true:=by
  rw[Ky,QO]
  constructor
  ·intro h i hi;have hx:m.fields[i]? = some m.fields[i]:=QFT hi;exact(Bo hx).1 (h i hi _ hx)
  ·intro h i hi x hx;exact(Bo hx).2 (h i hi)
 have h2:upto m.gone (fun _ g=>pb m.name (-1) (ZR g) 7) m.gone.length=[]↔m.gone.all ZR=true:=by
  rw[Ky,QF3]
  constructor
  ·intro h x hx;obtain⟨i,hi⟩:=QF2.1 hx;exact X6.1 (h i (QFS.1 hi).1 x hi)
  ·intro h i hi x hx;exact X6.2 (h x (QF4 hx))
 unfold ZX Hf Xs;rw[hc];simp only[QHJ,X6,h1,h2,Bp,QGd,and_assoc]
theorem Bs {e:SE}:ZS e=[]↔Hg e=true:=by
 have h1:(Zv e=true∧upto e.items (ZY e) e.items.length=[])↔Xd (W2 e) e.items.length=true:=by
  rw[Ky,QO];have key:∀i x,e.items[i]? = some x→i≠0→(ZY e i x=[]↔W2 e i=true):=by
   intro i x hx h0;obtain⟨j,rfl⟩:∃j,i=j+1:=⟨i-1,by omega⟩;unfold W2;rw[hx];unfold ZY Xs JQ;simp only[QHJ,X6,QGd,and_assoc];cases e.items[j]?<;>exact Iff.rfl
  have key0:∀x,e.items[0]? = some x→((Zv e=true∧ZY e 0 x=[])↔W2 e 0=true):=by
   intro x hx;have hf:Zv e=(x.num==0):=by
    unfold Zv;cases hi:e.items with
    |nil=>rw[hi]at hx;cases hx
    |cons y l=>rw[hi]at hx;cases hx;rfl
   unfold W2;rw[hx,hf];unfold ZY Xs JQ;simp only[QHJ,X6,QGd,and_assoc,true_and]
   constructor
   ·rintro⟨a,b,c,f,g,h,i⟩;exact⟨b,c,a,f,g,h,i⟩
   ·rintro⟨b,c,a,f,g,h,i⟩;exact⟨a,b,c,f,g,h,i⟩
  constructor
  ·rintro⟨hf,h⟩ i hi;have hx:e.items[i]? = some e.items[i]:=QFT hi;by_cases h0:i=0
   ·subst h0;exact(key0 _ hx).1 ⟨hf,h 0 hi _ hx⟩
   ·exact(key i _ hx h0).1 (h i hi _ hx)
  ·intro h;refine⟨?_,fun i hi x hx=>?_⟩
   ·cases hi:e.items with
    |nil=>unfold Zv;rw[hi]
    |cons y l=>
     have hl:0<e.items.length:=by rw[hi];simp
     exact((key0 y (by rw[hi];rfl)).2 (h 0 hl)).1
   ·by_cases h0:i=0
    ·subst h0;exact((key0 x hx).2 (h 0 hi)).2
    ·exact(key i x hx h0).2 (h i hi)
 unfold ZS Hg Xs;simp only[QHJ,X6,Bp,QGd,and_assoc]
 constructor
 ·rintro⟨a,b,c,d,f,g,h,i⟩;exact⟨a,b,c,d,h1.1 ⟨f,g⟩,h,i⟩
 ·rintro⟨a,b,c,d,f,h,i⟩;exact⟨a,b,c,d,(h1.2 f).1,(h1.2 f).2,h,i⟩
theorem Bu {S:SC}{v:SQ}:Z7 S v=[]↔P7 S v=true:=by
 have h1:upto v.meths (Jv S v) v.meths.length=[]↔Xd (ND S v) v.meths.length=true:=by
  rw[Ky,QO];have key:∀i x,v.meths[i]? = some x→(Jv S v i x=[]↔ND S v i=true):=by
   intro i x hx;unfold ND;rw[hx];unfold Jv Xs;simp only[QHJ,X6,QGd,and_assoc]<;>exact Iff.rfl
  constructor
  ·intro h i hi;have hx:v.meths[i]? = some v.meths[i]:=QFT hi;exact(key i _ hx).1 (h i hi _ hx)
  ·intro h i hi x hx;exact(key i x hx).2 (h i hi)
 unfold Z7 P7 Xs;simp only[QHJ,X6,h1,QGd,and_assoc]
theorem flatMap_nil {α β:Type}{l:List α}{g:α→List β}:l.flatMap g=[]↔∀x∈l,g x=[]:=List.flatMap_eq_nil_iff

theorem I2 {l:List (List UInt8)}:ZZ l=[]↔(decide (l.length≤64)=true∧Xx l Op.bytesLess=true):=by
 unfold ZZ;simp only[QHJ,X6]
theorem Bv {S:SC}{cy:SM→Bool}(h:AB S→∀m∈S.msgs,cy m=UR S m):K3 S cy=[]↔ZO S=true:=by
 have e1:Xx (S.msgs.map SM.name) Op.bytesLess=Xx S.msgs (Kv SM.name):=JW ..;have e2:Xx (S.enums.map SE.name) Op.bytesLess=Xx S.enums (Kv SE.name):=JW ..;have e3:Xx (S.servs.map SQ.name) Op.bytesLess=Xx S.servs (Kv SQ.name):=JW ..;unfold K3 ZO P9 P8;simp only[QHJ,I2,X6,flatMap_nil,QGd,QF3,QG7,e1,e2,e3]
 constructor
 ·rintro⟨⟨⟨⟨⟨⟨⟨a1,a2⟩,b1,b2⟩,c1,c2⟩,d⟩,f⟩,g⟩,i⟩;have hD:=Hj a2;exact⟨⟨⟨⟨⟨⟨⟨a1,b1⟩,c1⟩,⟨a2,b2⟩,c2⟩,d⟩,fun m hm=>(Bq (h hD m hm)).1 (f m hm)⟩,fun e he=>Bs.1 (g e he)⟩,fun v hv=>Bu.1 (i v hv)⟩
 ·rintro⟨⟨⟨⟨⟨⟨⟨a1,b1⟩,c1⟩,⟨a2,b2⟩,c2⟩,d⟩,f⟩,g⟩,i⟩;have hD:=Hj a2;exact⟨⟨⟨⟨⟨⟨⟨a1,a2⟩,b1,b2⟩,c1,c2⟩,d⟩,fun m hm=>(Bq (h hD m hm)).2 (f m hm)⟩,fun e he=>Bs.2 (g e he)⟩,fun v hv=>Bu.2 (i v hv)⟩
theorem I3 {S:SC}:K3 S (UR S)=[]↔ZO S=true:=Bv fun _ _ _=>rfl
theorem I4 {S:SC}:K3 S (fun m=>Xa S (QM S) m)=[]↔ZO S=true:=Bv fun hD m _=>(MJ hD m).symm

end Go.Proofs.YtnpajgoobomndaaGreatDoor.Va

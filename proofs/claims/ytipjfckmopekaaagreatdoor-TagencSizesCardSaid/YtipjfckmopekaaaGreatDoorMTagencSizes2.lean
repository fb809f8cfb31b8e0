/- Parts of the proof, in order. -/
import Derived.WalkKit
import Derived.Lib.SmallJoins
import Derived.Deep.Slices
import Derived.DataShut
import Derived.Test.YtipjfckmopekaaaGreatDoorRows
import Derived.Test.YtipjfckmopekaaaGreatDoorProg
import Derived.Lib.IndexLaws
import Derived.Test.YtipjfckmopekaaaGreatDoorMTagencSizes1

namespace Go.Proofs.YtipjfckmopekaaaGreatDoor.Rc
open Go Am
abbrev Qn6:IL:=[je 3 3 1,jh 4]
abbrev Qn7:IL:=[ja 7 0,ji 8 1 7,jd 9 0]
abbrev Qn8:IL:=[jn 10 9 8]
abbrev Qn9:IL:=[ja 11 9,jk 12 3 7 9,jf 13 3 12,⟨some 6,.allocN 6 [.str [],.int .i64 0,.nils],none⟩,ja 5 11,js 3 6 13]
abbrev Qoa:IL:=[ja 14 0,ja 15 5,BI 16 3 14 15,⟨some 17,.val (.mkfn (.func 213) [] [(.t 3),(.t 6)]),none⟩,yr 18 143 16 17]
abbrev Qob:IL:=[yl 4]
abbrev Qoc:IL:=[jm 19 9 1,ja 9 19]
abbrev Qod:RC:=.gho (.drop 6) (jQ Qn8 (.seq (jX 10 0) (.seq (.block 1 (jQ Qn9 (jQ Qoa (.cond (.t 18) (jQ Qob (.ret)) (.skip))))) (.reg Qoc))))
abbrev Qoe:IL:=[jh 4]
abbrev QEj:RC:=jQ Qn6 (.seq (jQ Qn7 (.block 0 (.loop Qod))) (jQ Qoe (.ret)))
abbrev QEk:List RR:=[.tmp 4]
theorem QEl:CT 160 20 QEj QEk:=ck Tryz.func160 Tryz.ntmps160 (by decide +kernel)
abbrev Qof:IL:=[je 1 1 0,yi 2]
abbrev Qog:IL:=[jb 3 0 1,jc 4 3,ja 2 4]
abbrev QEm:RC:=jQ Qof (jQ Qog (.ret))
abbrev QEn:List RR:=[.tmp 2]
theorem QEo:CT 161 5 QEm QEn:=ck Tryz.func161 Tryz.ntmps161 (by decide +kernel)
abbrev Qoh:IL:=[je 1 1 0,jh 2]
abbrev Qoi:IL:=[jb 5 3 1,jc 6 5,ji 7 1 6,jd 8 0]
abbrev Qoj:IL:=[jn 9 8 7]
abbrev Qok:IL:=[ja 10 8,jk 11 2 6 8,jf 12 2 11,⟨some 4,.allocN 4 [.int .i64 0,.int .i64 0],none⟩,ja 3 10,js 2 4 12]
abbrev Qol:IL:=[jb 13 0 4,yb 14 0 4 13,yo 15 14 0,ja 16 15,jp 17 1 4 16,zl 18 0 4 17 16,yk 19 18 2147483647 16,jo 20 16 19,ja 21 20,jp 22 1 4 21,zl 23 0 4 22 21,jp 24 0 4 21,zl 25 0 4 24 21,⟨some 26,.val (.bin .num .lss (.t 23) (.t 25)),(some (21,false))⟩,jo 27 21 26,ja 28 27,jv 29 3 28,yk 30 29 0 28,jv 31 30 28,jl 32 0 4 31,zb 33 0 4 32 31,jl 34 3 1 31,zb 35 0 1 34 31,jg 36 3 31,D3 37 36 1 31,yc 38 2 35 37 31,jl 39 1 38 31,yp 40 39 31,Cz 41 33 40 31,yw 42 31 41 28,jo 43 28 42]
abbrev Qom:IL:=[yl 2]
abbrev Qon:IL:=[jm 44 8 1,ja 8 44]
abbrev Qoo:RC:=.gho (.drop 4) (jQ Qoj (.seq (jX 9 0) (.seq (.block 1 (jQ Qok (jD Qol (.cond (.t 43) (jQ Qom (.ret)) (.skip))))) (.reg Qon))))
abbrev Qop:IL:=[jb 45 2 1,jc 46 45,⟨some 47,.val (.iaddr 3 none (.t 46) (.c (.int .i64 0))),none⟩,jb 48 1 47,jc 49 48,yg 50 49 0,ja 51 50,jp 52 2 1 51,jt 53 52 51,⟨some 54,.val (.mkfn (.func 214) [] [(.t 1)]),(some (51,false))⟩,⟨some 55,.callF (.f 143) [(.t 53),(.t 54)],(some (51,false))⟩,jo 56 51 55,ja 2 56]
abbrev QEp:RC:=jQ Qoh (.seq (jQ Qoi (.block 0 (.loop Qoo))) (jQ Qop (.ret)))
abbrev QEq:List RR:=[.tmp 2]
theorem QEr:CT 164 57 QEp QEq:=ck Tryz.func164 Tryz.ntmps164 (by decide +kernel)
abbrev Qoq:IL:=[je 1 1 0,jh 2]
abbrev Qor:IL:=[jb 3 4 1,jc 4 3,ji 5 1 4,yq 6 5 0,ja 7 6,jp 8 2 1 7,jt 9 8 7,zq 10 143 9 172 7,jo 11 7 10,ja 2 11]
abbrev QEs:RC:=jQ Qoq (jQ Qor (.ret))
abbrev QEt:List RR:=[.tmp 2]
theorem QEu:CT 171 12 QEs QEt:=ck Tryz.func171 Tryz.ntmps171 (by decide +kernel)
abbrev Qos:IL:=[je 1 1 0,jh 2]
abbrev Qot:IL:=[jb 3 2 1,jc 4 3,ji 5 1 4,yq 6 5 1,ja 7 6,jp 8 2 1 7,jt 9 8 7,yf 10 1 9 7,ys 11 10 1 7,jv 12 11 7,jl 13 2 1 12,ju 14 13 12,BM 15 8 14 0 12,jl 16 0 15 12,ju 17 16 12,⟨some 18,.val (.bin .str .neq (.t 17) (.c (.str [97,108,105,97,115]))),(some (12,true))⟩,jg 19 18 12,jp 20 2 1 19,jt 21 20 19,⟨some 22,.call (.f 173) [(.t 21),(.c (.int .i64 4))],(some (19,false))⟩,Ct 23 22 0 19,zf 24 19 23 12,yw 25 12 24 7,jo 26 7 25,ja 2 26]
abbrev QEv:RC:=jQ Qos (jQ Qot (.ret))
abbrev QEw:List RR:=[.tmp 2]
theorem QEx:CT 172 27 QEv QEw:=ck Tryz.func172 Tryz.ntmps172 (by decide +kernel)
abbrev Qou:IL:=[jd 4 0]
abbrev Qov:IL:=[ja 9 0,ji 10 1 9,yq 11 10 8]
abbrev Qow:IL:=[jd 4 3]
abbrev Qox:IL:=[yi 5]
abbrev Qoy:IL:=[ja 12 0,ji 13 1 12,jd 14 0]
abbrev Qoz:IL:=[jn 15 14 13]
abbrev QoA:IL:=[ja 16 14,jk 17 8 12 14,jf 18 8 17,⟨some 7,.allocN 7 [.str [],.int .i64 0,.int .u64 0,.str [],.nils,.nils,.nils,.nils],none⟩,ja 6 16,js 8 7 18]
abbrev QoB:IL:=[jf 19 8 7,ja 20 1,ja 21 5,ja 22 6,yq 23 22 0,zj 24 218 19 20 21 23,ja 8 24]
abbrev QoC:IL:=[ja 25 8,yg 26 25 0]
abbrev QoD:IL:=[ja 27 8,ja 4 27]
abbrev EI:IL:=[jb 28 0 7,jc 29 28,ja 5 29]
abbrev EJ:IL:=[jm 30 14 1,ja 14 30]
abbrev QoE:RC:=.gho (.drop 7) (jQ Qoz (.seq (jX 15 0) (.seq (.block 1 (jQ QoA (.seq (jQ QoB (jQ QoC (.cond (.t 26) (jQ QoD (.ret)) (.skip)))) (.reg EI)))) (.reg EJ))))
abbrev EK:IL:=[jd 4 0]
abbrev QEy:RC:=jQ Qou (.seq (jQ Qov (.cond (.t 11) (jQ Qow (.ret)) (.skip))) (jQ Qox (.seq (jQ Qoy (.block 0 (.loop QoE))) (jQ EK (.ret)))))
abbrev QEz:List RR:=[.tmp 4]
theorem QEA:CT 173 31 QEy QEz:=ck Tryz.func173 Tryz.ntmps173 (by decide +kernel)
abbrev QoF:IL:=[je 3 3 0,je 5 5 2,jh 6]
abbrev QoG:IL:=[ja 8 1,yo 9 8 0,ja 10 9,jv 11 1 10,jp 12 1 3 10,jt 13 12 10,yf 14 1 13 10,Rd 15 11 14 10,jo 16 10 15,ja 17 16,jt 18 5 17,⟨some 19,.val (.bin .num .gtr (.t 18) (.c (.int .u64 2147483647))),(some (17,false))⟩,jo 20 17 19]
abbrev QoH:IL:=[jh 6]
abbrev QoI:IL:=[jb 21 1 3,jc 22 21,ja 23 1,jk 24 5 22 23,jf 25 5 24,⟨some 7,.allocN 7 [.str [],.bool false,.nils,.nils,.nils],none⟩,js 5 7 25]
abbrev QoJ:IL:=[jb 26 1 7,jc 27 26,ja 28 27,jp 29 2 7 28,jt 30 29 28,⟨some 31,.val (.mkfn (.func 222) [] [(.t 5)]),(some (28,false))⟩,⟨some 32,.callF (.f 211) [(.t 30),(.t 31)],(some (28,false))⟩,jo 33 28 32,ja 6 33]
abbrev QEB:RC:=jQ QoF (.seq (jQ QoG (.cond (.t 20) (jQ QoH (.ret)) (.skip))) (jQ QoI (jQ QoJ (.ret))))
abbrev QEC:List RR:=[.tmp 6]
theorem QED:CT 179 34 QEB QEC:=ck Tryz.func179 Tryz.ntmps179 (by decide +kernel)
abbrev QoK:IL:=[ye 2]
abbrev QoL:IL:=[ja 7 0,BN 8 224 7,ja 3 8]
abbrev QoM:IL:=[ja 9 3,Ul 10 225 9 226]
abbrev QoN:IL:=[ye 4]
abbrev QoO:IL:=[ja 11 3,ji 12 1 11,jd 13 0]
abbrev QoP:IL:=[jn 14 13 12]
abbrev QoQ:IL:=[ja 15 13,jk 16 14 11 13,jf 17 14 16,Cw 6 6,ja 5 15,js 14 6 17]
abbrev QoR:IL:=[ja 18 5,jm 19 18 1,ja 20 3,ji 21 1 20,zm 22 19 21,ja 23 22,jp 24 0 6 23,⟨some 25,.val (.loadv 0 6 (some 7) (.t 24)),(some (23,false))⟩,jv 26 3 23,jv 27 5 23,⟨some 28,.val (.bin .num .add (.t 27) (.c (.int .i64 1))),(some (23,false))⟩,yz 29 14 26 28 23,jp 30 0 29 23,jbq 31 7 30 23,Rf 32 228 25 31 23,ze 33 32 23,jo 34 23 33]
abbrev QoS:IL:=[ja 35 4,jf 36 14 6,⟨some 37,.bsl 14 1 [.int .i64 0,.int .u64 0,.str [],.nils,.nils,.nils,.nils,.int .i64 0,.int .u64 0,.str [],.nils,.nils,.nils,.nils] [(0,14,(.t 36))],none⟩,yh 38 14 256 75 35 37,ja 4 38]
abbrev QoT:IL:=[jm 39 13 1,ja 13 39]
abbrev QoU:RC:=.gho (.drop 6) (jQ QoP (.seq (jX 14 0) (.seq (.block 1 (jQ QoQ (jD QoR (.cond (.t 34) (.reg QoS) (.skip))))) (.reg QoT))))
abbrev EL:IL:=[ja 40 4,ja 2 40]
abbrev QEE:RC:=jQ QoK (jQ QoL (jQ QoM (jQ QoN (.gho (.vec 4 4 14) (.seq (jQ QoO (.block 0 (.loop QoU))) (jQ EL (.ret)))))))
abbrev QEF:List RR:=[.tmp 2]
theorem QEG:CT 185 41 QEE QEF:=ck Tryz.func185 Tryz.ntmps185 (by decide +kernel)
abbrev QoV:IL:=[jh 2]
abbrev QoW:IL:=[ja 3 0,yn 4 3 1,ja 5 4,jg 6 0 5,yy 7 6 9 5,jj 8 5 7,ja 2 8]
abbrev QEH:RC:=jQ QoV (jQ QoW (.ret))
abbrev QEI:List RR:=[.tmp 2]
theorem QEJ:CT 193 9 QEH QEI:=ck Tryz.func193 Tryz.ntmps193 (by decide +kernel)
abbrev QoX:IL:=[je 1 1 0,jh 2]
abbrev QoY:IL:=[jb 3 3 1,jc 4 3,ji 5 1 4,jq 6 5 0,ja 7 6,jl 8 4 1 7,ju 9 8 7,yt 10 1 9 7,ym 11 10 0 7,jj 12 7 11,ja 13 12,jl 14 5 1 13,ju 15 14 13,yt 16 1 15 13,ym 17 16 0 13,jj 18 13 17,ja 19 18,jl 20 6 1 19,ju 21 20 19,yt 22 1 21 19,ym 23 22 0 19,jj 24 19 23,ja 2 24]
abbrev QEK:RC:=jQ QoX (jQ QoY (.ret))
abbrev QEL:List RR:=[.tmp 2]
theorem QEM:CT 194 25 QEK QEL:=ck Tryz.func194 Tryz.ntmps194 (by decide +kernel)
abbrev QoZ:IL:=[jh 2]
abbrev Qo0:IL:=[ja 3 0,CC 4 3 97,ja 5 4,jg 6 0 5,CD 7 6 122 5,jj 8 5 7,ja 2 8]
abbrev QEN:RC:=jQ QoZ (jQ Qo0 (.ret))
abbrev QEO:List RR:=[.tmp 2]
theorem QEP:CT 199 9 QEN QEO:=ck Tryz.func199 Tryz.ntmps199 (by decide +kernel)
abbrev Qo1:IL:=[jh 2]
abbrev Qo2:IL:=[ja 3 0,CC 4 3 65,ja 5 4,jg 6 0 5,CD 7 6 90 5,jj 8 5 7,ja 2 8]
abbrev QEQ:RC:=jQ Qo1 (jQ Qo2 (.ret))
abbrev QER:List RR:=[.tmp 2]
theorem QES:CT 200 9 QEQ QER:=ck Tryz.func200 Tryz.ntmps200 (by decide +kernel)
abbrev Qo3:IL:=[je 3 3 1,jh 4]
abbrev Qo4:IL:=[ja 6 0,jr 7 193 6,jz 8 7,ja 9 8,jp 10 0 3 9,jt 11 10 9,jv 12 0 9,Ck 13 11 12 9,jo 14 9 13,ja 15 14,yv 16 7 3 15,zi 17 194 16 15,ze 18 17 15,jo 19 15 18]
abbrev Qo5:IL:=[jh 4]
abbrev Qo6:IL:=[ja 20 0,jr 21 239 20]
abbrev Qo7:IL:=[jb 22 1 3,jc 23 22,D2 24 23 0,ja 25 24,jl 26 2 3 25,ju 27 26 25,yt 28 0 27 25,yy 29 28 4096 25,jj 30 25 29,ja 31 30,jg 32 0 31,ym 33 32 8 31,jg 34 33 31,jp 35 2 3 34,jt 36 35 34,zi 37 131 36 34,zf 38 34 37 31,jj 39 31 38,ja 4 39]
abbrev Qo8:IL:=[jb 40 2 3,jc 41 40,⟨some 42,.val (.bin .str .neq (.t 41) (.c (.str []))),none⟩]
abbrev Qo9:IL:=[jh 4]
abbrev Qpa:IL:=[ja 43 0]
abbrev Qpb:IL:=[jq 45 43 1,ja 44 45]
abbrev Qpc:IL:=[jb 46 1 3,jc 47 46,⟨some 48,.val (.bin .num .leq (.t 47) (.c (.int .u64 1))),none⟩,ja 4 48]
abbrev EM:IL:=[jq 50 43 2,ja 49 50]
abbrev EN:IL:=[jb 51 1 3,jc 52 51,Cj 53 52,ja 5 53]
abbrev EO:IL:=[ja 54 5,yn 55 54 (-2147483648),ja 56 55,jg 57 5 56,yy 58 57 2147483647 56,jj 59 56 58,ja 4 59]
abbrev EP:IL:=[jq 61 43 4,ja 60 61]
abbrev EQ:IL:=[jb 62 1 3,jc 63 62,⟨some 64,.val (.bin .num .lss (.t 63) (.c (.int .u64 4294967296))),none⟩,ja 4 64]
abbrev ER:IL:=[jq 66 43 9,ja 65 66]
abbrev ES:IL:=[jb 67 1 3,jc 68 67,⟨some 69,.val (.bin .num .lss (.t 68) (.c (.int .u64 2147483648))),none⟩,ja 4 69]
abbrev ET:IL:=[yl 4]
abbrev QET:RC:=jQ Qo3 (.seq (jQ Qo4 (.cond (.t 19) (jQ Qo5 (.ret)) (.skip))) (.seq (jQ Qo6 (.cond (.t 21) (jQ Qo7 (.ret)) (.skip))) (.seq (jQ Qo8 (.cond (.t 42) (jQ Qo9 (.ret)) (.skip))) (.seq (jQ Qpa (.block 0 (jQ Qpb (.cond (.t 44) (jQ Qpc (.ret)) (jQ EM (.cond (.t 49) (jQ EN (jQ EO (.ret))) (jQ EP (.cond (.t 60) (jQ EQ (.ret)) (jQ ER (.cond (.t 65) (jQ ES (.ret)) (.skip))))))))))) (jQ ET (.ret))))))
abbrev QEU:List RR:=[.tmp 4]
theorem QEV:CT 201 70 QET QEU:=ck Tryz.func201 Tryz.ntmps201 (by decide +kernel)
abbrev Qpd:IL:=[jd 2 0]
abbrev Qpe:IL:=[jd 3 0]
abbrev Qpf:IL:=[ja 5 3,ja 6 0,ji 7 0 6,jn 8 5 7]
abbrev Qpg:IL:=[ja 9 0,ja 10 3,jy 11 240 9 10,ja 4 11]
abbrev Qph:IL:=[ja 12 4,jq 13 12 0]
abbrev Qpi:IL:=[ja 14 3,ja 2 14]
abbrev Qpj:IL:=[ja 15 3,ja 16 4,yj 17 15 16,ja 3 17]
abbrev Qpk:RC:=.seq (jQ Qpf (jX 8 0)) (.block 1 (jQ Qpg (.seq (jQ Qph (.cond (.t 13) (jQ Qpi (.ret)) (.skip))) (.reg Qpj))))
abbrev Qpl:IL:=[jd 2 (-1)]
abbrev QEW:RC:=jQ Qpd (.seq (jQ Qpe (.block 0 (.loop Qpk))) (jQ Qpl (.ret)))
abbrev QEX:List RR:=[.tmp 2]
theorem QEY:CT 202 18 QEW QEX:=ck Tryz.func202 Tryz.ntmps202 (by decide +kernel)
abbrev Qpm:IL:=[jh 4]
abbrev Qpn:IL:=[ja 5 0,ja 6 1,yr 7 245 5 6,yn 8 7 0,ja 4 8]
abbrev QEZ:RC:=jQ Qpm (jQ Qpn (.ret))
abbrev QE0:List RR:=[.tmp 4]
theorem Qpo:CT 211 9 QEZ QE0:=ck Tryz.func211 Tryz.ntmps211 (by decide +kernel)
abbrev Qpp:IL:=[je 3 3 0,jh 4]
abbrev Qpq:IL:=[jc 5 1,jw 6 0 3 3 3,⟨some 7,.call (.t 5) [(.t 6)],none⟩,jc 8 1,jf 9 3 2,⟨some 10,.call (.t 8) [(.t 9)],none⟩,BJ 11 7 10,ja 4 11]
abbrev QE1:RC:=jQ Qpp (jD Qpq (.ret))
abbrev QE2:List RR:=[.tmp 4]
theorem QE3:CT 213 12 QE1 QE2:=ck Tryz.func213 Tryz.ntmps213 (by decide +kernel)
abbrev Qpr:IL:=[je 2 2 0,jh 3]
abbrev Qps:IL:=[jb 4 1 2,jc 5 4,yq 6 5 2147483647,ja 7 6,jp 8 3 1 7,jt 9 8 7,jp 10 1 2 7,jt 11 10 7,Rf 12 215 9 11 7,jo 13 7 12,ja 3 13]
abbrev QE4:RC:=jQ Qpr (jQ Qps (.ret))
abbrev QE5:List RR:=[.tmp 3]
theorem QE6:CT 214 14 QE4 QE5:=ck Tryz.func214 Tryz.ntmps214 (by decide +kernel)
abbrev Qpt:IL:=[je 3 3 1,jh 4]
abbrev Qpu:IL:=[ja 5 0,G3 6 247 3,yr 7 246 5 6,ja 4 7]
abbrev QE7:RC:=jQ Qpt (jQ Qpu (.ret))
abbrev QE8:List RR:=[.tmp 4]
theorem QE9:CT 215 8 QE7 QE8:=ck Tryz.func215 Tryz.ntmps215 (by decide +kernel)
abbrev Qpv:IL:=[je 4 4 0,jd 8 0]
abbrev Qpw:IL:=[zz 12 249,jb 13 0 4,yb 14 0 4 13,⟨some 15,.val (.mgetp true (.agg [.int .i64 0,.int .i64 0]) (.t 12) (.t 14)),none⟩,ja 11 15,jx 16 11 0,jx 17 11 1,⟨some 9,.allocN 9 [.int .i64 0,.int .i64 0],none⟩,zp 0 9 2 9 16,ja 10 17]
abbrev Qpx:IL:=[ja 19 10,jz 20 19,ja 18 20]
abbrev Qpy:IL:=[jd 8 8]
abbrev Qpz:IL:=[ja 22 1,yo 23 22 1,ja 24 23,jv 25 1 24,yk 26 25 6 24,jo 27 24 26,ja 28 27,jp 29 1 9 28,jt 30 29 28,jv 31 1 28,⟨some 32,.val (.bin .num .shr (.t 30) (.t 31)),(some (28,false))⟩,⟨some 33,.val (.bin .num .and (.t 32) (.c (.int .i64 1))),(some (28,false))⟩,ys 34 33 0 28,jo 35 28 34,ja 21 35]
abbrev QpA:IL:=[jd 8 1]
abbrev QpB:IL:=[jf 37 8 4,jr 38 250 37,jz 39 38,ja 36 39]
abbrev QpC:IL:=[jd 8 12]
abbrev QpD:IL:=[ja 41 3,ja 42 41,jl 43 0 4 42,ju 44 43 42,jg 45 2 42,⟨some 46,.val (.bin .str .lss (.t 44) (.t 45)),(some (42,true))⟩,jj 47 42 46,ja 40 47]
abbrev QpE:IL:=[jd 8 11]
abbrev EU:IL:=[ja 49 3,ja 50 49,jl 51 0 4 50,ju 52 51 50,jg 53 2 50,Cu 54 52 53 50,jj 55 50 54,ja 48 55]
abbrev EV:IL:=[jd 8 9]
abbrev EX:IL:=[jd 8 0]
abbrev QFa:RC:=jQ Qpv (jD Qpw (.seq (.block 0 (jQ Qpx (.cond (.t 18) (jQ Qpy (.ret)) (jQ Qpz (.cond (.t 21) (jQ QpA (.ret)) (jQ QpB (.cond (.t 36) (jQ QpC (.ret)) (jQ QpD (.cond (.t 40) (jQ QpE (.ret)) (jQ EU (.cond (.t 48) (jQ EV (.ret)) (.skip)))))))))))) (jQ EX (.ret))))
abbrev QFb:List RR:=[.tmp 8]
theorem QFc:CT 218 56 QFa QFb:=ck Tryz.func218 Tryz.ntmps218 (by decide +kernel)
abbrev QpF:IL:=[je 4 4 0,je 5 5 1,jd 8 0]
abbrev QpG:IL:=[ja 13 2,ji 14 1 13,jd 15 0]
abbrev QpH:IL:=[jn 16 15 14]
abbrev QpI:IL:=[ja 17 15,jk 18 14 13 15,jf 19 14 18,Cw 10 10,ja 9 17,js 14 10 19]
abbrev QpJ:IL:=[jf 20 2 4,jb 21 4 5,jc 22 21,jb 23 0 10,jf 24 7 23,⟨some 25,.call (.f 251) [(.t 20),(.t 22),(.c (.int .i64 (-1))),(.t 24)],none⟩,ja 11 25]
abbrev QpK:IL:=[ja 26 11,yg 27 26 0]
abbrev QpL:IL:=[ja 28 11,ja 8 28]
abbrev QpM:IL:=[ja 29 2,ja 30 9,BI 31 14 29 30,G3 32 253 10,yr 33 252 31 32]
abbrev QpN:IL:=[jd 8 9]
abbrev QpO:IL:=[jf 34 2 4,jf 35 8 5,jb 36 7 10,jf 37 7 36,ja 38 3,zj 39 220 34 35 37 38,ja 12 39]
abbrev EY:IL:=[ja 40 12,yg 41 40 0]
abbrev EZ:IL:=[ja 42 12,ja 8 42]
abbrev E0:IL:=[jm 43 15 1,ja 15 43]
abbrev QpP:RC:=.gho (.drop 10) (jQ QpH (.seq (jX 16 0) (.seq (.block 1 (jQ QpI (.seq (jQ QpJ (jQ QpK (.cond (.t 27) (jQ QpL (.ret)) (.skip)))) (.seq (jQ QpM (.cond (.t 33) (jQ QpN (.ret)) (.skip))) (jQ QpO (jQ EY (.cond (.t 41) (jQ EZ (.ret)) (.skip)))))))) (.reg E0))))
abbrev E1:IL:=[jd 8 0]
abbrev QFd:RC:=jQ QpF (.seq (jQ QpG (.block 0 (.loop QpP))) (jQ E1 (.ret)))
abbrev QFe:List RR:=[.tmp 8]
theorem QFf:CT 221 44 QFd QFe:=ck Tryz.func221 Tryz.ntmps221 (by decide +kernel)
abbrev QpQ:IL:=[je 2 2 0,jh 3]
abbrev QpR:IL:=[jb 4 1 2,jc 5 4,zo 6 5,jc 7 1,zm 8 6 7,ja 3 8]
abbrev QFg:RC:=jQ QpQ (jQ QpR (.ret))
abbrev QFh:List RR:=[.tmp 3]
theorem QFi:CT 222 9 QFg QFh:=ck Tryz.func222 Tryz.ntmps222 (by decide +kernel)
def CR:IL:=[ye 2]
def CS:IL:=[ja 3 0,⟨some 4,.isnil false (.t 3),none⟩]
def CU:IL:=[ye 2]
def CV:IL:=[⟨some 5,.bsl0 5 14,none⟩,ja 6 0,yh 7 14 256 75 5 6,ja 2 7]
def QpS:RC:=jQ CR (.seq (jQ CS (.cond (.t 4) (jQ CU (.gho (.vec 2 2 14) (.gho (.give 2 2 1 1000) (.ret)))) (.skip))) (jQ CV (.gho (.give 2 5 1 1000) (.ret))))
def M9:List RR:=[.tmp 2]
theorem QFj:CT 224 8 QpS M9:=ck Tryz.func224 Tryz.ntmps224 (by decide +kernel)
abbrev QpT:IL:=[je 2 2 0,je 3 3 1,jd 4 0]
abbrev QpU:IL:=[jb 5 0 2,jf 6 7 5,jb 7 0 3,jf 8 7 7,jy 9 227 6 8,ja 4 9]
abbrev QFk:RC:=jQ QpT (jQ QpU (.ret))
abbrev QFl:List RR:=[.tmp 4]
theorem QFm:CT 226 10 QFk QFl:=ck Tryz.func226 Tryz.ntmps226 (by decide +kernel)
abbrev QpV:IL:=[je 2 2 0,je 3 3 1,jd 4 0]
abbrev QpW:IL:=[jb 11 0 2,jc 12 11,jb 13 0 3,jc 14 13,zs 15 12 14]
abbrev QpX:IL:=[jb 16 0 2,jc 17 16,jb 18 0 3,jc 19 18,jy 20 102 17 19,ja 4 20]
abbrev QpY:IL:=[jf 21 7 3,jr 22 257 21,ja 5 22]
abbrev QpZ:IL:=[jf 23 7 2,jr 24 257 23]
abbrev Qp0:IL:=[⟨some 25,.val (.tas 218 true (.agg [.int .i64 0,.int .u64 0,.str [],.nils,.nils,.nils,.nils]) (.t 24)),none⟩,jx 26 25 1,jx 27 25 0]
abbrev Qp1:IL:=[yu 6 6,js 7 6 27]
abbrev Qp2:IL:=[jf 28 7 6,jf 29 7 3,jy 30 258 28 29,ja 4 30]
abbrev Qp3:IL:=[⟨some 31,.val (.tas 219 true (.nils) (.t 24)),none⟩,jx 32 31 1,jx 33 31 0]
abbrev Qp4:IL:=[ja 7 33]
abbrev E2:IL:=[ja 34 7,ja 35 5,⟨some 36,.val (.tas 219 false (.nils) (.t 35)),none⟩,⟨some 37,.callF (.f 259) [(.t 34),(.t 36),(.f 227)],none⟩,ja 4 37]
abbrev E3:IL:=[⟨some 38,.val (.tas 221 true (.nils) (.t 24)),none⟩,jx 39 38 1,jx 40 38 0]
abbrev E4:IL:=[ja 8 40]
abbrev E5:IL:=[ja 41 8,ja 42 5,⟨some 43,.val (.tas 221 false (.nils) (.t 42)),none⟩,⟨some 44,.callF (.f 260) [(.t 41),(.t 43),(.f 261)],none⟩,ja 4 44]
abbrev E6:IL:=[⟨some 45,.val (.tas 224 true (.agg [.nils,.nils]) (.t 24)),none⟩,jx 46 45 1,jx 47 45 0]
abbrev E7:IL:=[⟨some 9,.allocN 9 [.nils,.nils],none⟩,js 2 9 47]
abbrev E8:IL:=[ja 48 5,⟨some 49,.val (.tas 224 false (.agg [.nils,.nils]) (.t 48)),none⟩,⟨some 10,.allocN 10 [.nils,.nils],none⟩,js 2 10 49]
abbrev E9:IL:=[jd 4 0]
abbrev QFn:RC:=jQ QpV (.seq (jQ QpW (.cond (.t 15) (jQ QpX (.ret)) (.skip))) (jQ QpY (.seq (jQ QpZ (.block 0 (jQ Qp0 (.cond (.t 26) (jQ Qp1 (jQ Qp2 (.ret))) (jQ Qp3 (.cond (.t 32) (jQ Qp4 (jQ E2 (.ret))) (jQ E3 (.cond (.t 39) (jQ E4 (jQ E5 (.ret))) (jQ E6 (.cond (.t 46) (jQ E7 (jQ E8 (.seq (.no) (.ret)))) (.skip))))))))))) (jQ E9 (.ret)))))
abbrev QFo:List RR:=[.tmp 4]
theorem QFp:CT 227 62 QFn QFo:=ck Tryz.func227 Tryz.ntmps227 (by decide +kernel)
abbrev Qp5:IL:=[je 2 2 0,je 3 3 1,jh 4]
abbrev Qp6:IL:=[jf 5 7 2,jf 6 7 3,jy 7 227 5 6,jq 8 7 0,ja 4 8]
abbrev QFq:RC:=jQ Qp5 (jQ Qp6 (.ret))
abbrev QFr:List RR:=[.tmp 4]
theorem QFs:CT 228 9 QFq QFr:=ck Tryz.func228 Tryz.ntmps228 (by decide +kernel)
abbrev Qp7:IL:=[jh 2]
abbrev Qp8:IL:=[ja 3 0,jq 4 3 7,ja 5 4,jv 6 0 5,ys 7 6 8 5,jo 8 5 7,ja 2 8]
abbrev QFt:RC:=jQ Qp7 (jQ Qp8 (.ret))
abbrev QFu:List RR:=[.tmp 2]
theorem QFv:CT 239 9 QFt QFu:=ck Tryz.func239 Tryz.ntmps239 (by decide +kernel)
def CW:IL:=[jd 4 0]
def CX:IL:=[ja 6 0,ja 7 1,BP 8 6 7,ja 5 8]
def CY:IL:=[ja 10 5,⟨some 11,.val (.bin .num .lss (.t 10) (.c (.int .u8 128))),none⟩,ja 9 11]
def CZ:IL:=[jd 4 1]
def Fh:IL:=[ja 13 5,CC 14 13 194,ja 15 14,jg 16 5 15,CD 17 16 223 15,jj 18 15 17,ja 19 18,jg 20 0 19,jg 21 1 19,zy 22 21 1 19,D7 23 271 20 22 1 19,jj 24 19 23,ja 12 24]
def C0:IL:=[jd 4 2]
def Fj:IL:=[ja 26 5,CA 27 26 224,ja 28 27,jg 29 0 28,jg 30 1 28,zy 31 30 1 28,⟨some 32,.call (.f 272) [(.t 29),(.t 31),(.c (.int .u8 160)),(.c (.int .u8 191))],(some (28,true))⟩,jj 33 28 32,ja 34 33,jg 35 0 34,jg 36 1 34,zy 37 36 2 34,D7 38 271 35 37 1 34,jj 39 34 38,ja 25 39]
def C1:IL:=[jd 4 3]
def Fk:IL:=[ja 41 5,CA 42 41 237,ja 43 42,jg 44 0 43,jg 45 1 43,zy 46 45 1 43,⟨some 47,.call (.f 272) [(.t 44),(.t 46),(.c (.int .u8 128)),(.c (.int .u8 159))],(some (43,true))⟩,jj 48 43 47,ja 49 48,jg 50 0 49,jg 51 1 49,zy 52 51 2 49,D7 53 271 50 52 1 49,jj 54 49 53,ja 40 54]
def C2:IL:=[jd 4 3]
def Gt:IL:=[ja 56 5,CC 57 56 225,ja 58 57,jg 59 5 58,CD 60 59 239 58,jj 61 58 60,ja 62 61,jg 63 5 62,⟨some 64,.val (.bin .num .neq (.t 63) (.c (.int .u8 237))),(some (62,true))⟩,jj 65 62 64,ja 66 65,jg 67 0 66,jg 68 1 66,zy 69 68 1 66,D7 70 271 67 69 2 66,jj 71 66 70,ja 55 71]
def BR:IL:=[jd 4 3]
def Gu:IL:=[ja 73 5,CA 74 73 240,ja 75 74,jg 76 0 75,jg 77 1 75,zy 78 77 1 75,⟨some 79,.call (.f 272) [(.t 76),(.t 78),(.c (.int .u8 144)),(.c (.int .u8 191))],(some (75,true))⟩,jj 80 75 79,ja 81 80,jg 82 0 81,jg 83 1 81,zy 84 83 2 81,D7 85 271 82 84 2 81,jj 86 81 85,ja 72 86]
def BS:IL:=[jd 4 4]
def Gv:IL:=[ja 88 5,CC 89 88 241,ja 90 89,jg 91 5 90,CD 92 91 243 90,jj 93 90 92,ja 94 93,jg 95 0 94,jg 96 1 94,zy 97 96 1 94,D7 98 271 95 97 3 94,jj 99 94 98,ja 87 99]
def BT:IL:=[jd 4 4]
def Gw:IL:=[ja 101 5,CA 102 101 244,ja 103 102,jg 104 0 103,jg 105 1 103,zy 106 105 1 103,⟨some 107,.call (.f 272) [(.t 104),(.t 106),(.c (.int .u8 128)),(.c (.int .u8 143))],(some (103,true))⟩,jj 108 103 107,ja 109 108,jg 110 0 109,jg 111 1 109,zy 112 111 2 109,D7 113 271 110 112 2 109,jj 114 109 113,ja 100 114]
def BU:IL:=[jd 4 4]
def BW:IL:=[jd 4 0]
def Qp9:RC:=jQ CW (jQ CX (.seq (.block 0 (jQ CY (.cond (.t 9) (jQ CZ (.ret)) (jQ Fh (.cond (.t 12) (jQ C0 (.ret)) (jQ Fj (.cond (.t 25) (jQ C1 (.ret)) (jQ Fk (.cond (.t 40) (jQ C2 (.ret)) (jQ Gt (.cond (.t 55) (jQ BR (.ret)) (jQ Gu (.cond (.t 72) (jQ BS (.ret)) (jQ Gv (.cond (.t 87) (jQ BT (.ret)) (jQ Gw (.cond (.t 100) (jQ BU (.ret)) (.skip)))))))))))))))))) (jQ BW (.ret))))
def Qqa:List RR:=[.tmp 4]
theorem QFw:CT 240 115 Qp9 Qqa:=ck Tryz.func240 Tryz.ntmps240 (by decide +kernel)
abbrev Qqb:IL:=[jd 4 0]
abbrev Qqc:IL:=[ja 6 0,ji 7 1 6,jd 8 0]
abbrev Qqd:IL:=[jn 9 8 7]
abbrev Qqe:IL:=[ja 10 8,ja 5 10]
abbrev Qqf:IL:=[ja 11 1,ja 12 0,ja 13 5,jk 14 3 12 13,jf 15 3 14,G4 16 11 15]
abbrev Qqg:IL:=[ja 17 5,ja 4 17]
abbrev Qqh:IL:=[jm 18 8 1,ja 8 18]
abbrev Qqi:RC:=jQ Qqd (.seq (jX 9 0) (.seq (.block 1 (jQ Qqe (jQ Qqf (.cond (.t 16) (jQ Qqg (.ret)) (.skip))))) (.reg Qqh)))
abbrev Qqj:IL:=[jd 4 (-1)]
abbrev QFx:RC:=jQ Qqb (.seq (jQ Qqc (.block 0 (.loop Qqi))) (jQ Qqj (.ret)))
abbrev QFy:List RR:=[.tmp 4]
theorem Qqk:CT 245 19 QFx QFy:=ck Tryz.func245 Tryz.ntmps245 (by decide +kernel)
abbrev Qql:IL:=[jh 4]
abbrev Qqm:IL:=[ja 5 0,ja 6 1,yr 7 276 5 6,yn 8 7 0,ja 4 8]
abbrev QFz:RC:=jQ Qql (jQ Qqm (.ret))
abbrev QFA:List RR:=[.tmp 4]
theorem QFB:CT 246 9 QFz QFA:=ck Tryz.func246 Tryz.ntmps246 (by decide +kernel)
abbrev Qqn:IL:=[je 2 2 0,jh 3]
abbrev Qqo:IL:=[jb 4 0 2,jc 5 4,jc 6 1,D6 7 5 6,ja 8 7,ju 9 1 8,jl 10 1 2 8,ju 11 10 8,Cz 12 9 11 8,jj 13 8 12,ja 3 13]
abbrev QFC:RC:=jQ Qqn (jQ Qqo (.ret))
abbrev QFD:List RR:=[.tmp 3]
theorem QFE:CT 247 14 QFC QFD:=ck Tryz.func247 Tryz.ntmps247 (by decide +kernel)
abbrev Qqp:IL:=[jh 6]
abbrev Qqq:IL:=[ja 7 2,⟨some 8,.val (.bin .num .eql (.t 7) (.c (.int .i32 65533))),none⟩,ja 9 8,jg 10 0 9,jg 11 1 9,⟨some 12,.val (.slc none (.t 10) (some (.t 11)) none none),(some (9,true))⟩,⟨some 13,.call (.f 277) [(.t 12),(.c (.str [239,191,189]))],(some (9,true))⟩,yx 14 13 9,jj 15 9 14,ja 6 15]
abbrev QFF:RC:=jQ Qqp (jQ Qqq (.ret))
abbrev QFG:List RR:=[.tmp 6]
theorem QFH:CT 248 16 QFF QFG:=ck Tryz.func248 Tryz.ntmps248 (by decide +kernel)
abbrev Qqr:IL:=[⟨some 0,.val (.mov (.c (.nilm))),none⟩]
abbrev Qqs:IL:=[⟨some 1,.mkm 1,none⟩,⟨some 2,.val (.build [.int .i64 0,.int .i64 0] [(0,1,(.c (.int .i64 1))),(1,1,(.c (.int .i64 126)))]),none⟩,⟨none,.mput (.t 1) (.c (.str [100,101,112,114,101,99,97,116,101,100])) (.t 2),none⟩,⟨some 3,.val (.build [.int .i64 0,.int .i64 0] [(0,1,(.c (.int .i64 7))),(1,1,(.c (.int .i64 126)))]),none⟩,⟨none,.mput (.t 1) (.c (.str [100,111,99])) (.t 3),none⟩,⟨some 4,.val (.build [.int .i64 0,.int .i64 0] [(0,1,(.c (.int .i64 7))),(1,1,(.c (.int .i64 84)))]),none⟩,⟨none,.mput (.t 1) (.c (.str [97,108,105,97,115])) (.t 4),none⟩,⟨some 5,.val (.build [.int .i64 0,.int .i64 0] [(0,1,(.c (.int .i64 4))),(1,1,(.c (.int .i64 84)))]),none⟩,⟨none,.mput (.t 1) (.c (.str [115,105,110,99,101])) (.t 5),none⟩,⟨some 6,.val (.build [.int .i64 0,.int .i64 0] [(0,1,(.c (.int .i64 4))),(1,1,(.c (.int .i64 84)))]),none⟩,⟨none,.mput (.t 1) (.c (.str [117,110,116,105,108])) (.t 6),none⟩,⟨some 7,.val (.build [.int .i64 0,.int .i64 0] [(0,1,(.c (.int .i64 3))),(1,1,(.c (.int .i64 4)))]),none⟩,⟨none,.mput (.t 1) (.c (.str [109,105,110])) (.t 7),none⟩,⟨some 8,.val (.build [.int .i64 0,.int .i64 0] [(0,1,(.c (.int .i64 3))),(1,1,(.c (.int .i64 4)))]),none⟩,⟨none,.mput (.t 1) (.c (.str [109,97,120])) (.t 8),none⟩,⟨some 9,.val (.build [.int .i64 0,.int .i64 0] [(0,1,(.c (.int .i64 4))),(1,1,(.c (.int .i64 4)))]),none⟩,⟨none,.mput (.t 1) (.c (.str [108,101,110,103,116,104])) (.t 9),none⟩,⟨some 10,.val (.build [.int .i64 0,.int .i64 0] [(0,1,(.c (.int .i64 1))),(1,1,(.c (.int .i64 4)))]),none⟩,⟨none,.mput (.t 1) (.c (.str [115,101,99,114,101,116])) (.t 10),none⟩,⟨some 11,.val (.build [.int .i64 0,.int .i64 0] [(0,1,(.c (.int .i64 1))),(1,1,(.c (.int .i64 64)))]),none⟩,⟨none,.mput (.t 1) (.c (.str [105,100,101,109,112,111,116,101,110,116])) (.t 11),none⟩,⟨some 12,.val (.build [.int .i64 0,.int .i64 0] [(0,1,(.c (.int .i64 4))),(1,1,(.c (.int .i64 64)))]),none⟩,⟨none,.mput (.t 1) (.c (.str [116,105,109,101,111,117,116])) (.t 12),none⟩,⟨some 13,.val (.build [.int .i64 0,.int .i64 0] [(0,1,(.c (.int .i64 7))),(1,1,(.c (.int .i64 64)))]),none⟩,⟨none,.mput (.t 1) (.c (.str [114,111,117,116,101])) (.t 13),none⟩,⟨some 14,.val (.build [.int .i64 0,.int .i64 0] [(0,1,(.c (.int .i64 7))),(1,1,(.c (.int .i64 34)))]),none⟩,⟨none,.mput (.t 1) (.c (.str [111,119,110,101,114])) (.t 14),none⟩,ja 15 1,ja 0 15]
abbrev Qqt:RC:=jQ Qqr (jQ Qqs (.ret))
abbrev Qqu:List RR:=[.tmp 0]
theorem QFI:CT 249 16 Qqt Qqu:=ck Tryz.func249 Tryz.ntmps249 (by decide +kernel)
abbrev Qqv:IL:=[je 1 1 0,jh 2]
abbrev Qqw:IL:=[jb 4 0 1,jc 5 4,jr 6 278 5,ja 3 6]
abbrev Qqx:IL:=[ja 7 3,yg 8 7 0,ja 9 8,jg 10 3 9,jl 11 1 1 9,zk 12 7 11 9,Co 13 279 10 12 9,jj 14 9 13,ja 2 14]
abbrev QFJ:RC:=jQ Qqv (jQ Qqw (jQ Qqx (.ret)))
abbrev QFK:List RR:=[.tmp 2]
theorem QFL:CT 250 15 QFJ QFK:=ck Tryz.func250 Tryz.ntmps250 (by decide +kernel)
abbrev Qqy:IL:=[jh 4]
abbrev Qqz:IL:=[ja 5 0,ja 6 1,yr 7 280 5 6,yn 8 7 0,ja 4 8]
abbrev QFM:RC:=jQ Qqy (jQ Qqz (.ret))
abbrev QFN:List RR:=[.tmp 4]
theorem QFO:CT 252 9 QFM QFN:=ck Tryz.func252 Tryz.ntmps252 (by decide +kernel)
abbrev QqA:IL:=[je 2 2 0,jh 3]
abbrev QqB:IL:=[jb 4 0 2,jf 5 7 4,jb 6 0 1,jf 7 7 6,jy 8 228 5 7,ja 3 8]
abbrev QFP:RC:=jQ QqA (jQ QqB (.ret))
abbrev QFQ:List RR:=[.tmp 3]
theorem QFR:CT 253 9 QFP QFQ:=ck Tryz.func253 Tryz.ntmps253 (by decide +kernel)
abbrev QqC:IL:=[je 1 1 0,⟨some 2,.val (.mov (.c (.nili))),none⟩]
abbrev QqD:IL:=[jb 4 0 1,jc 5 4,jr 6 217 5,ja 3 6]
abbrev QqE:IL:=[jf 7 7 1,⟨some 8,.val (.mki 218 (.t 7)),none⟩,ja 2 8]
abbrev QqF:IL:=[jb 10 0 1,jc 11 10,jq 12 11 11,ja 9 12]
abbrev QqG:IL:=[jb 13 3 1,jc 14 13,⟨some 15,.val (.mki 219 (.t 14)),none⟩,ja 2 15]
abbrev QqH:IL:=[jb 17 0 1,jc 18 17,jq 19 18 12,ja 16 19]
abbrev QqI:IL:=[jb 20 4 1,jc 21 20,⟨some 22,.val (.mki 221 (.t 21)),none⟩,ja 2 22]
abbrev QqJ:IL:=[jb 24 0 1,jc 25 24,jq 26 25 10,ja 23 26]
abbrev QqK:IL:=[jb 27 5 1,jc 28 27,jb 29 6 1,jc 30 29,⟨some 31,.val (.build [.nils,.nils] [(0,1,(.t 28)),(1,1,(.t 30))]),none⟩,⟨some 32,.val (.mki 224 (.t 31)),none⟩,ja 2 32]
abbrev QqL:IL:=[⟨some 2,.val (.mov (.c (.nili))),none⟩]
abbrev QFS:RC:=jQ QqC (.seq (.block 0 (jQ QqD (.cond (.t 3) (jQ QqE (.ret)) (jQ QqF (.cond (.t 9) (jQ QqG (.ret)) (jQ QqH (.cond (.t 16) (jQ QqI (.ret)) (jQ QqJ (.cond (.t 23) (jQ QqK (.ret)) (.skip)))))))))) (jQ QqL (.ret)))
abbrev QFT:List RR:=[.tmp 2]
theorem QFU:CT 257 33 QFS QFT:=ck Tryz.func257 Tryz.ntmps257 (by decide +kernel)
abbrev QqM:IL:=[je 2 2 0,je 3 3 1,jd 4 0]
abbrev QqN:IL:=[jb 6 0 2,jc 7 6,jb 8 0 3,jc 9 8,zs 10 7 9,ja 5 10]
abbrev QqO:IL:=[jb 11 0 2,jc 12 11,jb 13 0 3,jc 14 13,jy 15 102 12 14,ja 4 15]
abbrev QqP:IL:=[jb 17 0 2,jc 18 17,jr 19 217 18,jz 20 19,ja 16 20]
abbrev QqQ:IL:=[jd 4 0]
abbrev QqR:IL:=[jb 22 0 2,jc 23 22,jr 24 267 23,ja 21 24]
abbrev QqS:IL:=[jb 25 2 2,jc 26 25,jb 27 2 3,jc 28 27,jy 29 284 26 28,ja 4 29]
abbrev QqT:IL:=[jb 31 0 2,jc 32 31,jq 33 32 2,ja 34 33,jp 35 0 2 34,jt 36 35 34,ys 37 36 3 34,jo 38 34 37,ja 30 38]
abbrev QqU:IL:=[jb 39 1 2,jc 40 39,Cj 41 40,jb 42 1 3,jc 43 42,Cj 44 43,jy 45 102 41 44,ja 4 45]
abbrev QqV:IL:=[jb 47 0 2,jc 48 47,jq 49 48 6,ja 46 49]
abbrev Ia:IL:=[jb 50 1 2,yb 51 0 2 50,jr 52 286 51,jb 53 1 3,yb 54 0 3 53,jr 55 286 54,jy 56 285 52 55,ja 4 56]
abbrev Ib:IL:=[jb 57 1 2,jc 58 57,jb 59 1 3,jc 60 59,jy 61 285 58 60,ja 4 61]
abbrev QFV:RC:=jQ QqM (.seq (.block 0 (jQ QqN (.cond (.t 5) (jQ QqO (.ret)) (jQ QqP (.cond (.t 16) (jQ QqQ (.ret)) (jQ QqR (.cond (.t 21) (jQ QqS (.ret)) (jQ QqT (.cond (.t 30) (jQ QqU (.ret)) (jQ QqV (.cond (.t 46) (jD Ia (.ret)) (.skip)))))))))))) (jQ Ib (.ret)))
abbrev QFW:List RR:=[.tmp 4]
theorem QFX:CT 258 62 QFV QFW:=ck Tryz.func258 Tryz.ntmps258 (by decide +kernel)
abbrev QqW:IL:=[jh 6]
abbrev QqX:IL:=[jd 7 0]
abbrev QqY:IL:=[ja 8 7,ja 9 2,jn 10 8 9]
abbrev QqZ:IL:=[ja 13 0,ja 14 1,ja 15 7,yj 16 14 15,⟨some 17,.call (.f 272) [(.t 13),(.t 16),(.c (.int .u8 128)),(.c (.int .u8 191))],none⟩,jz 18 17]
abbrev Qq0:IL:=[jh 6]
abbrev Qq1:IL:=[ja 11 7,jm 12 11 1,ja 7 12]
abbrev Qq2:RC:=.seq (jQ QqY (jX 10 0)) (.seq (.block 1 (jQ QqZ (.cond (.t 18) (jQ Qq0 (.ret)) (.skip)))) (.reg Qq1))
abbrev Qq3:IL:=[yl 6]
abbrev QFY:RC:=jQ QqW (.seq (jQ QqX (.block 0 (.loop Qq2))) (jQ Qq3 (.ret)))
abbrev QFZ:List RR:=[.tmp 6]
theorem QF0:CT 271 19 QFY QFZ:=ck Tryz.func271 Tryz.ntmps271 (by decide +kernel)
abbrev Qq4:IL:=[jh 8]
abbrev Qq5:IL:=[ja 9 1,ja 10 0,ji 11 0 10,jn 12 9 11,ja 13 12,jg 14 0 13,jg 15 1 13,CB 16 14 15 13,jg 17 2 13,⟨some 18,.val (.bin .num .geq (.t 16) (.t 17)),(some (13,true))⟩,jj 19 13 18,ja 20 19,jg 21 0 20,jg 22 1 20,CB 23 21 22 20,jg 24 3 20,Cz 25 23 24 20,jj 26 20 25,ja 8 26]
abbrev QF1:RC:=jQ Qq4 (jQ Qq5 (.ret))
abbrev QF2:List RR:=[.tmp 8]
theorem QF3:CT 272 27 QF1 QF2:=ck Tryz.func272 Tryz.ntmps272 (by decide +kernel)
abbrev Qq6:IL:=[jd 4 0]
abbrev Qq7:IL:=[ja 6 0,ji 7 1 6,jd 8 0]
abbrev Qq8:IL:=[jn 9 8 7]
abbrev Qq9:IL:=[ja 10 8,ja 5 10]
abbrev Qra:IL:=[ja 11 1,ja 12 0,ja 13 5,jk 14 2 12 13,jf 15 2 14,G4 16 11 15]
abbrev Qrb:IL:=[ja 17 5,ja 4 17]
abbrev Qrc:IL:=[jm 18 8 1,ja 8 18]
abbrev Qrd:RC:=jQ Qq8 (.seq (jX 9 0) (.seq (.block 1 (jQ Qq9 (jQ Qra (.cond (.t 16) (jQ Qrb (.ret)) (.skip))))) (.reg Qrc)))
abbrev Qre:IL:=[jd 4 (-1)]
abbrev QF4:RC:=jQ Qq6 (.seq (jQ Qq7 (.block 0 (.loop Qrd))) (jQ Qre (.ret)))
abbrev QF5:List RR:=[.tmp 4]
theorem QF6:CT 276 19 QF4 QF5:=ck Tryz.func276 Tryz.ntmps276 (by decide +kernel)
abbrev Qrf:IL:=[jh 4]
abbrev Qrg:IL:=[ja 5 0,ja 6 1,jy 7 293 5 6,ja 4 7]
abbrev QF7:RC:=jQ Qrf (jQ Qrg (.ret))
abbrev QF8:List RR:=[.tmp 4]
theorem QF9:CT 277 8 QF7 QF8:=ck Tryz.func277 Tryz.ntmps277 (by decide +kernel)
abbrev Qrh:IL:=[jd 2 0]
abbrev Qri:IL:=[zz 3 249,ja 4 0,⟨some 5,.val (.mget false (.agg [.int .i64 0,.int .i64 0]) (.t 3) (.t 4)),none⟩,⟨some 6,.val (.fld 0 none (.t 5)),none⟩,ja 2 6]
abbrev QGa:RC:=jQ Qrh (jQ Qri (.ret))
abbrev QGb:List RR:=[.tmp 2]
theorem QGc:CT 278 7 QGa QGb:=ck Tryz.func278 Tryz.ntmps278 (by decide +kernel)
abbrev Qrj:IL:=[jd 4 0]
abbrev Qrk:IL:=[ja 6 0,ji 7 1 6,jd 8 0]
abbrev Qrl:IL:=[jn 9 8 7]
abbrev Qrm:IL:=[ja 10 8,ja 5 10]
abbrev Qrn:IL:=[ja 11 1,ja 12 0,ja 13 5,jk 14 14 12 13,jf 15 14 14,G4 16 11 15]
abbrev Qro:IL:=[ja 17 5,ja 4 17]
abbrev Qrp:IL:=[jm 18 8 1,ja 8 18]
abbrev Qrq:RC:=jQ Qrl (.seq (jX 9 0) (.seq (.block 1 (jQ Qrm (jQ Qrn (.cond (.t 16) (jQ Qro (.ret)) (.skip))))) (.reg Qrp)))
abbrev Qrr:IL:=[jd 4 (-1)]
abbrev QGd:RC:=jQ Qrj (.seq (jQ Qrk (.block 0 (.loop Qrq))) (jQ Qrr (.ret)))
abbrev QGe:List RR:=[.tmp 4]
theorem QGf:CT 280 19 QGd QGe:=ck Tryz.func280 Tryz.ntmps280 (by decide +kernel)
abbrev Qrs:IL:=[jd 4 0]
abbrev Qrt:IL:=[ja 7 0,jr 8 297 7,ja 5 8]
abbrev Qru:IL:=[ja 9 1,jr 10 297 9,ja 6 10]
abbrev Qrv:IL:=[ja 11 5]
abbrev Qrw:IL:=[ja 12 6]
abbrev Qrx:IL:=[jd 4 0]
abbrev Qry:IL:=[jd 4 (-1)]
abbrev Qrz:IL:=[ja 13 6]
abbrev QrA:IL:=[jd 4 1]
abbrev QrB:IL:=[ja 14 0,ja 15 1,⟨some 16,.val (.bin .str .lss (.t 14) (.t 15)),none⟩]
abbrev Ic:IL:=[jd 4 (-1)]
abbrev Id:IL:=[ja 17 0,ja 18 1,⟨some 19,.val (.bin .str .gtr (.t 17) (.t 18)),none⟩]
abbrev Ie:IL:=[jd 4 1]
abbrev Ig:IL:=[jd 4 0]
abbrev QGg:RC:=jQ Qrs (jQ Qrt (jQ Qru (.seq (jQ Qrv (.cond (.t 11) (.seq (jQ Qrw (.cond (.t 12) (jQ Qrx (.ret)) (.skip))) (jQ Qry (.ret))) (.skip))) (.seq (jQ Qrz (.cond (.t 13) (jQ QrA (.ret)) (.skip))) (.seq (jQ QrB (.cond (.t 16) (jQ Ic (.ret)) (.skip))) (.seq (jQ Id (.cond (.t 19) (jQ Ie (.ret)) (.skip))) (jQ Ig (.ret))))))))
abbrev QGh:List RR:=[.tmp 4]
theorem QGi:CT 284 20 QGg QGh:=ck Tryz.func284 Tryz.ntmps284 (by decide +kernel)
abbrev QrC:IL:=[jd 4 0]
abbrev QrD:IL:=[ja 7 0,jr 8 298 7,ja 5 8]
abbrev QrE:IL:=[ja 9 1,jr 10 298 9,ja 6 10]
abbrev QrF:IL:=[ja 11 5]
abbrev QrG:IL:=[ja 12 6]
abbrev QrH:IL:=[jd 4 0]
abbrev QrI:IL:=[jd 4 (-1)]
abbrev QrJ:IL:=[ja 13 6]
abbrev QrK:IL:=[jd 4 1]
abbrev QrL:IL:=[ja 14 0,ja 15 1,jn 16 14 15]
abbrev Ih:IL:=[jd 4 (-1)]
abbrev Ii:IL:=[ja 17 0,ja 18 1,Cm 19 17 18]
abbrev Ij:IL:=[jd 4 1]
abbrev Ik:IL:=[jd 4 0]
abbrev QGj:RC:=jQ QrC (jQ QrD (jQ QrE (.seq (jQ QrF (.cond (.t 11) (.seq (jQ QrG (.cond (.t 12) (jQ QrH (.ret)) (.skip))) (jQ QrI (.ret))) (.skip))) (.seq (jQ QrJ (.cond (.t 13) (jQ QrK (.ret)) (.skip))) (.seq (jQ QrL (.cond (.t 16) (jQ Ih (.ret)) (.skip))) (.seq (jQ Ii (.cond (.t 19) (jQ Ij (.ret)) (.skip))) (jQ Ik (.ret))))))))
abbrev QGk:List RR:=[.tmp 4]
theorem QGl:CT 285 20 QGj QGk:=ck Tryz.func285 Tryz.ntmps285 (by decide +kernel)
abbrev QrM:IL:=[jh 4]
abbrev QrN:IL:=[ja 5 0,ji 6 0 5,ja 7 1,ji 8 0 7,⟨some 9,.val (.bin .num .geq (.t 6) (.t 8)),none⟩,ja 10 9,jg 11 0 10,jg 12 1 10,yt 13 0 12 10,⟨some 14,.val (.slc none (.t 11) none (some (.t 13)) none),(some (10,true))⟩,jg 15 1 10,Cu 16 14 15 10,jj 17 10 16,ja 4 17]
abbrev QGm:RC:=jQ QrM (jQ QrN (.ret))
abbrev QGn:List RR:=[.tmp 4]
theorem QGo:CT 293 18 QGm QGn:=ck Tryz.func293 Tryz.ntmps293 (by decide +kernel)
abbrev QrO:IL:=[jh 2]
abbrev QrP:IL:=[ja 3 0,ja 4 0,⟨some 5,.val (.bin .str .neq (.t 3) (.t 4)),none⟩,ja 2 5]
abbrev QGp:RC:=jQ QrO (jQ QrP (.ret))
abbrev QGq:List RR:=[.tmp 2]
theorem QGr:CT 297 6 QGp QGq:=ck Tryz.func297 Tryz.ntmps297 (by decide +kernel)
abbrev QrQ:IL:=[jh 2]
abbrev QrR:IL:=[ja 3 0,ja 4 0,zs 5 3 4,ja 2 5]
abbrev QGs:RC:=jQ QrQ (jQ QrR (.ret))
abbrev QGt:List RR:=[.tmp 2]
theorem QGu:CT 298 6 QGs QGt:=ck Tryz.func298 Tryz.ntmps298 (by decide +kernel)
end Go.Proofs.YtipjfckmopekaaaGreatDoor.Rc

namespace Go.Proofs.YtipjfckmopekaaaGreatDoor.Bt
open Go

theorem Gx (n:Int):IntKind.u64.wrap n=n % 18446744073709551616:=by simp[IntKind.wrap,IntKind.bits,IntKind.signed]
theorem wu8 (n:Int):IntKind.u8.wrap n=n % 256:=by simp[IntKind.wrap,IntKind.bits,IntKind.signed]
theorem QF (n:Int):IntKind.i64.wrap n=(n+9223372036854775808) % 18446744073709551616-9223372036854775808:=IntKind.wrap_i64 n

theorem K9 {n:Nat}(h:n<18446744073709551616):(BitVec.ofInt 64 (n:Int)).toNat=n:=by
 simp;omega

theorem BX (a b:Nat)(ha:a<18446744073709551616)(hb:b<18446744073709551616):bits .xor .u64 (a:Int) (b:Int)=((a ^^^ b:Nat):Int):=by
 have hx:a ^^^ b<2 ^ 64:=Nat.xor_lt_two_pow (by omega) (by omega);show IntKind.u64.wrap ((BitVec.ofInt 64 (a:Int) ^^^ BitVec.ofInt 64 (b:Int)).toNat:Int)=_;rw[BitVec.toNat_xor,K9 ha,K9 hb,Gx];omega
theorem YY (a b:Nat)(ha:a<18446744073709551616)(hb:b<18446744073709551616):bits .and .u64 (a:Int) (b:Int)=((a &&& b:Nat):Int):=by
 have hx:a &&& b<2 ^ 64:=Nat.and_lt_two_pow _ (by omega);show IntKind.u64.wrap ((BitVec.ofInt 64 (a:Int) &&& BitVec.ofInt 64 (b:Int)).toNat:Int)=_;rw[BitVec.toNat_and,K9 ha,K9 hb,Gx];omega
theorem Fl (a:Nat)(ha:a<18446744073709551616):a ^^^ 18446744073709551615=18446744073709551615-a:=by
 have h1:(BitVec.ofNat 64 a ^^^ BitVec.allOnes 64).toNat=a ^^^ 18446744073709551615:=by
  rw[BitVec.toNat_xor,BitVec.toNat_ofNat,BitVec.toNat_allOnes,Nat.mod_eq_of_lt (by omega)]
 rw[←h1,BitVec.xor_allOnes,BitVec.toNat_not,BitVec.toNat_ofNat,Nat.mod_eq_of_lt (by omega)]

theorem Fm (a:Int)(h0:0≤a)(h1:a<18446744073709551616):bits .xor .u64 a 0=a:=by
 obtain⟨n,rfl⟩:=QNF h0;have:=BX n 0 (by omega) (by omega);rw[Nat.xor_zero]at this;exact this
theorem Fo (a:Int)(h0:0≤a)(h1:a<18446744073709551616):bits .xor .u64 a 18446744073709551615=18446744073709551615-a:=by
 obtain⟨n,rfl⟩:=QNF h0;have:=BX n 18446744073709551615 (by omega) (by omega);rw[Fl n (by omega)]at this;rw[show((18446744073709551615:Nat):Int)=18446744073709551615 from rfl]at this;rw[this];omega
end Go.Proofs.YtipjfckmopekaaaGreatDoor.Bt

set_option linter.unusedSimpArgs false
namespace Go.Proofs.YtipjfckmopekaaaGreatDoor.Va
open Go Am Rc Bt

def RB (v:AV):Prop:=∃b,v=.bool b
theorem RB.rf {v:AV}{l:List AV}(h:RB v):v.rf=true∧(AV.rfL l=true∨v.nl=true):=by
 obtain⟨b,rfl⟩:=h;exact⟨rfl,.inr rfl⟩

def isk (k:Int):Bool:=decide (k≥1)&&decide (k≤9)
def ZN (k:Int):Bool:=k==7||k==8
def wk (k:Int):Int:=if k=1∨k=4∨k=5∨k=9 then 0 else if k=2∨k=3 then 1 else if k=6 then 2 else if k=7∨k=8 then 3 else if k=10 then 4 else -1

theorem QGv (k:Int):Qp Tryz.prog 193 [.int .i64 k] (.bool (isk k)):=by
 refine QEJ.fn (by simp) ?_;simp only[isk,Qa,seval];cases h:decide (k≥1)<;>simp only[QND,QNw,Qa,seval]

theorem Fp (k:Int):Qp Tryz.prog 217 [.int .i64 k] (.bool (isk k)):=by
 refine QhH.fn (by simp) ?_;simp only[isk,Qa,seval];cases h:decide (k≥1)<;>simp only[QND,QNw,Qa,seval]

theorem QGw (k:Int):Qp Tryz.prog 239 [.int .i64 k] (.bool (ZN k)):=by
 refine QFv.fn (by simp) ?_;simp only[ZN,Qa,seval];cases h:(k==7)<;>simp only[QNG,QNH,Qa,seval]

theorem QrT (k:Int):Qp Tryz.prog 267 [.int .i64 k] (.bool (ZN k)):=by
 refine QjR.fn (by simp) ?_;simp only[ZN,Qa,seval];cases h:(k==7)<;>simp only[QNG,QNH,Qa,seval]

def oc (n:Int)(s a:List UInt8)(c k kd t u:Int):AV:=.agg [.int .i64 n,.str s,.str a,.int .i64 c,.int .i64 k,.int .i64 kd,.int .i64 t,.int .i64 u]

def pk (c kd:Int):Bool:=c==4&&((decide (kd≥1)&&decide (kd≤6))||kd==9)
def C3 (c kd:Int):Int:=if c=5 then 6 else if pk c kd=true then 5 else wk kd

section
variable (n:Int)(s a:List UInt8)(c k kd t u:Int)

theorem QrU:Qp Tryz.prog 119 [oc n s a c k kd t u] (.bool (pk c kd)):=by
 refine Qbv.fn (by simp) ?_;simp only[oc,pk,eE,seval];cases h0:(c==4)<;>cases h1:decide (kd≥1)<;>cases h2:decide (kd≤6)<;>simp only[h1,h2,QND,QNw,QNG,QNH,eE,seval]

theorem QGx:Qp Tryz.prog 198 [oc n s a c k kd t u] (.int .i64 (C3 c kd)):=by
 have hP:=QrU n s a c k kd t u;simp only[oc]at hP;refine Qgn.fn (by simp) ?_;simp only[oc,eE,seval];by_cases hc:c=5
 ·have b0:(c==5)=true:=by simp[hc]
  simp only[b0,C3,QMy hc,Qa,seval]
 ·have b0:(c==5)=false:=by simp[hc]
  simp only[b0,C3,QMj hc,eE,seval];refine Qb hP rfl rfl rfl (.inl rfl) ?_;cases pk c kd
  ·simp only[QMo,eE,seval]
   repeat' (first|(refine Xl (fun h=>?_) (fun h=>?_)<;>simp only[h,Qa,seval])|(refine XV (fun h=>?_) (fun h=>?_)<;>simp only[h,Qn,eE,seval])|(refine XW (fun h=>?_) (fun h=>?_)<;>simp only[h,Qn,eE,seval]))
   all_goals((try simp only[QMb,QNI,ne_eq]at *)<;>unfold wk<;>(repeat' split)<;>first|rfl|(exfalso;omega))
  ·simp only[Qa,seval]

end

theorem Qq (i:Nat)(n:Nat)(h:i<n)(hn:n≤maxLen):IntKind.i64.wrap ((i:Int)+1)=((i+1:Nat):Int):=by
 simp only[maxLen]at hn;rw[QF];omega

theorem Qo {i n:Nat}(h:i<n):decide ((i:Int)<(n:Int))=true:=by simp;omega
theorem QE {i n:Nat}(h:¬i<n):decide ((i:Int)<(n:Int))=false:=by simp;omega
theorem Qm (i:Nat):(0≤(i:Int))=True:=by simp

end Go.Proofs.YtipjfckmopekaaaGreatDoor.Va

namespace Go.Proofs.YtipjfckmopekaaaGreatDoor.Br
open Go Am Go.RowKit Go.WideShapes Go.ChangeShapes Go.ChangeAt Go.Joins Go.Deep Go.WideElems Go.Maps

section
variable {H:Type}{XI:TypeId×Value→H}{P:Program}{W:World}{base:Nat}{sp:Nat→Bool}{held:Bool}

end

theorem Um {X α:Type}{f:X→List α}{sz:Nat}(hsz:0<sz)(hf:∀x,(f x).length=sz):∀(xs:List X) (j:Nat),(xs.flatMap f)[j]? = (xs[j / sz]?).bind fun x=>(f x)[j % sz]?
 | [],j=>by simp
 |x :: xs,j=>by
  rw[QNv];by_cases hj:j<sz
  ·rw[QNr (by rw[hf];exact hj),Nat.div_eq_of_lt hj,Nat.mod_eq_of_lt hj];rfl
  ·obtain⟨i,rfl⟩:∃i,j=sz+i:=⟨j-sz,by omega⟩;rw[QNs (by rw[hf];omega),hf,Um hsz hf xs,show sz+i-sz=i by omega,show(sz+i) / sz=i / sz+1 by rw[Nat.add_div_left _ hsz],Nat.add_mod_left];rfl

section
variable {H:Type}{XI:TypeId×Value→H}{P:Program}{W:World}

structure El (XI:TypeId×Value→H)(P:Program)(e:TypeId)(sz:Nat)(X:Type) where
 av:X→AV
 vals:X→List Value
 FF:X→DataW H
 ok:X→Prop
 pos:0<sz
 len:∀x,(vals x).length=sz
 cells:∀x,(av x).cells.length=sz
 rfl':∀x,AV.rfL (av x).cells=true
 leaf:∀x,(av x).cells.all AV.leaf=true
 rep:∀(G:Gh) x,RepL G (av x).cells (vals x)
 opened:∀ {W:World} {n:Nat} {cs:List Value} {d:DataW H} {pl:List MemPlace},cs.length=sz→DataW.trod XI P W 0 (fun _=>true) true n e cs=some (d,pl)→∃x,ok x∧cs=vals x∧d=FF x∧pl=[]
 shut:∀(W:World) (sp:Nat→Bool) x,ok x→∃n,DataW.trod XI P W 0 sp true n e (vals x)=some (FF x,[])

end

def Xk:List AV→AV
 | [x]=>x
 |l=>.agg l

def Hy (P:Program):Nat→List Field→Nat→Bool
 |o,[],n=>Nat.beq o n
 |o,f :: fs,n=>Nat.beq f.offset o&&Hy P (o+P.cellsOf f.type) fs n

def C4 (P:Program)(ts:List TypeId)(t:TypeId):Bool :=
 match P.underlying t with
 |some (.int _)|some .bool|some .string=>P.cellsOf t==1
 |some (.struct fs)=>Hy P 0 fs.toList (P.cellsOf t)&&fs.toList.all fun f=>ts.contains f.type
 |some (.slice e)=>P.cellsOf t==1&&(decide (0<P.cellsOf e)&&decide (0<P.bytesOf e))&&ts.contains e
 |_=>false
def C5 (P:Program)(ts:List TypeId):Bool:=ts.all (C4 P ts)

def Q2 (P:Program)(M:Nat):Nat→TypeId→List AV→Prop
 |0,_,_=>False
 |k+1,t,cs=>match P.underlying t with
  |some (.int ik)=>∃n,cs=[.int ik n]∧(Lit.int ik n).wf=true
  |some .bool=>∃b,cs=[.bool b]
  |some .string=>∃s,cs=[.str s]∧s.length≤M
  |some (.struct fs)=>HasL (Q2 P M k) fs.toList cs
  |some (.slice e)=>∃l:List (List AV),cs=[.list (l.map Xk)]∧(l.length≤maxLen∧(M=reachBytes→l.length*P.bytesOf e≤M))∧(∀c∈l,Q2 P M k e c)∧l.length≤M
  |_=>False
where
 HasL (h:TypeId→List AV→Prop):List Field→List AV→Prop
  | [],cs=>cs=[]
  |f :: fs,cs=>∃a b,cs=a++b∧h f.type a∧HasL h fs b

theorem Un {l:List AV}(h:l.all AV.leaf=true):(Xk l).cells=l:=by
 match l,h with
 | [],_=>rfl
 | [x],h=>cases x<;>first|rfl|simp[AV.leaf]at h
 |_ :: _ :: _,_=>rfl

mutual
def wt:AV→Nat
 |.list l=>1+Jh l
 |.agg l=>Jh l
 |_=>1
def Jh:List AV→Nat
 | []=>0
 |x :: l=>wt x+Jh l
end
theorem BY (a b:List AV):Jh (a++b)=Jh a+Jh b:=by
 induction a with
 |nil=>simp[Jh]
 |cons x a ih=>simp only[QMr,Jh,ih];omega
theorem Pa:∀l:List AV,wt (Xk l)=Jh l
 | []=>by simp[Xk,wt]
 | [x]=>by simp[Xk,Jh]
 |_ :: _ :: _=>by simp[Xk,wt]

theorem Yx {G:Gh}:∀ {ls:List (List AV)} {cs:List (List Value)},ls.length=cs.length→(∀i (h1:i<ls.length) (h2:i<cs.length),RepL G ls[i] cs[i])→RepL G ls.flatten cs.flatten
 | [],[],_,_=>.nil
 |l :: ls,c :: cs,hn,h=>by
  rw[List.flatten_cons,List.flatten_cons];exact RepL.append (h 0 (by simp) (by simp)) (Yx (by simpa using hn) fun i h1 h2=>h (i+1) (by simpa using h1) (by simpa using h2))
 | [],_ :: _,hn,_=>by simp at hn
 |_ :: _,[],hn,_=>by simp at hn

section
variable {H:Type}{XI:TypeId×Value→H}{P:Program}{W:World}{M:Nat}

theorem UF {d:DataW H}:∀ {l:List (DataW H)},d∈l→Rows.uptoBulk d≤Rows.uptoBulkAll l
 | [],h=>by cases h
 |x :: l,h=>by
  rw[Rows.uptoBulkAll];rcases QNo.1 h with rfl|h
  ·omega
  ·have:=UF h;omega

theorem Pb (d:DataW H):1≤Rows.uptoBulk d:=by unfold Rows.uptoBulk;split<;>omega
theorem Hz {x:AV}(h:wt x=1)(d:DataW H):Jh [x]≤Rows.uptoBulk d:=by
 have:=Pb d;rw[Jh,Jh,h];exact this
theorem Pd (a b:List (DataW H)):Rows.uptoBulkAll (a++b)=Rows.uptoBulkAll a+Rows.uptoBulkAll b:=by
 induction a with
 |nil=>simp[Rows.uptoBulkAll]
 |cons x a ih=>simp only[QMr,Rows.uptoBulkAll,ih];omega
theorem Fq (F:Nat→List AV)(xs:List (DataW H))(h:∀i d,xs[i]? = some d→Jh (F i)≤Rows.uptoBulk d):∀n,n≤xs.length→Jh (((List.range n).map F).map Xk)≤Rows.uptoBulkAll (xs.take n)
 |0,_=>QMd _
 |n+1,hn=>by
  have hx:xs[n]? = some xs[n]:=QL6 (by omega);have:=Fq F xs h n (by omega);have h1:=h n _ hx;rw[List.range_succ,QNJ,QNJ,BY,QNK,hx,Pd];simp only[QMB,QM5,Jh,Pa,Option.toList_some,Rows.uptoBulkAll];omega

def R6 (P:Program)(M:Nat)(t:TypeId)(d:DataW H):Prop:=M=maxLen∨(M≠reachBytes∧Rows.uptoBulk d≤M)∨(d.weights P t).all (·≤M)=true

theorem Ky {t:TypeId}{d:DataW H}:∀ {ts:List TypeId} {ds:List (DataW H)} (i:Nat),(DataW.weightsEach P ts ds).all (·≤M)=true→ts[i]? = some t→ds[i]? = some d→(d.weights P t).all (·≤M)=true
 | [],_,_,_,h,_=>by simp at h
 |_ :: _,[],_,_,_,h=>by simp at h
 |t' :: ts,d' :: ds,0,h,h1,h2=>by
  rw[DataW.weightsEach,QNj,QMt]at h;cases h1;cases h2;exact h.1
 |t' :: ts,d' :: ds,i+1,h,h1,h2=>by
  rw[DataW.weightsEach,QNj,QMt]at h;exact Ky i h.2 (by simpa using h1) (by simpa using h2)

theorem Wu {e:TypeId}{d:DataW H}:∀ {ds:List (DataW H)},(DataW.weightsAll P e ds).all (·≤M)=true→d∈ds→(d.weights P e).all (·≤M)=true
 | [],_,h=>by cases h
 |d' :: ds,h,hd=>by
  rw[DataW.weightsAll,QNj,QMt]at h;rcases QNo.1 hd with rfl|hd
  ·exact h.1
  ·exact Wu h.2 hd

def Opn (W:World)(h:List AV→Prop)(B n:Nat)(cs:List Value):Prop :=
 ∃avs,h avs∧RepL (Gh.bare fun b o=>sv W b o) avs cs∧avs.length=n∧AV.rfL avs=true∧avs.all AV.leaf=true∧Jh avs≤B

theorem Uo {h:TypeId→List AV→Prop}{cs:List Value}:∀(fs:List Field) (ds:List (DataW H)) (o:Nat),Hy P o fs cs.length=true→fs.length=ds.length→(∀(i:Nat) (f:Field) (d:DataW H),fs[i]? = some f→ds[i]? = some d→Opn W (h f.type) (Rows.uptoBulk d) (P.cellsOf f.type) ((cs.drop f.offset).take (P.cellsOf f.type)))→
  Opn W (Q2.HasL h fs) (Rows.uptoBulkAll ds) (cs.length-o) (cs.drop o)
 | [],_,o,hc,_,_=>by
  have e:o=cs.length:=QL1 hc;refine⟨[],rfl,?_,by simp[e],rfl,rfl,QMd _⟩;rw[e,List.drop_length];exact .nil
 |_ :: _,[],_,_,hl,_=>by simp at hl
 |f :: fs,d :: ds,o,hc,hl,hf=>by
  simp only[Hy,QMt]at hc;have eo:f.offset=o:=QL1 hc.1;obtain⟨a,a1,a2,a3,a4,a5,a6⟩:=hf 0 f d rfl rfl;obtain⟨b,b1,b2,b3,b4,b5,b6⟩:=Uo fs ds _ hc.2 (by simpa using hl) fun i g d hg hd=>hf (i+1) g d (by simpa using hg) (by simpa using hd)
  rw[eo]at a2;refine⟨a++b,⟨a,b,rfl,a1,b1⟩,?_,?_,by rw[Kt,a4,b4]<;>rfl,by rw[QNj,a5,b5]<;>rfl,by rw[BY,Rows.uptoBulkAll];omega⟩
  ·have:=RepL.append a2 b2
   rwa [←QMx,QNi]at this
  ·have hlen:a.length=((cs.drop o).take (P.cellsOf f.type)).length:=(RepL.length a2).symm;rw[QMH,a3,b3];rw[a3,QM1,QMK]at hlen;omega

theorem Yy {ts:List TypeId}(hP:C5 P ts=true):∀(k:Nat) (t:TypeId) (cs:List Value) (d:DataW H) (pl:List MemPlace),ts.contains t=true→DataW.trod XI P W 0 (fun _=>true) true k t cs=some (d,pl)→R6 P M t d→
  Opn W (Q2 P M k t) (Rows.uptoBulk d) (P.cellsOf t) cs
 |0,_,_,_,_,_,h,_=>by simp[DataW.trod]at h
 |k+1,t,cs,d,pl,ht,h,hb=>by
  have hp:=QMh.1 hP t (by simpa using ht);unfold C4 at hp;split at hp
  ·rename_i ik hu;obtain⟨v,rfl,_,hw⟩:=DataW.trod_int hu h;refine⟨[.int ik v],?_,.cons (.int ik v) .nil,by rw[QMb]at hp;simp[hp],rfl,rfl,Hz rfl _⟩;simp only[Q2,hu];exact⟨v,rfl,hw⟩
  ·rename_i hu;obtain⟨b,rfl,_⟩:=DataW.trod_bool hu h;refine⟨[.bool b],?_,.cons (.bool b) .nil,by rw[QMb]at hp;simp[hp],rfl,rfl,Hz rfl _⟩;simp only[Q2,hu];exact⟨b,rfl⟩
  ·rename_i hu;obtain⟨⟨⟨s⟩⟩,rfl,e,hw⟩:=DataW.trod_string hu h;have hw:s.length≤M:=by
    cases e;rcases hb with rfl|hb|hb
    ·exact hw
    ·replace hb:=hb.2;rw[Rows.uptoBulk]at hb;exact QL4 (Nat.le_succ _) hb
    ·rw[DataW.weights]at hb
     simpa using hb
   refine⟨[.str s],?_,.cons (.str s) .nil,by rw[QMb]at hp;simp[hp],rfl,rfl,Hz rfl _⟩;simp only[Q2,hu];exact⟨s,rfl,hw⟩
  ·rename_i fs hu;simp only[QMt,QMh]at hp;obtain⟨xs,n',hk,e,hlen,hxl,hx⟩:=DataW.trod_struct hu h;obtain rfl:k=n':=by omega
   have hbx:∀(i:Nat) x (f:Field),xs[i]? = some x→fs[i]? = some f→R6 P M f.type x.1:=fun i x f hx hf=>by
    cases e;refine hb.imp id fun hb=>hb.imp (fun hb=>⟨hb.1,?_⟩) fun hb=>?_
    ·replace hb:=hb.2;rw[Rows.uptoBulk]at hb;have:=UF (l:=xs.map (·.1)) (QNm.2 ⟨x,QMi hx,rfl⟩);omega
    ·rw[DataW.weights,hu]at hb;exact Ky i hb (by simp[hf]) (by simp[hx])
   have:=Uo (W:=W) (h:=Q2 P M k) (cs:=cs) fs.toList (xs.map (·.1)) 0 (by rw[hlen];exact hp.1) (by simp[hxl]) (fun i f d hi hd=>by
    have hi':fs[i]? = some f:=by simpa using hi
    have hf:f∈fs.toList:=QMi hi;obtain⟨x,hxi,rfl⟩:∃x,xs[i]? = some x∧x.1=d:=by
     rw[QNp]at hd;obtain⟨x,h1,h2⟩:=QL8.1 hd;exact⟨x,h1,h2⟩
    have h2:=hx i f hi';rw[hxi]at h2;exact Yy hP k f.type _ _ _ (hp.2 f hf) h2 (hbx i _ f hxi hi'))
   rw[QMM,QNl,hlen]at this;obtain⟨avs,h1,h2,h3,h4,h5,h6⟩:=this;refine⟨avs,?_,h2,h3,h4,h5,by cases e;rw[Rows.uptoBulk];omega⟩;simp only[Q2,hu];exact h1
  ·rename_i e hu;simp only[QMt,QMa,QMb]at hp;obtain⟨⟨h1,h0,hby⟩,hpe⟩:=hp;rcases DataW.trod_slice hu h with⟨rfl,_⟩|⟨a,len,cap,elems,rest,n',hk,rfl,e0,_,hl,hm,hln0,hel,_⟩
   ·refine⟨[.list []],?_,.cons (.list (cs:=[]) (sz:=0) .nil (by simp) rfl rfl (by simp) rfl (QMd _) (QMd _)) .nil,by simp[h1],rfl,rfl,Hz rfl _⟩;simp only[Q2,hu];exact⟨[],rfl,⟨QMd _,fun _=>by simp⟩,by simp,QMd _⟩
   ·obtain rfl:k=n':=by omega
    have hbx:∀x∈elems,R6 P M e x.1:=fun x hx=>by
     cases e0;refine hb.imp id fun hb=>hb.imp (fun hb=>⟨hb.1,?_⟩) fun hb=>?_
     ·replace hb:=hb.2;rw[Rows.uptoBulk]at hb;have:=UF (l:=elems.map (·.1)) (QNm.2 ⟨x,hx,rfl⟩);omega
     ·rw[DataW.weights,hu,QNe,QNj,QMt,QMt]at hb;exact Wu hb.2.1 (QNm.2 ⟨x,hx,rfl⟩)
    have hlenM:len≤M:=by
     cases e0;rcases hb with rfl|hb|hb
     ·omega
     ·have key:∀l:List (DataW H),l.length≤Rows.uptoBulkAll l:=by
       intro l
       induction l with
       |nil=>simp
       |cons x l ih=>
        have:1≤Rows.uptoBulk x:=by unfold Rows.uptoBulk;split<;>omega
        rw[Rows.uptoBulkAll,QMk];omega
      replace hb:=hb.2;rw[Rows.uptoBulk]at hb;have:=key (elems.map (·.1));rw[QMZ]at this;omega
     ·rw[DataW.weights,hu,QNe,QMt]at hb;have h5:=hb.1;simp only[QMa,QMZ]at h5;have h6:elems.length*1≤(elems.length+rest.length)*P.bytesOf e:=Nat.mul_le_mul (Nat.le_add_right _ _) hby;omega
    have hlenB:M=reachBytes→len*P.bytesOf e≤M:=fun hM=>by
     cases e0;rcases hb with rfl|hb|hb
     ·exact absurd hM (by unfold maxLen reachBytes;omega)
     ·exact absurd hM hb.1
     ·rw[DataW.weights,hu,QNe,QMt]at hb;have h5:=hb.1;simp only[QMa,QMZ]at h5;have h6:elems.length*P.bytesOf e≤(elems.length+rest.length)*P.bytesOf e:=Nat.mul_le_mul (Nat.le_add_right _ _) (QL3 _);have h7:len*P.bytesOf e=elems.length*P.bytesOf e:=by rw[show len=elems.length by omega]
      omega
    haveI:Inhabited ({c:List Value // c.length=P.cellsOf e}×List AV):=⟨(⟨List.replicate (P.cellsOf e) (.bool false),by simp⟩,[])⟩
    obtain⟨F,hF⟩:=choose_lt (α:={c:List Value // c.length=P.cellsOf e}×List AV) (n:=len) (p:=fun i x=>W.cells? 0 (a.add (i*P.cellsOf e)) (P.cellsOf e)=some x.1.1∧Q2 P M k e x.2∧RepL (Gh.bare fun b o=>sv W b o) x.2 x.1.1∧x.2.length=P.cellsOf e∧AV.rfL x.2=true∧x.2.all AV.leaf=true∧∀d,elems[i]? = some d→Jh x.2≤Rows.uptoBulk d.1) (fun i hi=>by
     have hb:=hel i hi;rw[QL6 (by omega)]at hb;obtain⟨cs',c1,c2⟩:=Option.bind_eq_some_iff.1 hb;obtain⟨_,hln,_⟩:=World.cells?_some c1;obtain⟨avs,o1,o2,o3,o4,o5,o6⟩:=Yy hP k e cs' _ _ hpe c2 (hbx _ (QMW _));exact⟨(⟨cs',hln⟩,avs),c1,o1,o2,o3,o4,o5,fun d hd=>by
      rw[QL6 (by omega)]at hd;cases hd;exact o6⟩)
    have cellAt:∀i j,i<len→j<P.cellsOf e→W.cell? (a.add (i*P.cellsOf e+j))=(F i).1.1[j]?:=by
     intro i j hi hj;obtain⟨_,_,h3⟩:=World.cells?_some (hF i hi).1;rw[←h3 j hj,add_add]
    have hspot:0<len→a.spot=none:=by
     intro hc;have:=cellAt 0 0 hc h0;rw[Nat.zero_mul,show a.add (0+0)=a from rfl,QL6 (by rw[(F 0).1.2];exact h0)]at this;unfold World.cell? at this;split at this
     ·split at this
      ·cases this
      ·rename_i h;simpa using h
     ·cases this
    have hel':∀c∈(List.range len).map (fun i=>(F i).2),∃i,i<len∧c=(F i).2:=by
     intro c hc;obtain⟨i,hi,rfl⟩:=QNm.1 hc;exact⟨i,QNy.1 hi,rfl⟩
    have hflat:∀L:List (List AV),(∀c∈L,c.all AV.leaf=true)→QK (L.map Xk)=L.flatten:=by
     intro L
     induction L with
     |nil=>intro _;rfl
     |cons c L ih=>
      intro hh;show(Xk c).cells++QK (L.map Xk)=c++L.flatten;rw[Un (hh c (by simp)),ih fun x hx=>hh x (by simp[hx])]
    have hrf:∀L:List (List AV),(∀c∈L,AV.rfL c=true)→AV.rfL L.flatten=true:=by
     intro L
     induction L with
     |nil=>intro _;rfl
     |cons c L ih=>
      intro hh;rw[List.flatten_cons,Kt,hh c (by simp),ih fun x hx=>hh x (by simp[hx])]<;>rfl
    have hlf:∀L:List (List AV),(∀c∈L,c.all AV.leaf=true)→L.flatten.all AV.leaf=true:=by
     intro L
     induction L with
     |nil=>intro _;rfl
     |cons c L ih=>
      intro hh;rw[List.flatten_cons,QNj,hh c (by simp),ih fun x hx=>hh x (by simp[hx])]<;>rfl
    have hl1:∀c∈(List.range len).map (fun i=>(F i).2),c.all AV.leaf=true:=fun c hc=>by
     obtain⟨i,hi,rfl⟩:=hel' c hc;exact(hF i hi).2.2.2.2.2.1
    have hl2:∀c∈(List.range len).map (fun i=>(F i).2),AV.rfL c=true:=fun c hc=>by
     obtain⟨i,hi,rfl⟩:=hel' c hc;exact(hF i hi).2.2.2.2.1
    have hwt:Jh [.list (((List.range len).map fun i=>(F i).2).map Xk)]≤Rows.uptoBulk d:=by
     cases e0;have hw:=fun n hn=>Fq (fun i=>if i<len then(F i).2 else []) (elems.map (·.1)) (fun i d hd=>by
      rw[QNp]at hd;obtain⟨x,h1,rfl⟩:=QL8.1 hd;by_cases hi:i<len
      ·rw[QMy hi];exact(hF i hi).2.2.2.2.2.2 x h1
      ·rw[QMj hi];exact QMd _) n hn
     have h1:=hw len (by rw[QMZ];omega);rw[QMD (by rw[QMZ];omega)]at h1;have h2:(List.range len).map (fun i=>if i<len then(F i).2 else [])=(List.range len).map fun i=>(F i).2:=by
      refine List.map_congr_left fun i hi=>?_
      rw[QMy (QNy.1 hi)]
     rw[h2]at h1;rw[Jh,Jh,wt,Rows.uptoBulk];omega
    refine⟨[.list (((List.range len).map fun i=>(F i).2).map Xk)],?_,.cons (.list (cs:=((List.range len).map fun i=>(F i).1.1).flatten) (sz:=P.cellsOf e) ?_ ?_ ?_ ?_ ?_ (by simp) hl (by omega)) .nil,by simp[h1],rfl,rfl,hwt⟩
    ·simp only[Q2,hu];refine⟨_,rfl,⟨by simp;omega,fun hM=>by simpa using hlenB hM⟩,?_,by simpa using hlenM⟩;intro c hc;obtain⟨i,hi,rfl⟩:=hel' c hc;exact(hF i hi).2.1
    ·rw[hflat _ hl1];refine Yx (by simp) fun i g1 g2=>?_
     simp only[QMZ,List.length_range]at g1;simp only[List.getElem_map,List.getElem_range];exact(hF i (by omega)).2.2.1
    ·intro x hx;obtain⟨c,hc,rfl⟩:=QNm.1 hx;rw[Un (hl1 c hc)];obtain⟨i,hi,rfl⟩:=hel' c hc;exact(hF i hi).2.2.2.1
    ·rw[hflat _ hl1];exact hrf _ hl2
    ·rw[hflat _ hl1];exact hlf _ hl1
    ·intro j u hj;rw[←List.flatMap_def,Um h0 (fun i=>(F i).1.2)]at hj;by_cases hi:j / P.cellsOf e<len
     ·rw[List.getElem?_range hi]at hj;have hj:(F (j / P.cellsOf e)).1.1[j % P.cellsOf e]? = some u:=hj;have hk:=cellAt (j / P.cellsOf e) (j % P.cellsOf e) (by omega) (Nat.mod_lt _ h0);rw[hj,Nat.div_add_mod']at hk;have hs:=hspot (Nat.lt_of_le_of_lt (QMd _) hi);obtain⟨b,o,s⟩:=a;subst hs;refine⟨b,o,rfl,?_⟩;refine YU ?_;show W.cell? ⟨b,o+j,none⟩=some u;rw[←hk];unfold Addr.add;split
      ·rename_i h;rw[h];rfl
      ·rfl
     ·rw[QNq (by simp;omega)]at hj;cases hj
  ·cases hp

theorem HA {t:TypeId}{v:Value}{d:DataW H}{p:List MemPlace}(hl:laidOutB P=true)(hr:P.readableRec t=true)(hrow:t<P.types.size)(h:DataW.Trod XI P W 0 (fun _=>true) true t v d p) :
  ∀(W':World) (sp:Nat→Bool),Below W.heap.size W W'→(∀q∈p,sp q.block=true)→DataW.Trod XI P W' 0 sp true t v d p:=by
 intro W' sp hb hs;obtain⟨n,hn⟩:=h;exact Trod_stays hl hr hrow ⟨n,hn⟩ (fun x hx=>hb.same (DataW.trod_lt n _ _ _ hn x hx)) hs

theorem Uq {t:TypeId}{fs:Array Field}{ts:List TypeId}{r:Reach}{b0:Nat}{v:Value}{d:DataW H}{p:List MemPlace}(hP:C5 P ts=true)(ht:ts.contains t=true)(hs:P.underlying t=some (.struct fs))(hv:Value.okWide P W r b0 t v)
  (h:DataW.Trod XI P W 0 (fun _=>true) true t v d p) (hb:R6 P M t d):∃k avs,Q2 P M k t avs∧Rep (Gh.bare fun b o=>sv W b o) (.agg avs) v:=by
 obtain⟨⟨cs⟩,rfl,_⟩:=okWide_struct hs hv;obtain⟨n,hn⟩:=h;obtain⟨avs,h1,h2,_⟩:=Yy hP n t _ _ _ ht hn hb;exact⟨n,avs,h1,.agg h2⟩
theorem Zd {X:Type}{f:X→List AV}{ok:X→Prop}:∀ {l:List (List AV)},(∀c∈l,∃x,ok x∧c=f x)→∃xs:List X,l=xs.map f∧∀x∈xs,ok x
 | [],_=>⟨[],rfl,by simp⟩
 |c :: l,h=>by
  obtain⟨x,hx,rfl⟩:=h c (by simp);obtain⟨xs,rfl,hxs⟩:=Zd (l:=l) fun c hc=>h c (by simp[hc])
  exact⟨x :: xs,rfl,by simpa using ⟨hx,hxs⟩⟩

end

end Go.Proofs.YtipjfckmopekaaaGreatDoor.Br

namespace Go.Proofs.YtipjfckmopekaaaGreatDoor.Br
open Go Am

section
variable {P:Program}{M k:Nat}{t:TypeId}{cs:List AV}

theorem Xm {ik:IntKind}(hu:P.underlying t=some (.int ik))(h:Q2 P M k t cs):∃n,cs=[.int ik n]∧(Lit.int ik n).wf=true:=by
 cases k with
 |zero=>cases h
 |succ k=>simpa only [Q2,hu]using h

theorem Pe (hu:P.underlying t=some .bool)(h:Q2 P M k t cs):∃b,cs=[.bool b]:=by
 cases k with
 |zero=>cases h
 |succ k=>simpa only [Q2,hu]using h

theorem Z9 (hu:P.underlying t=some .string)(h:Q2 P M k t cs):∃s,cs=[.str s]∧s.length≤M:=by
 cases k with
 |zero=>cases h
 |succ k=>simpa only [Q2,hu]using h

theorem ZX {e:TypeId}(hu:P.underlying t=some (.slice e))(h:Q2 P M k t cs):∃(k':Nat) (l:List (List AV)),cs=[.list (l.map Xk)]∧l.length≤maxLen∧∀c∈l,Q2 P M k' e c:=by
 cases k with
 |zero=>cases h
 |succ k=>
  simp only[Q2,hu]at h;obtain⟨l,h1,h2,h3,_⟩:=h;exact⟨k,l,h1,h2.1,h3⟩

theorem Kz {e:TypeId}(hu:P.underlying t=some (.slice e))(h:Q2 P M k t cs):∃(k':Nat) (l:List (List AV)),cs=[.list (l.map Xk)]∧l.length≤M∧∀c∈l,Q2 P M k' e c:=by
 cases k with
 |zero=>cases h
 |succ k=>
  simp only[Q2,hu]at h;obtain⟨l,h1,_,h3,h4⟩:=h;exact⟨k,l,h1,h4,h3⟩

theorem XX {fs:Array Field}(hu:P.underlying t=some (.struct fs))(h:Q2 P M k t cs):∃k',Q2.HasL (Q2 P M k') fs.toList cs:=by
 cases k with
 |zero=>cases h
 |succ k=>
  simp only[Q2,hu]at h;exact⟨k,h⟩

end

structure PO where
 num:Int
 name:List UInt8
 alias:List UInt8
 card:Int
 key:Int
 kind:Int
 target:Int
 union:Int

def PO.cells (o:PO):List AV:=[.int .i64 o.num,.str o.name,.str o.alias,.int .i64 o.card,.int .i64 o.key,.int .i64 o.kind,.int .i64 o.target,.int .i64 o.union]

structure PO.ok (M:Nat)(o:PO):Prop where
 num:(Lit.int .i64 o.num).wf=true
 name:o.name.length≤M
 alias:o.alias.length≤M
 card:(Lit.int .i64 o.card).wf=true
 key:(Lit.int .i64 o.key).wf=true
 kind:(Lit.int .i64 o.kind).wf=true
 target:(Lit.int .i64 o.target).wf=true
 union:(Lit.int .i64 o.union).wf=true

theorem QrW {M k:Nat}{cs:List AV}(h:Q2 Tryz.prog M k 68 cs):∃o:PO,o.ok M∧cs=o.cells:=by
 obtain⟨k,h⟩:=XX Tryz.underlying68 h;simp only[Q2.HasL]at h;obtain⟨_,_,rfl,h0,_,_,rfl,h1,_,_,rfl,h2,_,_,rfl,h3,_,_,rfl,h4,_,_,rfl,h5,_,_,rfl,h6,_,_,rfl,h7,rfl⟩:=h;obtain⟨a0,rfl,w0⟩:=Xm Tryz.underlying3 h0;obtain⟨a1,rfl,w1⟩:=Z9 Tryz.underlying9 h1;obtain⟨a2,rfl,w2⟩:=Z9 Tryz.underlying9 h2;obtain⟨a3,rfl,w3⟩:=Xm Tryz.underlying3 h3;obtain⟨a4,rfl,w4⟩:=Xm Tryz.underlying3 h4;obtain⟨a5,rfl,w5⟩:=Xm Tryz.underlying3 h5;obtain⟨a6,rfl,w6⟩:=Xm Tryz.underlying3 h6;obtain⟨a7,rfl,w7⟩:=Xm Tryz.underlying3 h7;exact⟨⟨a0,a1,a2,a3,a4,a5,a6,a7⟩,⟨w0,w1,w2,w3,w4,w5,w6,w7⟩,rfl⟩

structure PG where
 name:List UInt8
 ops:List PO
 unions:Int

def PG.cells (g:PG):List AV:=[.str g.name,.list (g.ops.map fun o=>.agg o.cells),.int .i64 g.unions]

structure PG.ok (M:Nat)(g:PG):Prop where
 name:g.name.length≤M
 len:g.ops.length≤maxLen
 ops:∀o∈g.ops,o.ok M
 unions:(Lit.int .i64 g.unions).wf=true

theorem Pf {M k:Nat}{cs:List AV}(h:Q2 Tryz.prog M k 73 cs):∃g:PG,g.ok M∧cs=g.cells:=by
 obtain⟨k,h⟩:=XX Tryz.underlying73 h;simp only[Q2.HasL]at h;obtain⟨_,_,rfl,h0,_,_,rfl,h1,_,_,rfl,h2,rfl⟩:=h;obtain⟨a0,rfl,w0⟩:=Z9 Tryz.underlying9 h0;obtain⟨k',l,rfl,w1,hl⟩:=ZX Tryz.underlying71 h1;obtain⟨a2,rfl,w2⟩:=Xm Tryz.underlying3 h2;obtain⟨ops,rfl,hok⟩:=Zd (f:=PO.cells) (ok:=PO.ok M) fun c hc=>QrW (hl c hc)
 refine⟨⟨a0,ops,a2⟩,⟨w0,by simpa using w1,hok,w2⟩,?_⟩;simp only[PG.cells,QNL,QMr,QMs];rfl

structure PS where
 lo:Int
 hi:Int

def PS.cells (x:PS):List AV:=[.int .i64 x.lo,.int .i64 x.hi]
def PS.ok (x:PS):Prop:=(Lit.int .i64 x.lo).wf=true∧(Lit.int .i64 x.hi).wf=true

theorem Ph {M k:Nat}{cs:List AV}(h:Q2 Tryz.prog M k 111 cs):∃x:PS,x.ok∧cs=x.cells:=by
 obtain⟨k,h⟩:=XX Tryz.underlying111 h;simp only[Q2.HasL]at h;obtain⟨_,_,rfl,h0,_,_,rfl,h1,rfl⟩:=h;obtain⟨a0,rfl,w0⟩:=Xm Tryz.underlying3 h0;obtain⟨a1,rfl,w1⟩:=Xm Tryz.underlying3 h1;exact⟨⟨a0,a1⟩,⟨w0,w1⟩,rfl⟩

structure PN where
 name:List UInt8
 val:List AV

def PN.cells (x:PN):List AV:=.str x.name :: x.val
def PN.ok (P:Program)(M:Nat)(t:TypeId)(x:PN):Prop:=x.name.length≤M∧∃k,Q2 P M k t x.val

theorem Fs {M k:Nat}{cs:List AV}(h:Q2 Tryz.prog M k 87 cs):∃x:PN,x.ok Tryz.prog M 32∧cs=x.cells:=by
 obtain⟨k,h⟩:=XX Tryz.underlying87 h;simp only[Q2.HasL]at h;obtain⟨_,_,rfl,h0,a1,_,rfl,h1,rfl⟩:=h;obtain⟨a0,rfl,w0⟩:=Z9 Tryz.underlying9 h0;exact⟨⟨a0,a1⟩,⟨w0,k,h1⟩,by simp[PN.cells]⟩

structure PI where
 name:List UInt8
 num:Int
 notes:List PN

def PI.cells (x:PI):List AV:=[.str x.name,.int .i64 x.num,.list (x.notes.map fun n=>Xk n.cells)]

structure PI.ok (M:Nat)(x:PI):Prop where
 name:x.name.length≤M
 num:(Lit.int .i64 x.num).wf=true
 len:x.notes.length≤maxLen
 notes:∀n∈x.notes,n.ok Tryz.prog M 32

theorem Pi {M k:Nat}{cs:List AV}(h:Q2 Tryz.prog M k 85 cs):∃x:PI,x.ok M∧cs=x.cells:=by
 obtain⟨k,h⟩:=XX Tryz.underlying85 h;simp only[Q2.HasL]at h;obtain⟨_,_,rfl,h0,_,_,rfl,h1,_,_,rfl,h2,rfl⟩:=h;obtain⟨a0,rfl,w0⟩:=Z9 Tryz.underlying9 h0;obtain⟨a1,rfl,w1⟩:=Xm Tryz.underlying3 h1;obtain⟨k',l,rfl,w2,hl⟩:=ZX Tryz.underlying81 h2;obtain⟨ns,rfl,hok⟩:=Zd (f:=PN.cells) (ok:=PN.ok Tryz.prog M 32) fun c hc=>Fs (hl c hc)
 refine⟨⟨a0,a1,ns⟩,⟨w0,w1,by simpa using w2,hok⟩,?_⟩;simp only[PI.cells,QNL,QMr,QMs];rfl

structure PE where
 name:List UInt8
 opn:Bool
 items:List PI
 free:List PS
 notes:List PN

def PE.cells (x:PE):List AV:=[.str x.name,.bool x.opn,.list (x.items.map fun n=>.agg n.cells),.list (x.free.map fun n=>.agg n.cells),.list (x.notes.map fun n=>Xk n.cells)]

structure PE.ok (M:Nat)(x:PE):Prop where
 name:x.name.length≤M
 len1:x.items.length≤maxLen
 items:∀n∈x.items,n.ok M
 len2:x.free.length≤maxLen
 free:∀n∈x.free,n.ok
 len3:x.notes.length≤maxLen
 notes:∀n∈x.notes,n.ok Tryz.prog M 32

theorem Pj {M k:Nat}{cs:List AV}(h:Q2 Tryz.prog M k 83 cs):∃x:PE,x.ok M∧cs=x.cells:=by
 obtain⟨k,h⟩:=XX Tryz.underlying83 h;simp only[Q2.HasL]at h;obtain⟨_,_,rfl,h0,_,_,rfl,h1,_,_,rfl,h2,_,_,rfl,h3,_,_,rfl,h4,rfl⟩:=h;obtain⟨a0,rfl,w0⟩:=Z9 Tryz.underlying9 h0;obtain⟨a1,rfl⟩:=Pe Tryz.underlying4 h1;obtain⟨k2,l2,rfl,w2,hl2⟩:=ZX Tryz.underlying79 h2;obtain⟨k3,l3,rfl,w3,hl3⟩:=ZX Tryz.underlying80 h3;obtain⟨k4,l4,rfl,w4,hl4⟩:=ZX Tryz.underlying81 h4;obtain⟨x2,rfl,o2⟩:=Zd (f:=PI.cells) (ok:=PI.ok M) fun c hc=>Pi (hl2 c hc)
 obtain⟨x3,rfl,o3⟩:=Zd (f:=PS.cells) (ok:=PS.ok) fun c hc=>Ph (hl3 c hc)
 obtain⟨x4,rfl,o4⟩:=Zd (f:=PN.cells) (ok:=PN.ok Tryz.prog M 32) fun c hc=>Fs (hl4 c hc)
 refine⟨⟨a0,a1,x2,x3,x4⟩,⟨w0,by simpa using w2,o2,by simpa using w3,o3,by simpa using w4,o4⟩,?_⟩;simp only[PE.cells,QNL,QMr,QMs];rfl

structure PL where
 progs:List PG
 enums:List PE

def PL.av (p:PL):AV:=.agg [.list (p.progs.map fun n=>.agg n.cells),.list (p.enums.map fun n=>.agg n.cells)]

structure PL.ok (M:Nat)(x:PL):Prop where
 len1:x.progs.length≤maxLen
 progs:∀n∈x.progs,n.ok M
 len2:x.enums.length≤maxLen
 enums:∀n∈x.enums,n.ok M

theorem Pk {M k:Nat}{cs:List AV}(h:Q2 Tryz.prog M k 25 cs):∃x:PL,x.ok M∧.agg cs=x.av:=by
 obtain⟨k,h⟩:=XX Tryz.underlying25 h;simp only[Q2.HasL]at h;obtain⟨_,_,rfl,h0,_,_,rfl,h1,rfl⟩:=h;obtain⟨k2,l2,rfl,w2,hl2⟩:=ZX Tryz.underlying22 h0;obtain⟨k3,l3,rfl,w3,hl3⟩:=ZX Tryz.underlying23 h1;obtain⟨x2,rfl,o2⟩:=Zd (f:=PG.cells) (ok:=PG.ok M) fun c hc=>Pf (hl2 c hc)
 obtain⟨x3,rfl,o3⟩:=Zd (f:=PE.cells) (ok:=PE.ok M) fun c hc=>Pj (hl3 c hc)
 refine⟨⟨x2,x3⟩,⟨by simpa using w2,o2,by simpa using w3,o3⟩,?_⟩;simp only[PL.av,QNL,QMr,QMs];rfl

end Go.Proofs.YtipjfckmopekaaaGreatDoor.Br

namespace Go.Proofs.YtipjfckmopekaaaGreatDoor.Va
open Go Am Rc Bt Br

def QW {α:Type}(p:α→Bool):List α→Nat→Int
 | [],_=>-1
 |x :: l,i=>if p x=true then(i:Int)else QW p l (i+1)

theorem KN {α:Type}(p:α→Bool):∀(l:List α) (i:Nat),(QW p l i = -1∧l.find? p=none)∨∃k o,QW p l i=((i+k:Nat):Int)∧l[k]? = some o∧l.find? p=some o
 | [],_=>.inl ⟨rfl,rfl⟩
 |x :: l,i=>by
  unfold QW;rw[List.find?_cons];cases h:p x with
  |true=>exact .inr ⟨0,x,by simp,rfl,rfl⟩
  |false=>
   simp only[QMo,if_false];rcases KN p l (i+1)with h'|⟨k,o,h1,h2,h3⟩
   ·exact .inl h'
   ·exact .inr ⟨k+1,o,by rw[h1];congr 1;omega,by simpa using h2,h3⟩

theorem XS {α:Type}(p:α→Bool){l:List α}{i:Nat}{x:α}(hx:l[i]? = some x):QW p (l.drop i) i=if p x=true then(i:Int)else QW p (l.drop (i+1)) (i+1):=by
 have hlt:i<l.length:=(QL5.1 hx).1;rw[QMN hlt,show l[i]=x from(QL5.1 hx).2];rfl

def QA (o:PO):AV:=.agg o.cells
def Qj (g:PG):AV:=.agg g.cells
def Q0 (x:PI):AV:=.agg x.cells
def Qt (x:PE):AV:=.agg x.cells

section ops
variable (L:List PO)(hl:L.length≤maxLen)(p:PO→Bool)(c:Nat)(cap:AV)(m:Ql)

def IxO (k:Nat)(st:St):Prop :=
 ∃f i,st=⟨f,Qc :: m,[]⟩∧k=L.length-i∧QW p L 0=QW p (L.drop i) i∧f 0=.list (L.map QA)∧f 1=.fn (.func c) [] [cap.sh]∧f 7=.int .i64 (L.length:Nat)∧f 8=.int .i64 (i:Nat)

include hl in
theorem QGy (hc:∀o∈L,Qh Tryz.prog c [QA o,cap.sh] (Qc :: m) fun y m1=>y=.bool (p o)∧m1=Qc :: m) :
  Qh Tryz.prog 195 [.list (L.map QA),.fn (.func c) [] [cap]] m fun y m1=>y=.int .i64 (QW p L 0)∧m1=m:=by
 refine M5.go (by simp) ?_;simp only[QMZ,Qa,seval];refine Qf (IxO L p c cap m) _ ⟨_,0,rfl,rfl,rfl,(by rfl),(by rfl),(by rfl),(by rfl)⟩ ?_;rintro _ st ⟨f,i,rfl,rfl,hx,h0,h1,h7,h8⟩;simp only[h7,h8,Qa,seval];by_cases hlt:i<L.length
 ·obtain⟨x,hi⟩:∃x,L[i]? = some x:=⟨L[i],QL6 hlt⟩;have hcl:=hc x (QMi hi);have hg:(L.map QA)[i]? = some (QA x):=by simp[hi]
  have e1:=Qq i _ hlt hl;simp only[QA,PO.cells]at hcl;simp only[Qo hlt,Qm,QNt,Qd,hg,QA,PO.cells,h0,h1,h8,eE,seval];refine Q6 (fa:=[]) (fb:=[cap.sh]) (by rfl) hcl (by simp only[QMB,QM5,QMs,QMr,Qa,seval]) ?_;rw[XS p hi]at hx;cases hp:p x
  ·rw[hp]at hx;simp only[QMo,if_false]at hx;simp only[h8,e1,Qa,seval];exact⟨L.length-(i+1),by omega,_,i+1,rfl,rfl,hx,(by exact h0),(by exact h1),(by exact h7),(by rfl)⟩
  ·rw[hp]at hx;simp only[if_true]at hx;simp only[hx,Qa,seval]
 ·have hx':QW p L 0 = -1:=by rw[hx,QMG (by omega)];rfl
  simp only[QE hlt,hx',Qa,seval]

end ops

def HB:PO:=⟨0,[],[],0,0,0,0,0⟩
def BZ (p:PO→Bool)(L:List PO):AV:=.tup [QA ((L.find? p).getD HB),.bool (L.find? p).isSome]

theorem QGz (g:PG)(hl:g.ops.length≤maxLen)(p:PO→Bool)(c:Nat)(cap:AV)(m:Ql)(hc:∀fr,∀o∈g.ops,Qh Tryz.prog c [QA o,cap.sh.sh] (Qc :: fr :: m) fun y m1=>y=.bool (p o)∧m1=Qc :: fr :: m) :
  Qh Tryz.prog 117 [.agg [.fn (.func c) [] [cap]],Qj g] m fun y m1=>y=BZ p g.ops∧m1=m:=by
 refine Qbq.go (by simp) ?_;simp only[Qj,PG.cells,eE,seval];refine Qi (QGy g.ops hl p c cap.sh _ fun o ho=>hc _ o ho) (by simp only[QMB,QM5,Qa,seval];rfl) ?_;rcases KN p g.ops 0 with⟨h1,h2⟩|⟨j,o,h1,h2,h3⟩
 ·simp only[h1,BZ,h2,QNA,Option.isSome_none,HB,QA,PO.cells,splice,QNc,QMs,QMF,QMM,QNg,QM7,QMk,QM0,QNe,List.all_nil,AV.leaf,eE,seval]
 ·have hj:(g.ops.map fun o=>AV.agg o.cells)[j]? = some (.agg o.cells):=by simp[h2]
  have d:decide ((j:Int)<0)=false:=QNM (by omega);rw[QML]at h1;simp only[PO.cells]at hj;simp only[h1,d,Qm,QNt,Qd,QML,hj,BZ,h3,QNd,QNN,QA,PO.cells,splice,QNc,QMs,QMF,QMM,QNg,QM7,QMk,QM0,QNe,List.all_nil,AV.leaf,eE,seval]

section
variable (o:PO)(fr frO:Nat→Ob)

theorem QGA (n:Int)(hf:frO 3=.cells [.int .i64 n]):Qh Tryz.prog 116 [QA o,.ptr 2 3 0] [Qc,fr,frO] fun y m1=>y=.bool (o.num==n)∧m1=[Qc,fr,frO]:=by
 refine Qbi.go (by simp) ?_;simp only[hf,QA,PO.cells,eE,seval]

end

theorem R7 (g:PG)(hl:g.ops.length≤maxLen)(n:Int):Qp Tryz.prog 72 [Qj g,.int .i64 n] (BZ (fun o=>o.num==n) g.ops):=by
 refine k72.fn (by simp) ?_;simp only[Qj,PG.cells,eE,seval];refine Qi (QGz g hl (fun o=>o.num==n) 116 (.ptr 0 3 0) _ fun fr o _=>QGA o fr _ n (by rfl)) (by simp only[QMB,QM5,Qj,PG.cells,Qa,seval]) ?_;simp only[BZ,QA,PO.cells,splice,QNc,QMs,QMF,QMM,QNg,QM7,QMk,QM0,QNe,List.all_nil,AV.leaf,eE,seval]

def Qz (p:Nat→Bool):Nat→Bool
 |0=>true
 |n+1=>Qz p n&&p n

theorem QG {p:Nat→Bool}{n:Nat}:Qz p n=true↔∀i,i<n→p i=true:=by
 induction n with
 |zero=>simp[Qz]
 |succ n ih=>
  simp only[Qz,QMt,ih]
  constructor
  ·rintro⟨h1,h2⟩ i hi;rcases Nat.lt_succ_iff_lt_or_eq.1 hi with h|rfl
   ·exact h1 i h
   ·exact h2
  ·intro h;exact⟨fun i hi=>h i (by omega),h n (by omega)⟩

theorem N1 {p:Nat→Bool}{n i:Nat}(hi:i<n)(h:p i=false):Qz p n=false:=by
 rw[QNO];intro h';rw[QG.1 h' i hi]at h;cases h

theorem UG {p q:Nat→Bool}{n:Nat}:Qz (fun i=>p i&&q i) n=(Qz p n&&Qz q n):=by
 induction n with
 |zero=>rfl
 |succ n ih=>
  simp only[Qz,ih];cases Qz p n<;>cases Qz q n<;>cases p n<;>cases q n<;>rfl

def Ur {α:Type}(l:List α)(q:α→Bool)(i:Nat):Bool:=match l[i]? with
 |some x=>q x
 |none=>true

theorem Wv {α:Type}{l:List α}{q:α→Bool}{i:Nat}{x:α}(h:l[i]? = some x):Ur l q i=q x:=by
 unfold Ur;rw[h]

theorem UH {α:Type}(l:List α)(q:α→Bool):Qz (Ur l q) l.length=l.all q:=by
 rw[QMY,QG,QMh]
 constructor
 ·intro h x hx;obtain⟨i,hi⟩:=QMg.1 hx;have:=h i (QL5.1 hi).1
  rwa [Wv hi]at this
 ·intro h i hi;rw[Wv (QL6 hi)];exact h _ (QMW _)

def Q7 {α:Type}(l:List α)(lt:α→α→Bool)(i:Nat):Bool:=match i with
 |0=>true
 |k+1=>match l[k]?,l[k+1]? with
  |some x,some y=>lt x y
  |_,_=>true

theorem ZY {α:Type}{l:List α}{lt:α→α→Bool}{k:Nat}{x y:α}(h:l[k]? = some x)(h':l[k+1]? = some y):Q7 l lt (k+1)=lt x y:=by
 unfold Q7;simp only[h,h']
theorem WU {α:Type}{l:List α}{lt:α→α→Bool}:Q7 l lt 0=true:=rfl

def XH {α:Type}(l:List α)(lt:α→α→Bool):Bool:=Qz (Q7 l lt) l.length

def uniq {α:Type}(l:List α)(nm:α→List UInt8)(i:Nat):Bool:=match l[i]? with
 |some x=>(l.take i).all fun y=>!(nm y==nm x)
 |none=>true
theorem YZ {α:Type}{l:List α}{nm:α→List UInt8}{i:Nat}{x:α}(h:l[i]? = some x):uniq l nm i=(l.take i).all fun y=>!(nm y==nm x):=by
 unfold uniq;rw[h]
def JU {α:Type}(l:List α)(nm:α→List UInt8):Bool:=Qz (uniq l nm) l.length

theorem Q1 {α:Type}{l:List α}{q:α→Bool}{i:Nat}{x:α}(h:l[i]? = some x):(l.take (i+1)).all q=((l.take i).all q&&q x):=by
 rw[QNK,h];simp
theorem Pl {α:Type}{l:List α}{q:α→Bool}{i:Nat}{x:α}(h:l[i]? = some x):(l.take (i+1)).any q=((l.take i).any q||q x):=by
 rw[QNK,h];simp
theorem Gy {α:Type}{l:List α}{q:α→Bool}:(l.all fun x=>!q x)=!l.any q:=by
 induction l with
 |nil=>rfl
 |cons x l ih=>simp[ih]

def Ji (c:UInt8):Bool:=(decide (97≤c.toNat)&&decide (c.toNat≤122))||(decide (65≤c.toNat)&&decide (c.toNat≤90))
def ZO (c:UInt8):Bool:=Ji c||c.toNat==95||(decide (48≤c.toNat)&&decide (c.toNat≤57))
def QX:List UInt8→Bool
 | []=>false
 |c :: t=>decide ((c :: t).length≤40)&&Ji c&&t.all ZO
def WV:List (List UInt8):=[[109,101,115,115,97,103,101],[101,110,117,109],[115,101,114,118,105,99,101],[117,110,105,111,110],[109,97,112],[108,105,115,116],[114,101,113,117,105,114,101,100],[111,112,116,105,111,110,97,108],[112,108,97,105,110],[100,101,102,97,117,108,116],[114,101,115,101,114,118,101,100],
 [105,109,112,111,114,116],[115,112,97,99,101],[114,112,99],[115,116,114,101,97,109],[114,101,116,117,114,110,115],[111,112,101,110],[116,114,117,101],[102,97,108,115,101],[110,97,110],[105,110,102]]
def X5 (s:List UInt8):Bool:=WV.any fun w=>s==w
def Xx (s:List UInt8):Bool:=QX s && !X5 s
def Qk:List UInt8→List (List UInt8)
 | []=>[[]]
 |c :: t=>if c=46 then [] :: Qk t else match Qk t with
  | []=>[[c]]
  |p :: ps=>(c :: p) :: ps
def JG (s:List UInt8):Bool:=decide (s.length≤120)&&(Qk s).all QX && !(Qk s).any X5

theorem JV:∀s:List UInt8,Qk s≠[]
 | []=>by simp[Qk]
 |c :: t=>by
  unfold Qk;split
  ·simp
  ·split<;>simp

theorem G6 (a:List UInt8):∀s:List UInt8,(∀c∈a,c≠46)→Qk (a++s)=match Qk s with
  | []=>[a]
  |p :: ps=>(a++p) :: ps:=by
 induction a with
 |nil=>intro s _;cases h:Qk s with
  |nil=>exact absurd h (JV s)
  |cons p ps=>simp[h]
 |cons c a ih=>
  intro s h;have hc:c≠46:=h c (by simp);rw[QMr,Qk,QMj hc,ih s fun x hx=>h x (by simp[hx])];cases hs:Qk s with
  |nil=>exact absurd hs (JV s)
  |cons p ps=>rfl

theorem Wa {s:List UInt8}(h:∀c∈s,c≠46):Qk s=[s]:=by
 have:=G6 s [] h
 simpa [Qk]using this

theorem HC {a t:List UInt8}(h:∀c∈a,c≠46):Qk (a++46 :: t)=a :: Qk t:=by
 rw[G6 a _ h,Qk,QMy rfl];simp

theorem HD {a t:List UInt8}(h:∀c∈t,c≠46):Qk (a++46 :: t)=Qk a++[t]:=by
 induction a with
 |nil=>
  show Qk (46 :: t)=[[]]++[t];rw[show Qk (46 :: t)=[] :: Qk t from by rw[Qk,QMy rfl],Wa h];rfl
 |cons c a ih=>
  rw[QMr,Qk,Qk,ih];split
  ·rfl
  ·cases hs:Qk a with
   |nil=>exact absurd hs (JV a)
   |cons p ps=>rfl

theorem Yz (s:List UInt8):(Qk s).length=s.count 46+1:=by
 induction s with
 |nil=>rfl
 |cons c t ih=>
  unfold Qk;split
  ·rename_i h;subst h;simp[ih]
  ·rename_i h;rw[List.count_cons_of_ne (by simpa using h)];cases hs:Qk t with
   |nil=>exact absurd hs (JV t)
   |cons p ps=>rw[hs]at ih;simpa using ih

def ZH (g:PG):Bool:=decide (g.ops.length≤64)
def Je (e:PE):Bool:=decide (1≤e.items.length)&&decide (e.items.length≤64)&&decide (e.free.length≤16)
def Us (P:PL):Bool:=decide (P.progs.length≤64)&&decide (P.enums.length≤64)&&P.progs.all ZH&&P.enums.all Je
def JW (g:PG):Bool:=JG g.name&&g.ops.all fun o=>Xx o.name
def Kh (e:PE):Bool:=JG e.name&&e.items.all fun o=>Xx o.name
def Ft (P:PL):Bool:=P.progs.all JW&&P.enums.all Kh
def XY {α:Type}(f:α→Int)(x y:α):Bool:=decide (f x<f y)
def Xy {α:Type}(f:α→List UInt8)(x y:α):Bool:=Op.bytesLess (f x) (f y)
def ZZ (g:PG):Bool:=XH g.ops (XY PO.num)
def Jq (e:PE):Bool:=XH e.items (XY PI.num)
def Ut (P:PL):Bool:=XH P.progs (Xy PG.name)&&XH P.enums (Xy PE.name)&&P.progs.all ZZ&&P.enums.all Jq
def JX (P:PL)(g:PG):Bool:=(P.enums.all fun e=>!(e.name==g.name))&&JU g.ops PO.name
def KO (e:PE):Bool:=JU e.items PI.name
def Fu (P:PL):Bool:=P.progs.all (JX P)&&P.enums.all KO
def Za (o:PO):Bool:=decide (o.num≥1)&&decide (o.num≤65535)
def HE (x:PS):Bool:=decide (x.lo≥0)&&decide (x.hi≤2147483647)&&decide (x.lo≤x.hi)
def Yk (x y:PS):Bool:=decide (y.lo > x.hi)
def kept (l:List PS)(n:Int):Bool:=l.any fun x=>decide (x.lo≤n)&&decide (n≤x.hi)
def Wm (e:PE)(x:PI):Bool:=decide (x.num≤2147483647) && !kept e.free x.num
def YA (e:PE):Bool:=match e.items with
 | []=>true
 |x :: _=>x.num==0
def Z0 (e:PE):Bool:=e.free.all HE&&XH e.free Yk&&YA e&&e.items.all (Wm e)
def Fv (P:PL):Bool:=P.progs.all (fun g=>g.ops.all Za)&&P.enums.all Z0

def XT (x:PS):AV:=.agg x.cells
def X8 (x:List UInt8):AV:=.str x

theorem Jr {α:Type}(p:α→Bool)(l:List α):decide (QW p l 0≥0)=l.any p:=by
 rcases KN p l 0 with⟨h1,h2⟩|⟨k,o,h1,_,h3⟩
 ·rw[h1];have:l.any p=false:=by
   rw[List.any_eq_false];intro x hx;exact fun h=>by have:=List.find?_eq_none.1 h2 x hx;exact this h
  rw[this];rfl
 ·rw[h1];have:l.any p=true:=List.any_eq_true.2 ⟨o,QNP h3,List.find?_some h3⟩;rw[this];exact QNQ (by omega)

theorem KP (k n:Nat)(h:k+1<n)(hn:n≤maxLen):IntKind.i64.wrap (((k+1:Nat):Int)-1)=(k:Int):=by
 rw[QF];simp only[maxLen]at hn;omega

section
variable (L:List PG)(hl:L.length≤maxLen)(p:PG→Bool)(c:Nat)(cs:List AV)(m:Ql)

def JxG (k:Nat)(st:St):Prop :=
 ∃f i,st=⟨f,Qc :: m,[]⟩∧k=L.length-i∧QW p L 0=QW p (L.drop i) i∧f 0=.list (L.map Qj)∧f 1=.fn (.func c) [] (AV.shL cs)∧f 7=.int .i64 (L.length:Nat)∧f 8=.int .i64 (i:Nat)

include hl in
theorem z52 (hc:∀o∈L,Qh Tryz.prog c (Qj o :: AV.shL cs) (Qc :: m) fun y m1=>y=.bool (p o)∧m1=Qc :: m) :
  Qh Tryz.prog 52 [.list (L.map Qj),.fn (.func c) [] cs] m fun y m1=>y=.int .i64 (QW p L 0)∧m1=m:=by
 refine Lo.go (by simp) ?_;simp only[QMZ,Qa,seval];refine Qf (JxG L p c cs m) _ ⟨_,0,rfl,rfl,rfl,(by rfl),(by rfl),(by rfl),(by rfl)⟩ ?_;rintro _ st ⟨f,i,rfl,rfl,hx,h0,h1,h7,h8⟩;simp only[h7,h8,Qa,seval];by_cases hlt:i<L.length
 ·obtain⟨x,hi⟩:∃x,L[i]? = some x:=⟨L[i],QL6 hlt⟩;have hcl:=hc x (QMi hi);have hg:(L.map Qj)[i]? = some (Qj x):=by simp[hi]
  have e1:=Qq i _ hlt hl;simp only[Qj,PG.cells]at hcl;simp only[Qo hlt,Qm,QNt,Qd,hg,Qj,PG.cells,h0,h1,h8,eE,seval];refine Q6 (fa:=[]) (fb:=AV.shL cs) (by rfl) hcl (by simp only[QMB,QM5,QMs,QMr,Qa,seval]) ?_;rw[XS p hi]at hx;cases hp:p x
  ·rw[hp]at hx;simp only[QMo,if_false]at hx;simp only[h8,e1,Qa,seval];exact⟨L.length-(i+1),by omega,_,i+1,rfl,rfl,hx,(by exact h0),(by exact h1),(by exact h7),(by rfl)⟩
  ·rw[hp]at hx;simp only[if_true]at hx;simp only[hx,Qa,seval]
 ·have hx':QW p L 0 = -1:=by rw[hx,QMG (by omega)];rfl
  simp only[QE hlt,hx',Qa,seval]

include hl in
theorem QGB (hc:∀o∈L,Qh Tryz.prog c (Qj o :: AV.shL (AV.shL cs)) (Qc :: Qc :: m) fun y m1=>y=.bool (p o)∧m1=Qc :: Qc :: m) :
  Qh Tryz.prog 203 [.list (L.map Qj),.fn (.func c) [] cs] m fun y m1=>y=.bool (L.any p)∧m1=m:=by
 refine Qgs.go (by simp) ?_;simp only[Qa,seval];refine Qi (z52 L hl p c (AV.shL cs) _ hc) (by simp only[QMB,QM5,Qa,seval]<;>rfl) ?_;simp only[Jr,Qa,seval]

include hl in
theorem Gz (hc:∀o∈L,Qh Tryz.prog c (Qj o :: AV.shL (AV.shL (AV.shL cs))) (Qc :: Qc :: Qc :: m) fun y m1=>y=.bool (p o)∧m1=Qc :: Qc :: Qc :: m) :
  Qh Tryz.prog 133 [.list (L.map Qj),.fn (.func c) [] cs] m fun y m1=>y=.bool (L.any p)∧m1=m:=by
 refine QbT.go (by simp) ?_;simp only[Qa,seval];refine Qi (QGB L hl p c (AV.shL cs) _ hc) (by simp only[QMB,QM5,Qa,seval]<;>rfl) ?_;simp only[Qa,seval]

end

section
variable (L:List PO)(hl:L.length≤maxLen)(p:PO→Bool)(c:Nat)(cs:List AV)(m:Ql)

def JxO (k:Nat)(st:St):Prop :=
 ∃f i,st=⟨f,Qc :: m,[]⟩∧k=L.length-i∧QW p L 0=QW p (L.drop i) i∧f 0=.list (L.map QA)∧f 1=.fn (.func c) [] (AV.shL cs)∧f 7=.int .i64 (L.length:Nat)∧f 8=.int .i64 (i:Nat)

include hl in
theorem QGC (hc:∀o∈L,Qh Tryz.prog c (QA o :: AV.shL cs) (Qc :: m) fun y m1=>y=.bool (p o)∧m1=Qc :: m) :
  Qh Tryz.prog 195 [.list (L.map QA),.fn (.func c) [] cs] m fun y m1=>y=.int .i64 (QW p L 0)∧m1=m:=by
 refine M5.go (by simp) ?_;simp only[QMZ,Qa,seval];refine Qf (JxO L p c cs m) _ ⟨_,0,rfl,rfl,rfl,(by rfl),(by rfl),(by rfl),(by rfl)⟩ ?_;rintro _ st ⟨f,i,rfl,rfl,hx,h0,h1,h7,h8⟩;simp only[h7,h8,Qa,seval];by_cases hlt:i<L.length
 ·obtain⟨x,hi⟩:∃x,L[i]? = some x:=⟨L[i],QL6 hlt⟩;have hcl:=hc x (QMi hi);have hg:(L.map QA)[i]? = some (QA x):=by simp[hi]
  have e1:=Qq i _ hlt hl;simp only[QA,PO.cells]at hcl;simp only[Qo hlt,Qm,QNt,Qd,hg,QA,PO.cells,h0,h1,h8,eE,seval];refine Q6 (fa:=[]) (fb:=AV.shL cs) (by rfl) hcl (by simp only[QMB,QM5,QMs,QMr,Qa,seval]) ?_;rw[XS p hi]at hx;cases hp:p x
  ·rw[hp]at hx;simp only[QMo,if_false]at hx;simp only[h8,e1,Qa,seval];exact⟨L.length-(i+1),by omega,_,i+1,rfl,rfl,hx,(by exact h0),(by exact h1),(by exact h7),(by rfl)⟩
  ·rw[hp]at hx;simp only[if_true]at hx;simp only[hx,Qa,seval]
 ·have hx':QW p L 0 = -1:=by rw[hx,QMG (by omega)];rfl
  simp only[QE hlt,hx',Qa,seval]

include hl in
theorem QGD (hc:∀o∈L,Qh Tryz.prog c (QA o :: AV.shL (AV.shL cs)) (Qc :: Qc :: m) fun y m1=>y=.bool (p o)∧m1=Qc :: Qc :: m) :
  Qh Tryz.prog 209 [.list (L.map QA),.fn (.func c) [] cs] m fun y m1=>y=.bool (L.any p)∧m1=m:=by
 refine Qha.go (by simp) ?_;simp only[Qa,seval];refine Qi (QGC L hl p c (AV.shL cs) _ hc) (by simp only[QMB,QM5,Qa,seval]<;>rfl) ?_;simp only[Jr,Qa,seval]

include hl in
theorem Fw (hc:∀o∈L,Qh Tryz.prog c (QA o :: AV.shL (AV.shL (AV.shL cs))) (Qc :: Qc :: Qc :: m) fun y m1=>y=.bool (p o)∧m1=Qc :: Qc :: Qc :: m) :
  Qh Tryz.prog 139 [.list (L.map QA),.fn (.func c) [] cs] m fun y m1=>y=.bool (L.any p)∧m1=m:=by
 refine Qci.go (by simp) ?_;simp only[Qa,seval];refine Qi (QGD L hl p c (AV.shL cs) _ hc) (by simp only[QMB,QM5,Qa,seval]<;>rfl) ?_;simp only[Qa,seval]

end

section
variable (L:List PE)(hl:L.length≤maxLen)(p:PE→Bool)(c:Nat)(cs:List AV)(m:Ql)

def JxE (k:Nat)(st:St):Prop :=
 ∃f i,st=⟨f,Qc :: m,[]⟩∧k=L.length-i∧QW p L 0=QW p (L.drop i) i∧f 0=.list (L.map Qt)∧f 1=.fn (.func c) [] (AV.shL cs)∧f 7=.int .i64 (L.length:Nat)∧f 8=.int .i64 (i:Nat)

include hl in
theorem QGE (hc:∀o∈L,Qh Tryz.prog c (Qt o :: AV.shL cs) (Qc :: m) fun y m1=>y=.bool (p o)∧m1=Qc :: m) :
  Qh Tryz.prog 241 [.list (L.map Qt),.fn (.func c) [] cs] m fun y m1=>y=.int .i64 (QW p L 0)∧m1=m:=by
 refine QiL.go (by simp) ?_;simp only[QMZ,Qa,seval];refine Qf (JxE L p c cs m) _ ⟨_,0,rfl,rfl,rfl,(by rfl),(by rfl),(by rfl),(by rfl)⟩ ?_;rintro _ st ⟨f,i,rfl,rfl,hx,h0,h1,h7,h8⟩;simp only[h7,h8,Qa,seval];by_cases hlt:i<L.length
 ·obtain⟨x,hi⟩:∃x,L[i]? = some x:=⟨L[i],QL6 hlt⟩;have hcl:=hc x (QMi hi);have hg:(L.map Qt)[i]? = some (Qt x):=by simp[hi]
  have e1:=Qq i _ hlt hl;simp only[Qt,PE.cells]at hcl;simp only[Qo hlt,Qm,QNt,Qd,hg,Qt,PE.cells,h0,h1,h8,eE,seval];refine Q6 (fa:=[]) (fb:=AV.shL cs) (by rfl) hcl (by simp only[QMB,QM5,QMs,QMr,Qa,seval]) ?_;rw[XS p hi]at hx;cases hp:p x
  ·rw[hp]at hx;simp only[QMo,if_false]at hx;simp only[h8,e1,Qa,seval];exact⟨L.length-(i+1),by omega,_,i+1,rfl,rfl,hx,(by exact h0),(by exact h1),(by exact h7),(by rfl)⟩
  ·rw[hp]at hx;simp only[if_true]at hx;simp only[hx,Qa,seval]
 ·have hx':QW p L 0 = -1:=by rw[hx,QMG (by omega)];rfl
  simp only[QE hlt,hx',Qa,seval]

include hl in
theorem QGF (hc:∀o∈L,Qh Tryz.prog c (Qt o :: AV.shL (AV.shL cs)) (Qc :: Qc :: m) fun y m1=>y=.bool (p o)∧m1=Qc :: Qc :: m) :
  Qh Tryz.prog 204 [.list (L.map Qt),.fn (.func c) [] cs] m fun y m1=>y=.bool (L.any p)∧m1=m:=by
 refine Qgx.go (by simp) ?_;simp only[Qa,seval];refine Qi (QGE L hl p c (AV.shL cs) _ hc) (by simp only[QMB,QM5,Qa,seval]<;>rfl) ?_;simp only[Jr,Qa,seval]

include hl in
theorem UI (hc:∀o∈L,Qh Tryz.prog c (Qt o :: AV.shL (AV.shL (AV.shL cs))) (Qc :: Qc :: Qc :: m) fun y m1=>y=.bool (p o)∧m1=Qc :: Qc :: Qc :: m) :
  Qh Tryz.prog 135 [.list (L.map Qt),.fn (.func c) [] cs] m fun y m1=>y=.bool (L.any p)∧m1=m:=by
 refine Qb3.go (by simp) ?_;simp only[Qa,seval];refine Qi (QGF L hl p c (AV.shL cs) _ hc) (by simp only[QMB,QM5,Qa,seval]<;>rfl) ?_;simp only[Qa,seval]

end

section
variable (L:List PI)(hl:L.length≤maxLen)(p:PI→Bool)(c:Nat)(cs:List AV)(m:Ql)

def JxI (k:Nat)(st:St):Prop :=
 ∃f i,st=⟨f,Qc :: m,[]⟩∧k=L.length-i∧QW p L 0=QW p (L.drop i) i∧f 0=.list (L.map Q0)∧f 1=.fn (.func c) [] (AV.shL cs)∧f 7=.int .i64 (L.length:Nat)∧f 8=.int .i64 (i:Nat)

include hl in
theorem QGG (hc:∀o∈L,Qh Tryz.prog c (Q0 o :: AV.shL cs) (Qc :: m) fun y m1=>y=.bool (p o)∧m1=Qc :: m) :
  Qh Tryz.prog 245 [.list (L.map Q0),.fn (.func c) [] cs] m fun y m1=>y=.int .i64 (QW p L 0)∧m1=m:=by
 refine Qqk.go (by simp) ?_;simp only[QMZ,Qa,seval];refine Qf (JxI L p c cs m) _ ⟨_,0,rfl,rfl,rfl,(by rfl),(by rfl),(by rfl),(by rfl)⟩ ?_;rintro _ st ⟨f,i,rfl,rfl,hx,h0,h1,h7,h8⟩;simp only[h7,h8,Qa,seval];by_cases hlt:i<L.length
 ·obtain⟨x,hi⟩:∃x,L[i]? = some x:=⟨L[i],QL6 hlt⟩;have hcl:=hc x (QMi hi);have hg:(L.map Q0)[i]? = some (Q0 x):=by simp[hi]
  have e1:=Qq i _ hlt hl;simp only[Q0,PI.cells]at hcl;simp only[Qo hlt,Qm,QNt,Qd,hg,Q0,PI.cells,h0,h1,h8,eE,seval];refine Q6 (fa:=[]) (fb:=AV.shL cs) (by rfl) hcl (by simp only[QMB,QM5,QMs,QMr,Qa,seval]) ?_;rw[XS p hi]at hx;cases hp:p x
  ·rw[hp]at hx;simp only[QMo,if_false]at hx;simp only[h8,e1,Qa,seval];exact⟨L.length-(i+1),by omega,_,i+1,rfl,rfl,hx,(by exact h0),(by exact h1),(by exact h7),(by rfl)⟩
  ·rw[hp]at hx;simp only[if_true]at hx;simp only[hx,Qa,seval]
 ·have hx':QW p L 0 = -1:=by rw[hx,QMG (by omega)];rfl
  simp only[QE hlt,hx',Qa,seval]

include hl in
theorem QGH (hc:∀o∈L,Qh Tryz.prog c (Q0 o :: AV.shL (AV.shL cs)) (Qc :: Qc :: m) fun y m1=>y=.bool (p o)∧m1=Qc :: Qc :: m) :
  Qh Tryz.prog 211 [.list (L.map Q0),.fn (.func c) [] cs] m fun y m1=>y=.bool (L.any p)∧m1=m:=by
 refine Qpo.go (by simp) ?_;simp only[Qa,seval];refine Qi (QGG L hl p c (AV.shL cs) _ hc) (by simp only[QMB,QM5,Qa,seval]<;>rfl) ?_;simp only[Jr,Qa,seval]

include hl in
theorem N2 (hc:∀o∈L,Qh Tryz.prog c (Q0 o :: AV.shL (AV.shL (AV.shL cs))) (Qc :: Qc :: Qc :: m) fun y m1=>y=.bool (p o)∧m1=Qc :: Qc :: Qc :: m) :
  Qh Tryz.prog 143 [.list (L.map Q0),.fn (.func c) [] cs] m fun y m1=>y=.bool (L.any p)∧m1=m:=by
 refine QDU.go (by simp) ?_;simp only[Qa,seval];refine Qi (QGH L hl p c (AV.shL cs) _ hc) (by simp only[QMB,QM5,Qa,seval]<;>rfl) ?_;simp only[Qa,seval]

end

section
variable (L:List PS)(hl:L.length≤maxLen)(p:PS→Bool)(c:Nat)(cs:List AV)(m:Ql)

def JxS (k:Nat)(st:St):Prop :=
 ∃f i,st=⟨f,Qc :: m,[]⟩∧k=L.length-i∧QW p L 0=QW p (L.drop i) i∧f 0=.list (L.map XT)∧f 1=.fn (.func c) [] (AV.shL cs)∧f 7=.int .i64 (L.length:Nat)∧f 8=.int .i64 (i:Nat)

include hl in
theorem QGI (hc:∀o∈L,Qh Tryz.prog c (XT o :: AV.shL cs) (Qc :: m) fun y m1=>y=.bool (p o)∧m1=Qc :: m) :
  Qh Tryz.prog 276 [.list (L.map XT),.fn (.func c) [] cs] m fun y m1=>y=.int .i64 (QW p L 0)∧m1=m:=by
 refine QF6.go (by simp) ?_;simp only[QMZ,Qa,seval];refine Qf (JxS L p c cs m) _ ⟨_,0,rfl,rfl,rfl,(by rfl),(by rfl),(by rfl),(by rfl)⟩ ?_;rintro _ st ⟨f,i,rfl,rfl,hx,h0,h1,h7,h8⟩;simp only[h7,h8,Qa,seval];by_cases hlt:i<L.length
 ·obtain⟨x,hi⟩:∃x,L[i]? = some x:=⟨L[i],QL6 hlt⟩;have hcl:=hc x (QMi hi);have hg:(L.map XT)[i]? = some (XT x):=by simp[hi]
  have e1:=Qq i _ hlt hl;simp only[XT,PS.cells]at hcl;simp only[Qo hlt,Qm,QNt,Qd,hg,XT,PS.cells,h0,h1,h8,eE,seval];refine Q6 (fa:=[]) (fb:=AV.shL cs) (by rfl) hcl (by simp only[QMB,QM5,QMs,QMr,Qa,seval]) ?_;rw[XS p hi]at hx;cases hp:p x
  ·rw[hp]at hx;simp only[QMo,if_false]at hx;simp only[h8,e1,Qa,seval];exact⟨L.length-(i+1),by omega,_,i+1,rfl,rfl,hx,(by exact h0),(by exact h1),(by exact h7),(by rfl)⟩
  ·rw[hp]at hx;simp only[if_true]at hx;simp only[hx,Qa,seval]
 ·have hx':QW p L 0 = -1:=by rw[hx,QMG (by omega)];rfl
  simp only[QE hlt,hx',Qa,seval]

include hl in
theorem QGJ (hc:∀o∈L,Qh Tryz.prog c (XT o :: AV.shL (AV.shL cs)) (Qc :: Qc :: m) fun y m1=>y=.bool (p o)∧m1=Qc :: Qc :: m) :
  Qh Tryz.prog 246 [.list (L.map XT),.fn (.func c) [] cs] m fun y m1=>y=.bool (L.any p)∧m1=m:=by
 refine QFB.go (by simp) ?_;simp only[Qa,seval];refine Qi (QGI L hl p c (AV.shL cs) _ hc) (by simp only[QMB,QM5,Qa,seval]<;>rfl) ?_;simp only[Jr,Qa,seval]

end

section
variable (L:List (List UInt8))(hl:L.length≤maxLen)(p:(List UInt8)→Bool)(c:Nat)(cs:List AV)(m:Ql)

def JxR (k:Nat)(st:St):Prop :=
 ∃f i,st=⟨f,Qc :: m,[]⟩∧k=L.length-i∧QW p L 0=QW p (L.drop i) i∧f 0=.list (L.map X8)∧f 1=.fn (.func c) [] (AV.shL cs)∧f 7=.int .i64 (L.length:Nat)∧f 8=.int .i64 (i:Nat)

include hl in
theorem QGK (hc:∀o∈L,Qh Tryz.prog c (X8 o :: AV.shL cs) (Qc :: m) fun y m1=>y=.bool (p o)∧m1=Qc :: m) :
  Qh Tryz.prog 242 [.list (L.map X8),.fn (.func c) [] cs] m fun y m1=>y=.int .i64 (QW p L 0)∧m1=m:=by
 refine QiX.go (by simp) ?_;simp only[QMZ,Qa,seval];refine Qf (JxR L p c cs m) _ ⟨_,0,rfl,rfl,rfl,(by rfl),(by rfl),(by rfl),(by rfl)⟩ ?_;rintro _ st ⟨f,i,rfl,rfl,hx,h0,h1,h7,h8⟩;simp only[h7,h8,Qa,seval];by_cases hlt:i<L.length
 ·obtain⟨x,hi⟩:∃x,L[i]? = some x:=⟨L[i],QL6 hlt⟩;have hcl:=hc x (QMi hi);have hg:(L.map X8)[i]? = some (X8 x):=by simp[hi]
  have e1:=Qq i _ hlt hl;simp only[X8]at hcl;simp only[Qo hlt,Qm,QNt,Qd,hg,X8,h0,h1,h8,eE,seval];refine Q6 (fa:=[]) (fb:=AV.shL cs) (by rfl) hcl (by simp only[QMB,QM5,QMs,QMr,Qa,seval]) ?_;rw[XS p hi]at hx;cases hp:p x
  ·rw[hp]at hx;simp only[QMo,if_false]at hx;simp only[h8,e1,Qa,seval];exact⟨L.length-(i+1),by omega,_,i+1,rfl,rfl,hx,(by exact h0),(by exact h1),(by exact h7),(by rfl)⟩
  ·rw[hp]at hx;simp only[if_true]at hx;simp only[hx,Qa,seval]
 ·have hx':QW p L 0 = -1:=by rw[hx,QMG (by omega)];rfl
  simp only[QE hlt,hx',Qa,seval]

include hl in
theorem QGL (hc:∀o∈L,Qh Tryz.prog c (X8 o :: AV.shL (AV.shL cs)) (Qc :: Qc :: m) fun y m1=>y=.bool (p o)∧m1=Qc :: Qc :: m) :
  Qh Tryz.prog 206 [.list (L.map X8),.fn (.func c) [] cs] m fun y m1=>y=.bool (L.any p)∧m1=m:=by
 refine QgO.go (by simp) ?_;simp only[Qa,seval];refine Qi (QGK L hl p c (AV.shL cs) _ hc) (by simp only[QMB,QM5,Qa,seval]<;>rfl) ?_;simp only[Jr,Qa,seval]

end

section
variable (L:List PG)(hl:L.length≤maxLen)(lt:PG→PG→Bool)(c:Nat)(cs:List AV)(m:Ql)

def AxG (k:Nat)(st:St):Prop :=
 ∃f i,st=⟨f,Qc :: m,[]⟩∧k=L.length-(i+1)∧Qz (Q7 L lt) (i+1)=true∧f 0=.list (L.map Qj)∧f 1=.fn (.func c) [] (AV.shL cs)∧f 5=.int .i64 ((i+1:Nat):Int)

include hl in
theorem QGM (hc:∀x∈L,∀y∈L,Qh Tryz.prog c (Qj x :: Qj y :: AV.shL cs) (Qc :: m) fun r m1=>r=.bool (lt x y)∧m1=Qc :: m) :
  Qh Tryz.prog 145 [.list (L.map Qj),.fn (.func c) [] cs] m fun y m1=>y=.bool (XH L lt)∧m1=m:=by
 refine QcD.go (by simp) ?_;simp only[Qa,seval];refine Qf (AxG L lt c cs m) _ ⟨_,0,rfl,rfl,rfl,(by rfl),(by rfl),(by rfl)⟩ ?_;rintro _ st ⟨f,i,rfl,rfl,hx,h0,h1,h5⟩;simp only[QMZ,h0,h5,Qa,seval];by_cases hlt:i+1<L.length
 ·obtain⟨x,hi⟩:∃x,L[i]? = some x:=⟨L[i]'(by omega),QL6 (by omega)⟩;obtain⟨y,hj⟩:∃y,L[i+1]? = some y:=⟨L[i+1],QL6 hlt⟩;have hcl:=hc x (QMi hi) y (QMi hj);have hg:(L.map Qj)[i]? = some (Qj x):=by simp[hi]
  have hh:(L.map Qj)[i+1]? = some (Qj y):=by simp[hj]
  have e1:=Qq (i+1) _ hlt hl;have e2:=KP i _ hlt hl;simp only[Qj,PG.cells]at hcl;simp only[Qo hlt,e2,Qm,QNt,Qd,hg,hh,Qj,PG.cells,h0,h1,h5,eE,seval];refine Q6 (fa:=[]) (fb:=AV.shL cs) (by rfl) hcl (by simp only[QMB,QM5,QMs,QMr,Qa,seval]) ?_;have hs:Qz (Q7 L lt) (i+2)=lt x y:=by
   show(Qz (Q7 L lt) (i+1)&&Q7 L lt (i+1))=_;rw[hx,ZY hi hj,QND]
  cases hp:lt x y
  ·rw[hp]at hs;have hf:XH L lt=false:=by
    rw[QNO];intro h';rw[QG.2 fun k hk=>QG.1 h' k (by omega)]at hs;cases hs
   simp only[hf,Qa,seval]
  ·rw[hp]at hs;simp only[h5,e1,Qa,seval];exact⟨L.length-(i+2),by omega,_,i+1,rfl,rfl,hs,(by exact h0),(by exact h1),(by rfl)⟩
 ·have hf:XH L lt=true:=QG.2 fun k hk=>QG.1 hx k (by omega)
  simp only[QE hlt,hf,Qa,seval]

end

section
variable (L:List PO)(hl:L.length≤maxLen)(lt:PO→PO→Bool)(c:Nat)(cs:List AV)(m:Ql)

def AxO (k:Nat)(st:St):Prop :=
 ∃f i,st=⟨f,Qc :: m,[]⟩∧k=L.length-(i+1)∧Qz (Q7 L lt) (i+1)=true∧f 0=.list (L.map QA)∧f 1=.fn (.func c) [] (AV.shL cs)∧f 5=.int .i64 ((i+1:Nat):Int)

include hl in
theorem QGN (hc:∀x∈L,∀y∈L,Qh Tryz.prog c (QA x :: QA y :: AV.shL cs) (Qc :: m) fun r m1=>r=.bool (lt x y)∧m1=Qc :: m) :
  Qh Tryz.prog 150 [.list (L.map QA),.fn (.func c) [] cs] m fun y m1=>y=.bool (XH L lt)∧m1=m:=by
 refine Qc4.go (by simp) ?_;simp only[Qa,seval];refine Qf (AxO L lt c cs m) _ ⟨_,0,rfl,rfl,rfl,(by rfl),(by rfl),(by rfl)⟩ ?_;rintro _ st ⟨f,i,rfl,rfl,hx,h0,h1,h5⟩;simp only[QMZ,h0,h5,Qa,seval];by_cases hlt:i+1<L.length
 ·obtain⟨x,hi⟩:∃x,L[i]? = some x:=⟨L[i]'(by omega),QL6 (by omega)⟩;obtain⟨y,hj⟩:∃y,L[i+1]? = some y:=⟨L[i+1],QL6 hlt⟩;have hcl:=hc x (QMi hi) y (QMi hj);have hg:(L.map QA)[i]? = some (QA x):=by simp[hi]
  have hh:(L.map QA)[i+1]? = some (QA y):=by simp[hj]
  have e1:=Qq (i+1) _ hlt hl;have e2:=KP i _ hlt hl;simp only[QA,PO.cells]at hcl;simp only[Qo hlt,e2,Qm,QNt,Qd,hg,hh,QA,PO.cells,h0,h1,h5,eE,seval];refine Q6 (fa:=[]) (fb:=AV.shL cs) (by rfl) hcl (by simp only[QMB,QM5,QMs,QMr,Qa,seval]) ?_;have hs:Qz (Q7 L lt) (i+2)=lt x y:=by
   show(Qz (Q7 L lt) (i+1)&&Q7 L lt (i+1))=_;rw[hx,ZY hi hj,QND]
  cases hp:lt x y
  ·rw[hp]at hs;have hf:XH L lt=false:=by
    rw[QNO];intro h';rw[QG.2 fun k hk=>QG.1 h' k (by omega)]at hs;cases hs
   simp only[hf,Qa,seval]
  ·rw[hp]at hs;simp only[h5,e1,Qa,seval];exact⟨L.length-(i+2),by omega,_,i+1,rfl,rfl,hs,(by exact h0),(by exact h1),(by rfl)⟩
 ·have hf:XH L lt=true:=QG.2 fun k hk=>QG.1 hx k (by omega)
  simp only[QE hlt,hf,Qa,seval]

end

section
variable (L:List PE)(hl:L.length≤maxLen)(lt:PE→PE→Bool)(c:Nat)(cs:List AV)(m:Ql)

def AxE (k:Nat)(st:St):Prop :=
 ∃f i,st=⟨f,Qc :: m,[]⟩∧k=L.length-(i+1)∧Qz (Q7 L lt) (i+1)=true∧f 0=.list (L.map Qt)∧f 1=.fn (.func c) [] (AV.shL cs)∧f 5=.int .i64 ((i+1:Nat):Int)

include hl in
theorem QGO (hc:∀x∈L,∀y∈L,Qh Tryz.prog c (Qt x :: Qt y :: AV.shL cs) (Qc :: m) fun r m1=>r=.bool (lt x y)∧m1=Qc :: m) :
  Qh Tryz.prog 147 [.list (L.map Qt),.fn (.func c) [] cs] m fun y m1=>y=.bool (XH L lt)∧m1=m:=by
 refine QcO.go (by simp) ?_;simp only[Qa,seval];refine Qf (AxE L lt c cs m) _ ⟨_,0,rfl,rfl,rfl,(by rfl),(by rfl),(by rfl)⟩ ?_;rintro _ st ⟨f,i,rfl,rfl,hx,h0,h1,h5⟩;simp only[QMZ,h0,h5,Qa,seval];by_cases hlt:i+1<L.length
 ·obtain⟨x,hi⟩:∃x,L[i]? = some x:=⟨L[i]'(by omega),QL6 (by omega)⟩;obtain⟨y,hj⟩:∃y,L[i+1]? = some y:=⟨L[i+1],QL6 hlt⟩;have hcl:=hc x (QMi hi) y (QMi hj);have hg:(L.map Qt)[i]? = some (Qt x):=by simp[hi]
  have hh:(L.map Qt)[i+1]? = some (Qt y):=by simp[hj]
  have e1:=Qq (i+1) _ hlt hl;have e2:=KP i _ hlt hl;simp only[Qt,PE.cells]at hcl;simp only[Qo hlt,e2,Qm,QNt,Qd,hg,hh,Qt,PE.cells,h0,h1,h5,eE,seval];refine Q6 (fa:=[]) (fb:=AV.shL cs) (by rfl) hcl (by simp only[QMB,QM5,QMs,QMr,Qa,seval]) ?_;have hs:Qz (Q7 L lt) (i+2)=lt x y:=by
   show(Qz (Q7 L lt) (i+1)&&Q7 L lt (i+1))=_;rw[hx,ZY hi hj,QND]
  cases hp:lt x y
  ·rw[hp]at hs;have hf:XH L lt=false:=by
    rw[QNO];intro h';rw[QG.2 fun k hk=>QG.1 h' k (by omega)]at hs;cases hs
   simp only[hf,Qa,seval]
  ·rw[hp]at hs;simp only[h5,e1,Qa,seval];exact⟨L.length-(i+2),by omega,_,i+1,rfl,rfl,hs,(by exact h0),(by exact h1),(by rfl)⟩
 ·have hf:XH L lt=true:=QG.2 fun k hk=>QG.1 hx k (by omega)
  simp only[QE hlt,hf,Qa,seval]

end

section
variable (L:List PI)(hl:L.length≤maxLen)(lt:PI→PI→Bool)(c:Nat)(cs:List AV)(m:Ql)

def AxI (k:Nat)(st:St):Prop :=
 ∃f i,st=⟨f,Qc :: m,[]⟩∧k=L.length-(i+1)∧Qz (Q7 L lt) (i+1)=true∧f 0=.list (L.map Q0)∧f 1=.fn (.func c) [] (AV.shL cs)∧f 5=.int .i64 ((i+1:Nat):Int)

include hl in
theorem QGP (hc:∀x∈L,∀y∈L,Qh Tryz.prog c (Q0 x :: Q0 y :: AV.shL cs) (Qc :: m) fun r m1=>r=.bool (lt x y)∧m1=Qc :: m) :
  Qh Tryz.prog 153 [.list (L.map Q0),.fn (.func c) [] cs] m fun y m1=>y=.bool (XH L lt)∧m1=m:=by
 refine QD9.go (by simp) ?_;simp only[Qa,seval];refine Qf (AxI L lt c cs m) _ ⟨_,0,rfl,rfl,rfl,(by rfl),(by rfl),(by rfl)⟩ ?_;rintro _ st ⟨f,i,rfl,rfl,hx,h0,h1,h5⟩;simp only[QMZ,h0,h5,Qa,seval];by_cases hlt:i+1<L.length
 ·obtain⟨x,hi⟩:∃x,L[i]? = some x:=⟨L[i]'(by omega),QL6 (by omega)⟩;obtain⟨y,hj⟩:∃y,L[i+1]? = some y:=⟨L[i+1],QL6 hlt⟩;have hcl:=hc x (QMi hi) y (QMi hj);have hg:(L.map Q0)[i]? = some (Q0 x):=by simp[hi]
  have hh:(L.map Q0)[i+1]? = some (Q0 y):=by simp[hj]
  have e1:=Qq (i+1) _ hlt hl;have e2:=KP i _ hlt hl;simp only[Q0,PI.cells]at hcl;simp only[Qo hlt,e2,Qm,QNt,Qd,hg,hh,Q0,PI.cells,h0,h1,h5,eE,seval];refine Q6 (fa:=[]) (fb:=AV.shL cs) (by rfl) hcl (by simp only[QMB,QM5,QMs,QMr,Qa,seval]) ?_;have hs:Qz (Q7 L lt) (i+2)=lt x y:=by
   show(Qz (Q7 L lt) (i+1)&&Q7 L lt (i+1))=_;rw[hx,ZY hi hj,QND]
  cases hp:lt x y
  ·rw[hp]at hs;have hf:XH L lt=false:=by
    rw[QNO];intro h';rw[QG.2 fun k hk=>QG.1 h' k (by omega)]at hs;cases hs
   simp only[hf,Qa,seval]
  ·rw[hp]at hs;simp only[h5,e1,Qa,seval];exact⟨L.length-(i+2),by omega,_,i+1,rfl,rfl,hs,(by exact h0),(by exact h1),(by rfl)⟩
 ·have hf:XH L lt=true:=QG.2 fun k hk=>QG.1 hx k (by omega)
  simp only[QE hlt,hf,Qa,seval]

end

def cl (c:Nat):Int:=if 97≤c∧c≤122 then 1 else if 65≤c∧c≤90 then 2 else if 48≤c∧c≤57 then 3 else if c=95 then 4 else 0

theorem QGQ (c:Nat):Qp Tryz.prog 244 [.int .i32 (c:Nat)] (.int .i64 (cl c)):=by
 refine Qjo.fn (by simp) ?_;simp only[Qa,seval]
 repeat' (first|(refine Xl (fun h=>?_) (fun h=>?_)<;>simp only[h,Qa,seval])|(refine XV (fun h=>?_) (fun h=>?_)<;>simp only[h,Qn,Qa,seval])|(refine XW (fun h=>?_) (fun h=>?_)<;>simp only[h,Qn,eE,seval]))
 all_goals((try simp only[QMa,QNR,QMb,QNI,ne_eq]at *)<;>unfold cl<;>(repeat' split)<;>first|rfl|(exfalso;omega))

theorem N3 {s:List UInt8}{i:Nat}{c:UInt8}(h:s[i]? = some c):(c.toNat<128→Xc s i=(c.toNat,1))∧(128≤c.toNat→128≤(Xc s i).1):=by
 have g0:(⟨⟨s⟩⟩:ByteArray).get! (i+0)=c:=by
  show(⟨s⟩:Array UInt8)[i+0]! = c;simp[h]
 constructor
 ·intro hc;simp only[Xc,Utf8.decode,g0];rw[QMy hc]
 ·intro hc;simp only[Xc,Utf8.decode,g0];rw[QMj (by omega)]
  (repeat' split)<;>simp only[ge_iff_le,QMt,QMa,Utf8.runeError]at *<;>omega

def pq (s:List UInt8)(j:Nat):Bool:=match s[j]? with
 |some c=>if j=0 then Ji c else ZO c
 |none=>true
theorem Wb {s:List UInt8}{j:Nat}{c:UInt8}(h:s[j]? = some c):pq s j=if j=0 then Ji c else ZO c:=by
 unfold pq;rw[h]

theorem Fx {c:UInt8}(h:Ji c=true):ZO c=true:=by unfold ZO;rw[h];rfl

theorem J9 (s:List UInt8):QX s=(decide (1≤s.length)&&decide (s.length≤40)&&Qz (pq s) s.length):=by
 cases s with
 |nil=>rfl
 |cons c t=>
  have h1:decide (1≤(c :: t).length)=true:=by simp
  rw[h1,QND];show(decide ((c :: t).length≤40)&&Ji c&&t.all ZO)=_;rw[QMP];congr 1
  rw[QMY,QMt,QG,QMh]
  constructor
  ·rintro⟨h2,h3⟩ i hi;cases i with
   |zero=>rw[Wb (c:=c) rfl,QMy rfl];exact h2
   |succ i=>
    have hlt:i<t.length:=by simpa using hi
    rw[Wb (c:=t[i]) (by simp[QL6 hlt]),QMj (by omega)];exact h3 _ (QMW _)
  ·intro h;refine⟨?_,fun x hx=>?_⟩
   ·have:=h 0 (by simp)
    rwa [Wb (c:=c) rfl,QMy rfl]at this
   ·obtain⟨i,hi⟩:=QMg.1 hx;have hlt:=(QL5.1 hi).1;have:=h (i+1) (by simpa using hlt)
    rwa [Wb (c:=x) (by simpa using hi),QMj (by omega)]at this

theorem QzC {s:List UInt8}{i:Nat}{c:UInt8}(h:s[i]? = some c)(r:Nat)(hr:(c.toNat<128→r=c.toNat)∧(128≤c.toNat→128≤r)) :
  (cl r==0||((i:Int)==0&&(cl r != 1&&cl r != 2)))=!pq s i:=by
 rw[Wb h];obtain⟨h1,h2⟩:=hr;have hc:=c.toNat_lt;unfold cl Ji ZO Ji;generalize c.toNat=x at *;by_cases hx:x<128
 ·have e:=h1 hx;subst e;by_cases hi:i=0
  ·subst hi;rw[QMy rfl]
   (repeat' split)<;>simp<;>omega
  ·rw[QMj hi];have hz:((i:Int)==0)=false:=by simp;omega
   rw[hz]
   (repeat' split)<;>simp<;>omega
 ·have:=h2 (by omega);have e:(if 97≤r∧r≤122 then(1:Int)else if 65≤r∧r≤90 then 2 else if 48≤r∧r≤57 then 3 else if r=95 then 4 else 0)=0:=by
   rw[QMj (by omega),QMj (by omega),QMj (by omega),QMj (by omega)]
  rw[e];split<;>simp<;>omega

def PaI (s:List UInt8)(k:Nat)(st:St):Prop :=
 ∃f fr i,st=⟨f,[fr],[]⟩∧k=s.length-i∧i≤s.length∧Qz (pq s) i=true∧f 0=.str s∧f 7=.ptr 0 7 0∧fr 7=.iter (.str s) i

theorem QrX (s:List UInt8):Qp Tryz.prog 210 [.str s] (.bool (QX s)):=by
 refine Qhm.fn (by simp) ?_;simp only[Qa,seval];refine GW rfl rfl ?_;simp only[Qa,seval];refine Qf (PaI s) s.length ⟨_,_,0,rfl,rfl,QMd _,rfl,(by rfl),(by rfl),(by rfl)⟩ ?_;rintro _ st ⟨f,fr,i,rfl,rfl,hi,hx,h0,h7,m7⟩;simp only[Qa,seval];refine GX (by exact h7) m7 (fun hlt=>?_) (fun hge=>?_)
 ·obtain⟨c,hc⟩:∃c,s[i]? = some c:=⟨s[i],QL6 hlt⟩;obtain⟨u1,u2⟩:=N3 hc;have hcl:=QGQ (Xc s i).1;have hq:=QzC hc (Xc s i).1 ⟨fun h=>by rw[u1 h],u2⟩;have hw:pq s i=true→(Xc s i).2=1:=by
   intro h;rw[u1];rw[Wb hc]at h;have hp:ZO c=true:=by
    split at h
    ·exact Fx h
    ·exact h
   unfold ZO Ji at hp;simp at hp;omega
  generalize Xc s i=cw at hcl hq hw;obtain⟨r,w⟩:=cw;simp only[Qa,seval];refine Qb hcl rfl rfl rfl (.inl rfl) ?_;have hstep:Qz (pq s) (i+1)=pq s i:=by rw[Qz,hx,QND]
  have hend:pq s i=false→QX s=false:=by
   intro h;rw[J9,N1 hlt h,QNS]
  simp only at hq hw;generalize cl r=k at hq;cases hp:pq s i
  ·rw[hp]at hq;have he:=hend hp;simp only[he,Qa,seval];cases a1:(k==0)
   ·cases a2:((i:Int)==0)
    ·simp[a1,a2]at hq
    ·cases a3:(k != 1)
     ·simp[a1,a2,a3]at hq
     ·cases a4:(k != 2)
      ·simp[a1,a2,a3,a4]at hq
      ·simp only[a2,a3,a4,Qa,seval]
   ·simp only[Qa,seval]
  ·rw[hp]at hq;have hw:=hw hp;subst hw;simp only[Qa,seval];cases a1:(k==0)
   ·cases a2:((i:Int)==0)
    ·simp only[a2,Qa,seval];exact⟨s.length-(i+1),by omega,_,_,i+1,rfl,rfl,by omega,by rw[hstep,hp],(by exact h0),(by exact h7),(by rfl)⟩
    ·cases a3:(k != 1)
     ·simp only[a2,a3,Qa,seval];exact⟨s.length-(i+1),by omega,_,_,i+1,rfl,rfl,by omega,by rw[hstep,hp],(by exact h0),(by exact h7),(by rfl)⟩
     ·cases a4:(k != 2)
      ·simp only[a2,a3,a4,Qa,seval];exact⟨s.length-(i+1),by omega,_,_,i+1,rfl,rfl,by omega,by rw[hstep,hp],(by exact h0),(by exact h7),(by rfl)⟩
      ·simp[a1,a2,a3,a4]at hq
   ·simp[a1]at hq
 ·have hii:i=s.length:=by omega
  subst hii;have e1:decide (((s.length:Nat):Int)≥1)=decide (1≤s.length):=by rw[decide_eq_decide];omega
  have e2:decide (((s.length:Nat):Int)≤40)=decide (s.length≤40):=by rw[decide_eq_decide];omega
  have e3:QX s=(decide (1≤s.length)&&decide (s.length≤40)):=by rw[J9,hx,QNf]
  simp only[h0,e1,e3,Qa,seval];cases a1:decide (1≤s.length)<;>simp only[QND,QNw,h0,e2,Qa,seval]

theorem QGR (s:List UInt8):Qp Tryz.prog 208 [.str s] (.bool (X5 s)):=by
 refine M7.fn (by simp) ?_;simp only[QN,Qa,seval];have e:X5 s=WV.any fun w=>s==w:=rfl
 simp only[WV,List.any_cons,List.any_nil,QNT]at e
 repeat' (first|(refine Xl (fun h=>?_) (fun h=>?_)<;>simp only[h,QN,Qa,seval])|(refine XV (fun h=>?_) (fun h=>?_)<;>simp only[h,Qn,QN,eE,seval])|(refine XW (fun h=>?_) (fun h=>?_)<;>simp only[h,Qn,QN,eE,seval]))
 all_goals(simp only[*,QNG,QNU,QNT]at e;simp only[e])

theorem QGS (s:List UInt8):Qp Tryz.prog 274 [.str s,.str [46]] (.int .i64 (s.count 46:Nat)):=by
 refine Qj5.fn (by simp) ?_;have b0:(((1:Nat):Int)==0)=false:=rfl;have b1:(((1:Nat):Int)==1)=true:=rfl;have b2:([(46:UInt8)])[Int.toNat 0]? = some 46:=rfl;simp only[QMk,QM0,QML,Qa,seval];refine BG rfl rfl ?_;simp only[He,Lib.countByte,Qa,seval]
 try rfl

theorem QGT (s:List UInt8):Qp Tryz.prog 300 [.str s,.int .u8 46] (.int .i64 (Lib.indexByte s 46)):=by
 refine QkB.fn (by simp) ?_;simp only[Qa,seval];refine BG rfl rfl ?_;simp only[He,QMo,Qa,seval]
 try rfl

theorem QGU (s:List UInt8):Qp Tryz.prog 292 [.str s,.str [46]] (.int .i64 (Lib.indexByte s 46)):=by
 refine Qkj.fn (by simp) ?_;have b0:(((1:Nat):Int)==0)=false:=rfl;have b1:(((1:Nat):Int)==1)=true:=rfl;have b2:([(46:UInt8)])[Int.toNat 0]? = some 46:=rfl;have hk:=QGT s;simp only[NX,CG,CH,CI,CJ,CL,CM,CN,CO,CP,NX,M8,QMk,QM0,QML,QN,Qa,seval];cases h:(([46]:List UInt8)==s)
 ·simp only[Qa,seval];refine Qb hk rfl rfl rfl (.inl rfl) ?_;simp only[Qa,seval]
 ·have hs:s=[46]:=by simpa using (QMb.1 h).symm
  subst hs;simp only[Qa,seval]
  try rfl

theorem QGV (s:List UInt8):Qp Tryz.prog 275 [.str s,.str [46]] (.int .i64 (Lib.indexByte s 46)):=by
 refine Qka.fn (by simp) ?_;simp only[Qa,seval];refine Qb (QGU s) rfl rfl rfl (.inl rfl) ?_;simp only[Qa,seval]

theorem C6 {t:List UInt8}{o:Nat}(h:Lib.indexByte t 46=(o:Int)):o<t.length∧t=t.take o++46 :: t.drop (o+1)∧∀c∈t.take o,c≠46:=by
 obtain⟨h1,h2⟩:=Lib.indexByte_some h;have hlt:=(QL5.1 h1).1;refine⟨hlt,?_,?_⟩
 ·have h3:t[o]=46:=(QL5.1 h1).2;rw[←h3,←QMN hlt,QNi]
 ·intro c hc e;subst e;obtain⟨k,hk⟩:=QMg.1 hc;rw[QMI]at hk;split at hk
  ·exact h2 k ‹_› hk
  ·cases hk

theorem Pm {t:List UInt8}(h:Lib.indexByte t 46 = -1):Qk t=[t]:=by
 refine Wa fun c hc e=>?_
 subst e;obtain⟨k,hk⟩:=QMg.1 hc;exact Lib.indexByte_none h k hk

theorem C7 {t:List UInt8}{o:Nat}(h:Lib.indexByte t 46=(o:Int)):Qk t=t.take o :: Qk (t.drop (o+1)):=by
 obtain⟨_,h2,h3⟩:=C6 h
 conv=>lhs;rw[h2]
 exact HC h3

theorem QrY (t:List UInt8):Lib.indexByte t 46 = -1∨∃o:Nat,Lib.indexByte t 46=(o:Int):=by
 have:=Lib.indexByte_ge t 46;by_cases h:Lib.indexByte t 46 = -1
 ·exact .inl h
 ·obtain⟨o,ho⟩:=QNF (a:=Lib.indexByte t 46) (by omega);exact .inr ⟨o,ho⟩

def SpI (s:List UInt8)(n:Nat)(k:Nat)(st:St):Prop :=
 ∃f fr t done,st=⟨f,[fr],[]⟩∧k=(Qk t).length∧Qk s=done++Qk t∧n=done.length+(Qk t).length∧t.length≤s.length∧
  f 0=.str t∧f 1=.str [46]∧f 2=.int .i64 0∧f 3=.int .i64 ((n-1:Nat):Int)∧f 9=.vec 0 31 1 0 n false∧f 10=.int .i64 (done.length:Nat)∧fr 31=.vec 1 1 (done.map X8++List.replicate (Qk t).length (.str []))

theorem Pn (done:List (List UInt8))(x:List UInt8)(n:Nat)(h:0<n):(done.map X8++List.replicate n (AV.str [])).set done.length (.str x)=(done++[x]).map X8++List.replicate (n-1) (AV.str []):=by
 obtain⟨k,rfl⟩:∃k,n=k+1:=⟨n-1,by omega⟩;rw[List.set_append_right _ _ (by simp)];simp[X8,List.replicate_succ]

theorem QGW (s:List UInt8)(hs:s.length≤17592186044000):Qp Tryz.prog 243 [.str s,.str [46],.int .i64 0,.int .i64 (-1)] (.list ((Qk s).map X8)):=by
 have hl:=Yz s;have hc:s.count 46≤s.length:=List.count_le_length;have hm:(Qk s).length≤s.length+1:=by omega
 have b0:((-1:Int)==0)=false:=rfl;have b1:decide ((-1:Int)<0)=true:=rfl;have e1:IntKind.i64.wrap ((s.count 46:Nat)+1:Int)=((Qk s).length:Nat):=by rw[QF];omega
 have e2:IntKind.i64.wrap ((s.length:Nat)+1:Int)=((s.length+1:Nat):Int):=by rw[QF];omega
 have e3':(((s.length+1:Nat):Int)<((Qk s).length:Nat))=False:=eq_false (by omega);have e4:IntKind.i64.wrap (((Qk s).length:Nat)-1:Int)=(((Qk s).length-1:Nat):Int):=by rw[QF];omega
 have hz:Jo 1 [AV.str []]=.str []:=rfl;refine Qjb.fn (by simp) ?_;simp only[b0,QN,Qa,seval];have b2:(([46]:List UInt8)==[])=false:=rfl;simp only[b2,Qa,seval];refine Qb (QGS s) rfl rfl rfl (.inl rfl) ?_;simp only[e1,e2,e3',Qa,seval];refine YX (n:=(Qk s).length) (k:=(Qk s).length) rfl rfl (QL3 _) (by omega) (by omega) rfl ?_;simp only[e4,hz,Qa,seval];refine Qf (SpI s (Qk s).length) _ ⟨_,_,s,[],rfl,rfl,rfl,by simp,QL3 _,(by rfl),(by rfl),(by rfl),(by rfl),(by rfl),(by rfl),(by rfl)⟩ ?_;rintro _ st ⟨f,fr,t,done,rfl,rfl,hp,hn,ht,h0,h1,h2,h3,h9,h10,m31⟩;simp only[h3,h10,Qa,seval];have hpos:0<(Qk t).length:=QNn.2 (JV t);have ia:Qd [fr] 1 none (.vec 0 31 1 0 (Qk s).length false) ((done.length:Nat):Int)=some (.vptr 0 31 1 done.length 0):=by
  have e:Am.Qg [fr] 0 31=.vec 1 1 (done.map X8++List.replicate (Qk t).length (.str [])):=m31;simp only[Qd,e,Qm,if_true,QNt];simp;omega
 have ist:∀x:List UInt8,QU [fr] (.vptr 0 31 1 done.length 0) [.str x]=some [QI fr 31 (.vec 1 1 ((done++[x]).map X8++List.replicate ((Qk t).length-1) (.str [])))]:=by
  intro x;have e:Am.Qg [fr] 0 31=.vec 1 1 (done.map X8++List.replicate (Qk t).length (.str [])):=m31;have hy:(done.map X8++List.replicate (Qk t).length (.str []))[done.length]? = some (.str []):=by
   rw[QNs (by simp)];simp[hpos]
  have hx:Zq (.str []) 0 [.str x]=.str x:=rfl;simp only[QU,e,hy,if_true,←Pn done x _ hpos];simp[AV.cells,AV.rfL,AV.rf,Am.put,hx]
 have ew:IntKind.i64.wrap ((done.length:Nat)+1:Int)=((done.length+1:Nat):Int):=by rw[QF];omega
 rcases QrY t with hd|⟨o,ho⟩
 ·have hp1:=Pm hd;have hl1:(Qk t).length=1:=by rw[hp1];rfl
  have d1:decide (((done.length:Nat):Int)<(((Qk s).length-1:Nat):Int))=false:=QNM (by omega);have hi:=ist t;have hrow:(done++[t]).map X8++List.replicate ((Qk t).length-1) (AV.str [])=(Qk s).map X8:=by
   rw[hl1,hp,hp1];simp
  have hlen:done.length+1=(Qk s).length:=by omega
  rw[hrow]at hi;rw[hlen]at ew;have hle:((Qk s).length≤(Qk s).length)=True:=eq_true (QL3 _);have ht:(((Qk s).map X8).drop 0).take (Qk s).length=(Qk s).map X8:=by rw[QMM];exact QMD (by simp)
  simp only[d1,ia,hi,h0,h9,h10,ew,eE,seval];simp only[Qm,if_true,QNt,QMd,hle,QMV,and_true,QNl,Option.isSome_none,QNT,Xz,QNd,Zf,QNN];have el:Am.Qg [QI fr 31 (Ob.vec 1 1 ((Qk s).map X8))] 0 31=.vec 1 1 ((Qk s).map X8):=QP _ _ _;simp only[AV.still,el,QND,bne_self_eq_false,QMo,if_false,QML,QMZ,hle,and_self,if_true,ht,Option.bind_some,AV.un,QNN,QNd]
 ·have hp1:=C7 ho;obtain⟨ho1,ho2,ho3⟩:=C6 ho;have hl1:(Qk t).length=(Qk (t.drop (o+1))).length+1:=by rw[hp1];simp
  have hpos2:0<(Qk (t.drop (o+1))).length:=QNn.2 (JV _);have d1:decide (((done.length:Nat):Int)<(((Qk s).length-1:Nat):Int))=true:=QNQ (by omega);have d2:decide ((o:Int)<0)=false:=QNM (by omega);have w1:IntKind.i64.wrap ((o:Int)+0)=(o:Int):=by rw[QF];omega
  have w2:IntKind.i64.wrap ((o:Int)+1)=((o+1:Nat):Int):=by rw[QF];omega
  have hi:=ist (t.take o);simp only[d1,h0,h1,Qa,seval];refine Qb (QGV t) rfl rfl rfl (.inl rfl) ?_;have hle1:(0≤o∧o≤t.length)=True:=eq_true ⟨QMd _,by omega⟩;have hle2:(o+1≤t.length∧t.length≤t.length)=True:=eq_true ⟨by omega,QL3 _⟩;have ht2:(t.drop (o+1)).take (t.length-(o+1))=t.drop (o+1):=QMD (by simp);simp only[ho,d2,w1,w2,Qm,QNt,hle1,hle2,ht2,QNl,h0,h1,h2,h9,h10,eE,seval];simp only[ia,hi,ew,Qa,seval];have hlen:(done++[t.take o]).length=done.length+1:=by simp
  have hk:(Qk t).length-1=(Qk (t.drop (o+1))).length:=by omega
  exact⟨(Qk (t.drop (o+1))).length,by omega,_,_,t.drop (o+1),done++[t.take o],rfl,rfl,by rw[hp,hp1];simp,by rw[hlen];omega,by simp;omega,(by rfl),(by exact h1),(by exact h2),(by exact h3),(by exact h9),by rw[hlen]<;>first|rfl|simp only[eE,seval],by rw[←hk]<;>exact QP _ _ _⟩

def Fy (c:UInt8):Bool:=decide (97≤c.toNat)&&decide (c.toNat≤122)
def Fz (c:UInt8):Bool:=decide (65≤c.toNat)&&decide (c.toNat≤90)

theorem QrZ (c:UInt8):Qp Tryz.prog 199 [.int .u8 (c.toNat:Nat)] (.bool (Fy c)):=by
 refine QEP.fn (by simp) ?_;have e1:decide ((c.toNat:Int)≥97)=decide (97≤c.toNat):=by rw[decide_eq_decide];omega
 have e2:decide ((c.toNat:Int)≤122)=decide (c.toNat≤122):=by rw[decide_eq_decide];omega
 simp only[e1,Fy,Qa,seval];cases h:decide (97≤c.toNat)<;>simp only[e2,QND,QNw,Qa,seval]

theorem Qr0 (c:UInt8):Qp Tryz.prog 200 [.int .u8 (c.toNat:Nat)] (.bool (Fz c)):=by
 refine QES.fn (by simp) ?_;have e1:decide ((c.toNat:Int)≥65)=decide (65≤c.toNat):=by rw[decide_eq_decide];omega
 have e2:decide ((c.toNat:Int)≤90)=decide (c.toNat≤90):=by rw[decide_eq_decide];omega
 simp only[e1,Fz,Qa,seval];cases h:decide (65≤c.toNat)<;>simp only[e2,QND,QNw,Qa,seval]

theorem Po (c:UInt8):ZO c=(Fy c||Fz c || !((c.toNat:Int) != 95) || !(decide ((c.toNat:Int)<48)||decide ((c.toNat:Int) > 57))):=by
 unfold ZO Ji Fy Fz;generalize c.toNat=x;rw[QMY];simp only[QL9,QMt,QMa,QMb,QM2,bne_eq_false_iff_eq,QMX,QNR];omega

def PrI (s:List UInt8)(k:Nat)(st:St):Prop :=
 ∃f i,st=⟨f,[Qc],[]⟩∧k=s.length-i∧1≤i∧Qz (pq s) i=true∧f 0=.str s∧f 3=.int .i64 (i:Nat)

theorem Pp (s:List UInt8):Qp Tryz.prog 127 [.str s] (.bool (QX s)):=by
 refine QDw.fn (by simp) ?_;simp only[Qa,seval];by_cases hl:s.length=0
 ·have d0:((s.length:Int)==0)=true:=by rw[hl];rfl
  have e:QX s=false:=by rw[J9,hl];rfl
  simp only[d0,e,Qa,seval]
 have d0:((s.length:Int)==0)=false:=by rw[QNI];omega
 by_cases hm:s.length≤40
 case neg=>
  have d1:decide ((s.length:Int) > 40)=true:=QNQ (by omega);have e:QX s=false:=by rw[J9,QNM hm,QNS,QNw]
  simp only[d0,d1,e,Qa,seval]
 have d1:decide ((s.length:Int) > 40)=false:=QNM (by omega);have hp:QX s=Qz (pq s) s.length:=by rw[J9,QNQ hm,QNQ (by omega:1≤s.length)];rfl
 obtain⟨c,hc⟩:∃c,s[0]? = some c:=⟨s[0]'(by omega),QL6 (by omega)⟩;have hq0:Qz (pq s) 1=(Fy c||Fz c):=by
  show(true&&pq s 0)=_;rw[Wb hc,QMy rfl];rfl
 have h1:=QrZ c;have h2:=Qr0 c;have hn:Qz (pq s) 1=false→QX s=false:=fun h=>by
  rw[hp,QNO];intro h';rw[QG.2 fun k hk=>QG.1 h' k (by omega)]at h;cases h
 have z1:Int.toNat 0=0:=rfl;have go:Qz (pq s) 1=true→∀(f:Fr),f 0=.str s→f 3=.int .i64 1→∀Q:Exit→St→Prop,(∀f,Qz (pq s) s.length=true→Q (.exit 0) ⟨f,[Qc],[]⟩)→(∀f,f 2=.bool false→Qz (pq s) s.length=false→Q .ret ⟨f,[Qc],[]⟩)→QJ Tryz.prog (.loop CQ) ⟨f,[Qc],[]⟩ Q:=by
  intro hq1 f h0 h3 Q hx hr;refine Qf (PrI s) _ ⟨_,1,rfl,rfl,QL3 _,hq1,h0,h3⟩ ?_;clear h0 h3 hc hq0 h1 h2 hn;rintro _ st ⟨f,i,rfl,rfl,h1i,hx1,h0,h3⟩;simp only[h0,h3,Qa,seval];by_cases hlt:i<s.length
  ·obtain⟨c,hc⟩:∃c,s[i]? = some c:=⟨s[i],QL6 hlt⟩;have e1:=Qq i _ hlt (by simp only[maxLen];omega);have hs1:=QrZ c;have hs2:=Qr0 c;have hstep:Qz (pq s) (i+1)=ZO c:=by
    rw[Qz,hx1,QND,Wb hc,QMj (by omega)]
   have hend:ZO c=false→Qz (pq s) s.length=false:=fun h=>by
    rw[QNO];intro h';rw[QG.2 fun k hk=>QG.1 h' k (by omega)]at hstep;rw[h]at hstep;cases hstep
   have fin:∀f':Fr,ZO c=true→f' 0=.str s→f' 3=.int .i64 ((i+1:Nat):Int)→∃k,k<s.length-i∧PrI s k ⟨f',[Qc],[]⟩:=by
    intro f' hp h0 h3;exact⟨s.length-(i+1),by omega,f',i+1,rfl,rfl,by omega,by rw[hstep,hp],h0,h3⟩
   have hpc:=Po c;simp only[Qo hlt,Qm,QNt,hc,h0,h3,Qa,seval];refine Qb hs1 rfl rfl rfl (.inl rfl) ?_;cases a1:Fy c
   ·simp only[Qm,QNt,hc,h0,h3,QNb,Qa,seval];refine Qb hs2 rfl rfl rfl (.inl rfl) ?_;cases a2:Fz c
    ·cases a3:((c.toNat:Int) != 95)
     ·rw[a1,a2,a3]at hpc;simp only[a3,Qm,QNt,hc,h0,h3,e1,QNb,Qa,seval];exact fin _ (by rw[hpc];rfl) (by exact h0) (by rfl)
     ·cases a4:decide ((c.toNat:Int)<48)
      ·cases a5:decide ((c.toNat:Int) > 57)
       ·rw[a1,a2,a3,a4,a5]at hpc;simp only[a3,a4,a5,Qm,QNt,hc,h0,h3,e1,QNb,Qa,seval];exact fin _ (by rw[hpc];rfl) (by exact h0) (by rfl)
       ·rw[a1,a2,a3,a4,a5]at hpc;simp only[a3,a4,a5,Qm,QNt,hc,h0,h3,QNb,Qa,seval];exact hr _ (by rfl) (hend (by rw[hpc];rfl))
      ·rw[a1,a2,a3,a4]at hpc;simp only[a3,a4,Qm,QNt,hc,h0,h3,QNb,Qa,seval];exact hr _ (by rfl) (hend (by rw[hpc];rfl))
    ·rw[a1,a2]at hpc;simp only[h3,e1,QNE,Qa,seval];exact fin _ (by rw[hpc];rfl) (by exact h0) (by rfl)
   ·rw[a1]at hpc;simp only[h3,e1,QNE,Qa,seval];exact fin _ (by rw[hpc];rfl) (by exact h0) (by rfl)
  ·simp only[QE hlt,Qa,seval];exact hx _ (QG.2 fun k hk=>QG.1 hx1 k (by omega))
 simp only[d0,d1,z1,hc,Qa,seval];refine Qb h1 rfl rfl rfl (.inl rfl) ?_;cases a1:Fy c
 ·simp only[z1,hc,QNb,Qa,seval];refine Qb h2 rfl rfl rfl (.inl rfl) ?_;cases a2:Fz c
  ·rw[a1,a2]at hq0;simp only[hn hq0,QNb,Qa,seval]
  ·rw[a1,a2]at hq0;simp only[QNE,Qa,seval];refine go hq0 _ (by rfl) (by rfl) _ (fun f h=>?_) (fun f h2 h=>?_)
   ·simp only[hp,h,Qa,seval]
   ·simp only[hp,h,h2,Qa,seval]
 ·rw[a1,QNG]at hq0;simp only[QNE,Qa,seval];refine go hq0 _ (by rfl) (by rfl) _ (fun f h=>?_) (fun f h2 h=>?_)
  ·simp only[hp,h,Qa,seval]
  ·simp only[hp,h,h2,Qa,seval]

theorem Qr1 (s:List UInt8):Qp Tryz.prog 126 [.str s] (.bool (X5 s)):=by
 refine QDt.fn (by simp) ?_;simp only[QN,Qa,seval];have e:X5 s=WV.any fun w=>s==w:=rfl
 simp only[WV,List.any_cons,List.any_nil,QNT]at e
 repeat' (first|(refine Xl (fun h=>?_) (fun h=>?_)<;>simp only[h,QN,Qa,seval])|(refine XV (fun h=>?_) (fun h=>?_)<;>simp only[h,Qn,QN,eE,seval])|(refine XW (fun h=>?_) (fun h=>?_)<;>simp only[h,Qn,QN,eE,seval]))
 all_goals(simp only[*,QNG,QNU,QNT]at e;simp only[e])

theorem z77 (s:List UInt8):Qp Tryz.prog 77 [.str s] (.bool (Xx s)):=by
 refine k77.fn (by simp) ?_;simp only[Xx,Qa,seval];refine Qb (Pp s) rfl rfl rfl (.inl rfl) ?_;cases QX s
 ·simp only[QNw,Qa,seval]
 ·simp only[QND,Qa,seval];refine Qb (Qr1 s) rfl rfl rfl (.inl rfl) ?_;simp only[Qa,seval]

def FuI (s:List UInt8)(k:Nat)(st:St):Prop :=
 ∃f i p,st=⟨f,[Qc],[]⟩∧k=s.length-i∧i≤s.length∧p.length≤i∧(∀c∈p,c≠(46:UInt8))∧(Qk s).all QX=(Qk (p++s.drop i)).all QX∧f 0=.str s∧f 3=.str p∧f 4=.int .i64 (i:Nat)

theorem QGX (s:List UInt8):Qp Tryz.prog 124 [.str s] (.bool (decide (s.length≤120)&&(Qk s).all QX)):=by
 refine QDn.fn (by simp) ?_;simp only[Qa,seval];by_cases hm:s.length≤120
 case neg=>
  have d1:decide ((s.length:Int) > 120)=true:=QNQ (by omega);simp only[d1,QNM hm,QNw,Qa,seval]
 have d1:decide ((s.length:Int) > 120)=false:=QNM (by omega);simp only[d1,QNQ hm,QND,Qa,seval];refine Qf (FuI s) _ ⟨_,0,[],rfl,rfl,QMd _,QL3 _,by simp,rfl,(by rfl),(by rfl),(by rfl)⟩ ?_;rintro _ st ⟨f,i,p,rfl,rfl,hi,hpl,hpd,hx,h0,h3,h4⟩;simp only[h0,h4,Qa,seval];by_cases hlt:i<s.length
 ·obtain⟨c,hc⟩:∃c,s[i]? = some c:=⟨s[i],QL6 hlt⟩;have e1:=Qq i _ hlt (by simp only[maxLen];omega);have hd:s.drop i=c :: s.drop (i+1):=by
   rw[QMN hlt];congr 1
   exact(QL5.1 hc).2
  have hts:(s.drop i).take (i+1-i)=[c]:=by
   rw[hd,show i+1-i=1 by omega];rfl
  simp only[Qo hlt,Qm,QNt,hc,h0,h4,Qa,seval];by_cases hdot:c=46
  ·subst hdot;have b0:((((46:UInt8).toNat:Nat):Int) != 46)=false:=rfl;have hs:(Qk s).all QX=(QX p&&(Qk (s.drop (i+1))).all QX):=by
    rw[hx,hd,HC hpd];rfl
   simp only[h3,Qa,seval];refine Qb (Pp p) rfl rfl rfl (.inl rfl) ?_;cases hp:QX p
   ·rw[hp,QNw]at hs;simp only[hs,QNb,Qa,seval]
   ·rw[hp,QND]at hs;simp only[h4,e1,QNE,Qa,seval];exact⟨s.length-(i+1),by omega,_,i+1,[],rfl,rfl,by omega,QMd _,by simp,by rw[hs];rfl,(by exact h0),(by rfl),(by rfl)⟩
  ·have b0:(((c.toNat:Nat):Int) != 46)=true:=by
    rw[QMv];intro h
    apply hdot
    rw[←UInt8.toNat_inj];have:c.toNat=46:=by omega
    rw[this];rfl
   have hle:(i≤i+1∧i+1≤s.length)=True:=eq_true ⟨by omega,by omega⟩;have hsum:(p.length≤9223372036854775806)=True:=eq_true (by omega);simp only[b0,h0,h3,h4,e1,ZC,Zi,Q5,Qm,QNt,hle,hts,QN,hsum,Qa,seval];exact⟨s.length-(i+1),by omega,_,i+1,p++[c],rfl,rfl,by omega,by simp;omega,fun x hx=>by
    rcases QNk.1 hx with h|h
    ·exact hpd x h
    ·simp at h;subst h;exact hdot,by rw[hx,hd];simp,(by exact h0),(by rfl),(by rfl)⟩
 ·have hx':(Qk s).all QX=QX p:=by
   rw[hx,QMG (by omega),QM7,Wa hpd];simp
  simp only[QE hlt,h3,hx',Qa,seval];refine Qb (Pp p) rfl rfl rfl (.inl rfl) ?_;simp only[Qa,seval]

def Wn (s:List UInt8):Nat→Option Nat
 |0=>none
 |j+1=>if s[j]? = some 46 then some j else Wn s j

theorem YB (s:List UInt8):∀n,match Wn s n with
  |none=>∀k,k<n→s[k]?≠some 46
  |some j=>j<n∧s[j]? = some 46∧∀k,j<k→k<n→s[k]?≠some 46
 |0=>by simp[Wn]
 |n+1=>by
  unfold Wn;split
  ·rename_i h;split at h
   ·cases h
   ·rename_i h';have:=YB s n;rw[h]at this;intro k hk;rcases Nat.lt_succ_iff_lt_or_eq.1 hk with h1|rfl
    ·exact this k h1
    ·exact h'
  ·rename_i j h;split at h
   ·rename_i h';cases h;exact⟨by omega,h',fun k h1 h2=>by omega⟩
   ·rename_i h';have:=YB s n;rw[h]at this;exact⟨by omega,this.2.1,fun k h1 h2=>by
     rcases Nat.lt_succ_iff_lt_or_eq.1 h2 with h3|rfl
     ·exact this.2.2 k h1 h3
     ·exact h'⟩

def Zw (s:List UInt8):List UInt8×List UInt8:=match Wn s s.length with
 |none=>([],s)
 |some j=>(s.take j,s.drop (j+1))

theorem FA (s:List UInt8):((Zw s).1=[]∧(Zw s).2=s∧∀c∈s,c≠46)∨(s=(Zw s).1++46 :: (Zw s).2∧∀c∈(Zw s).2,c≠46):=by
 have h:=YB s s.length;unfold Zw;cases hl:Wn s s.length with
 |none=>
  rw[hl]at h;refine .inl ⟨rfl,rfl,fun c hc e=>?_⟩;subst e;obtain⟨k,hk⟩:=QMg.1 hc;exact h k (QL5.1 hk).1 hk
 |some j=>
  rw[hl]at h;obtain⟨h1,h2,h3⟩:=h;refine .inr ⟨?_,fun c hc e=>?_⟩
  ·have:s[j]=46:=(QL5.1 h2).2;show s=s.take j++46 :: s.drop (j+1);rw[←this,←QMN h1,QNi]
  ·subst e;obtain⟨k,hk⟩:=QMg.1 hc;rw[QMJ]at hk;exact h3 (j+1+k) (by omega) (QL5.1 hk).1 hk

def SdI (s:List UInt8)(k:Nat)(st:St):Prop :=
 ∃f,st=⟨f,[Qc],[]⟩∧k≤s.length∧Wn s s.length=Wn s k∧f 0=.str s∧f 4=.int .i64 ((k:Int)-1)

theorem QGY (s:List UInt8)(hs:s.length≤120):Qp Tryz.prog 125 [.str s] (.tup [.str (Zw s).1,.str (Zw s).2]):=by
 refine QDq.fn (by simp) ?_;have w0:IntKind.i64.wrap ((s.length:Int)-1)=(s.length:Int)-1:=by rw[QF];omega
 simp only[w0,Qa,seval];refine Qf (SdI s) _ ⟨_,rfl,QL3 _,rfl,(by rfl),(by rfl)⟩ ?_;rintro k st ⟨f,rfl,hk,hx,h0,h4⟩;simp only[h4,Qa,seval];cases k with
 |zero=>
  have d0:decide (((0:Nat):Int)-1≥0)=false:=rfl;have e:Zw s=([],s):=by unfold Zw;rw[hx];rfl
  simp only[e,h0,Qa,seval]
 |succ j=>
  have j1:((j+1:Nat):Int)-1=(j:Int):=by omega
  have d0:decide (((j:Nat):Int)≥0)=true:=QNQ (by omega);have w1:IntKind.i64.wrap ((j:Int)-1)=(j:Int)-1:=by rw[QF];omega
  have w2:IntKind.i64.wrap ((j:Int)+1)=((j+1:Nat):Int):=by rw[QF];omega
  obtain⟨c,hc⟩:∃c,s[j]? = some c:=⟨s[j]'(by omega),QL6 (by omega)⟩;simp only[j1,Qm,QNt,hc,h0,h4,Qa,seval];by_cases hdot:c=46
  ·subst hdot;have b0:((((46:UInt8).toNat:Nat):Int)==46)=true:=rfl;have e:Zw s=(s.take j,s.drop (j+1)):=by
    unfold Zw;rw[hx];show(match (if s[j]? = some 46 then some j else Wn s j)with|none=>([],s)|some j=>(s.take j,s.drop (j+1)))=_;rw[QMy hc]
   have hle:(0≤j∧j≤s.length)=True:=eq_true ⟨by omega,by omega⟩;have hle2:(j+1≤s.length∧s.length≤s.length)=True:=eq_true ⟨by omega,QL3 _⟩;have ht:((s.drop 0).take j)=s.take j:=by simp
   have ht2:((s.drop (j+1)).take (s.length-(j+1)))=s.drop (j+1):=QMD (by simp);simp only[w2,j1,e,ZC,Zi,Q5,QNl,Qm,QNt,hle,hle2,ht2,h0,h4,Qa,seval]
  ·have b0:(((c.toNat:Nat):Int)==46)=false:=by
    rw[QNI];intro h
    apply hdot
    rw[←UInt8.toNat_inj];have:c.toNat=46:=by omega
    rw[this];rfl
   have hne:¬s[j]? = some 46:=fun h=>by rw[hc]at h;cases h;exact hdot rfl
   simp only[b0,j1,w1,h4,Qa,seval];exact⟨j,by omega,_,rfl,by omega,by rw[hx];show(if s[j]? = some 46 then some j else Wn s j)=_;rw[QMj hne],(by exact h0),(by rfl)⟩

def C8 (u:List UInt8):Bool:=if u=[]then false else(Qk u).any X5

def DfI (s:List UInt8)(k:Nat)(st:St):Prop :=
 ∃f u,st=⟨f,[Qc],[]⟩∧k=u.length∧u.length≤120∧(u≠[]→(Qk u).all QX=true)∧(Qk s).any X5=C8 u∧f 0=.str u

theorem z76 (s:List UInt8):Qp Tryz.prog 76 [.str s] (.bool (JG s)):=by
 refine k76.fn (by simp) ?_;simp only[JG,Qa,seval];refine Qb (QGX s) rfl rfl rfl (.inl rfl) ?_;cases hf:(decide (s.length≤120)&&(Qk s).all QX)
 ·simp only[QNw,QNb,Qa,seval]
 simp only[QND,QNE,Qa,seval];obtain⟨hl,ha⟩:=QL7.1 hf;have hl:=of_decide_eq_true hl;have hne:s≠[]:=by
  rintro rfl;cases ha
 refine Qf (DfI s) _ ⟨_,s,rfl,rfl,hl,fun _=>ha,by unfold C8;rw[QMj hne],(by rfl)⟩ ?_;rintro _ st ⟨f,u,rfl,rfl,hul,hua,hx,h0⟩;simp only[h0,QN,Qa,seval];by_cases hu:u=[]
 ·subst hu;have b0:(!(([]:List UInt8)==[]))=false:=rfl;have e:(Qk s).any X5=false:=hx;simp only[b0,e,QNb,Qa,seval]
 ·have b0:(!(u==[]))=true:=by simp[hu]
  simp only[b0,h0,Qa,seval];refine Qb (QGY u hul) rfl rfl rfl (.inl rfl) ?_;simp only[Qa,seval];refine Qb (Qr1 (Zw u).2) rfl rfl rfl (.inl rfl) ?_;have hw:C8 u=(C8 (Zw u).1||X5 (Zw u).2):=by
   unfold C8;rw[QMj hu];rcases FA u with⟨h1,h2,h3⟩|⟨h1,h2⟩
   ·rw[h1,h2,QMy rfl,Wa h3];simp
   ·have hp:Qk u=Qk (Zw u).1++[(Zw u).2]:=by
     conv=>lhs;rw[h1]
     exact HD h2
    have ha':=hua hu;rw[hp,QNj,QMt]at ha';have hn:(Zw u).1≠[]:=by
     intro h;rw[h]at ha';cases ha'.1
    rw[QMj hn,hp];simp
  cases hq:X5 (Zw u).2
  ·rw[hq,QNT]at hw;simp only[Qa,seval];have hlen:(Zw u).1.length<u.length∧((Zw u).1≠[]→(Qk (Zw u).1).all QX=true):=by
    rcases FA u with⟨h1,h2,h3⟩|⟨h1,h2⟩
    ·rw[h1];exact⟨QNn.2 hu,fun h=>absurd rfl h⟩
    ·have hp:Qk u=Qk (Zw u).1++[(Zw u).2]:=by
      conv=>lhs;rw[h1]
      exact HD h2
     have ha':=hua hu;rw[hp,QNj,QMt]at ha';refine⟨?_,fun _=>ha'.1⟩;have:=congrArg List.length h1;simp at this;omega
   exact⟨(Zw u).1.length,hlen.1,_,(Zw u).1,rfl,rfl,by omega,hlen.2,by rw[hx,hw],(by rfl)⟩
  ·rw[hq,QNU]at hw;have e:(Qk s).any X5=true:=hx.trans hw;simp only[e,QNE,Qa,seval]

theorem Xe {α:Type}{l:List α}{q:α→Bool}:(l.any fun x=>!q x)=!l.all q:=by
 induction l with
 |nil=>rfl
 |cons x l ih=>simp[ih]

theorem Qr2 (s:List UInt8)(hs:s.length≤17592186044000):Qp Tryz.prog 207 [.str s,.str [46]] (.list ((Qk s).map X8)):=by
 refine QgT.fn (by simp) ?_;simp only[Qa,seval];refine Qb (QGW s hs) rfl rfl rfl (.inl rfl) ?_;simp only[Qa,seval]

def IfI (s:List UInt8)(k:Nat)(st:St):Prop :=
 ∃f i,st=⟨f,[Qc],[]⟩∧k=(Qk s).length-i∧((Qk s).take i).all QX=true∧f 0=.str s∧f 6=.list ((Qk s).map X8)∧f 7=.int .i64 ((Qk s).length:Nat)∧f 8=.int .i64 (i:Nat)

theorem QGZ (s:List UInt8)(hs:s.length≤17592186044000):Qp Tryz.prog 205 [.str s] (.bool (decide (s.length≤120)&&(Qk s).all QX)):=by
 have hl:=Yz s;have hc:s.count 46≤s.length:=List.count_le_length;refine QgJ.fn (by simp) ?_;simp only[Qa,seval];refine Qb (Qr2 s hs) rfl rfl rfl (.inl rfl) ?_;simp only[QMZ,Qa,seval];refine Qf (IfI s) _ ⟨_,0,rfl,rfl,rfl,(by rfl),(by rfl),(by rfl),(by rfl)⟩ ?_;rintro _ st ⟨f,i,rfl,rfl,hx,h0,h6,h7,h8⟩;simp only[h7,h8,Qa,seval];by_cases hlt:i<(Qk s).length
 ·obtain⟨x,hi⟩:∃x,(Qk s)[i]? = some x:=⟨(Qk s)[i],QL6 hlt⟩;have hg:((Qk s).map X8)[i]? = some (.str x):=by simp[hi,X8]
  have e1:=Qq i _ hlt (by simp only[maxLen];omega);have ht:=Q1 (q:=QX) hi;rw[hx,QND]at ht;simp only[Qo hlt,Qm,QNt,Qd,hg,h6,h8,eE,seval];refine Qb (QrX x) rfl rfl rfl (.inl rfl) ?_;cases hp:QX x
  ·have hf:(Qk s).all QX=false:=by
    rw[QNO];intro h';rw[QMh.1 h' x (QMi hi)]at hp;cases hp
   simp only[hf,QNb,QNS,Qa,seval]
  ·rw[hp]at ht;simp only[h8,e1,QNE,Qa,seval];exact⟨(Qk s).length-(i+1),by omega,_,i+1,rfl,rfl,ht,(by exact h0),(by exact h6),(by exact h7),(by rfl)⟩
 ·rw[QMD (by omega)]at hx;have e:decide ((s.length:Int)≤120)=decide (s.length≤120):=by rw[decide_eq_decide];omega
  simp only[QE hlt,h0,hx,e,QNf,Qa,seval]

theorem QzD (s:List UInt8)(m:Ql):Qh Tryz.prog 208 [X8 s] m fun y m1=>y=.bool (X5 s)∧m1=m:=by
 refine M7.go (by simp) ?_;simp only[X8,QN,Qa,seval];have e:X5 s=WV.any fun w=>s==w:=rfl
 simp only[WV,List.any_cons,List.any_nil,QNT]at e
 repeat' (first|(refine Xl (fun h=>?_) (fun h=>?_)<;>simp only[h,QN,Qa,seval])|(refine XV (fun h=>?_) (fun h=>?_)<;>simp only[h,Qn,QN,eE,seval])|(refine XW (fun h=>?_) (fun h=>?_)<;>simp only[h,Qn,QN,eE,seval]))
 all_goals(simp only[*,QNG,QNU,QNT]at e;simp only[e])

theorem Qr3 (s:List UInt8):Qp Tryz.prog 141 [.str s] (.bool (Xx s)):=by
 refine Qcs.fn (by simp) ?_;simp only[Xx,Qa,seval];refine Qb (QrX s) rfl rfl rfl (.inl rfl) ?_;cases QX s
 ·simp only[QNw,Qa,seval]
 ·simp only[QND,Qa,seval];refine Qb (QGR s) rfl rfl rfl (.inl rfl) ?_;simp only[Qa,seval]

theorem Qr4 (s:List UInt8)(hs:s.length≤17592186044000):Qp Tryz.prog 138 [.str s] (.bool (JG s)):=by
 have hl:=Yz s;have hc:s.count 46≤s.length:=List.count_le_length;refine Qcd.fn (by simp) ?_;simp only[JG,Qa,seval];refine Qb (QGZ s hs) rfl rfl rfl (.inl rfl) ?_;cases hf:(decide (s.length≤120)&&(Qk s).all QX)
 ·simp only[QNw,Qa,seval]
 ·simp only[QND,Qa,seval];refine Qb (Qr2 s hs) rfl rfl rfl (.inl rfl) ?_;simp only[Qa,seval];refine Qi (QGL (Qk s) (by simp only[maxLen];omega) X5 208 [] _ fun o _=>QzD o _) (by simp only[QMB,QM5,Qa,seval]<;>rfl) ?_;simp only[Qa,seval]

section
variable (m:Ql)

theorem QG0 (g:PG):Qh Tryz.prog 134 [Qj g] m fun y m1=>y=.bool (!ZH g)∧m1=m:=by
 refine QbY.go (by simp) ?_;have e:decide ((g.ops.length:Int) > 64)=!ZH g:=by unfold ZH;exact(by rw[QMY];simp only[QMa,QM2,QNR];omega)
 simp only[Qj,PG.cells,QMZ,e,eE,seval]

theorem QG1 (x:PE):Qh Tryz.prog 136 [Qt x] m fun y m1=>y=.bool (!Je x)∧m1=m:=by
 refine QDO.go (by simp) ?_;have e1:decide ((x.items.length:Int)<1)=!decide (1≤x.items.length):=(by rw[QMY];simp only[QMa,QM2,QNR];omega);have e2:decide ((x.items.length:Int) > 64)=!decide (x.items.length≤64):=(by rw[QMY];simp only[QMa,QM2,QNR];omega);have e3:decide ((x.free.length:Int) > 16)=!decide (x.free.length≤16):=(by rw[QMY];simp only[QMa,QM2,QNR];omega);simp only[Qt,PE.cells,QMZ,e1,Je,eE,seval];cases a1:decide (1≤x.items.length)<;>cases a2:decide (x.items.length≤64)<;>cases a3:decide (x.free.length≤16)<;>simp only[a2,a3,QNE,QNb,QNf,QNS,QMZ,e2,e3,eE,seval]

theorem QG2 (o:PO):Qh Tryz.prog 140 [QA o] m fun y m1=>y=.bool (!Xx o.name)∧m1=m:=by
 refine Qcn.go (by simp) ?_;simp only[QA,PO.cells,eE,seval];refine Qb (Qr3 o.name) rfl rfl rfl (.inl rfl) ?_;simp only[Qa,seval]

theorem QG3 (o:PI):Qh Tryz.prog 144 [Q0 o] m fun y m1=>y=.bool (!Xx o.name)∧m1=m:=by
 refine QDX.go (by simp) ?_;simp only[Q0,PI.cells,eE,seval];refine Qb (Qr3 o.name) rfl rfl rfl (.inl rfl) ?_;simp only[Qa,seval]

theorem QG4 (g:PG)(hs:g.name.length≤17592186044000)(hl:g.ops.length≤maxLen):Qh Tryz.prog 137 [Qj g] m fun y m1=>y=.bool (!JW g)∧m1=m:=by
 refine Qb8.go (by simp) ?_;simp only[Qj,PG.cells,JW,eE,seval];refine Qb (Qr4 g.name hs) rfl rfl rfl (.inl rfl) ?_;cases JG g.name
 ·simp only[QNw,QNb,Qa,seval]
 ·simp only[QND,QNE,eE,seval];refine Qi (Fw g.ops hl (fun o=>!Xx o.name) 140 [] _ fun o _=>QG2 _ o) (by simp only[QMB,QM5,Qa,seval]<;>rfl) ?_;simp only[Xe,Qa,seval]

theorem QG5 (x:PE)(hs:x.name.length≤17592186044000)(hl:x.items.length≤maxLen):Qh Tryz.prog 142 [Qt x] m fun y m1=>y=.bool (!Kh x)∧m1=m:=by
 refine QDR.go (by simp) ?_;simp only[Qt,PE.cells,Kh,eE,seval];refine Qb (Qr4 x.name hs) rfl rfl rfl (.inl rfl) ?_;cases JG x.name
 ·simp only[QNw,QNb,Qa,seval]
 ·simp only[QND,QNE,eE,seval];refine Qi (N2 x.items hl (fun o=>!Xx o.name) 144 [] _ fun o _=>QG3 _ o) (by simp only[QMB,QM5,Qa,seval]<;>rfl) ?_;simp only[Xe,Qa,seval]

theorem QG6 (x y:PG):Qh Tryz.prog 146 [Qj x,Qj y] m fun r m1=>r=.bool ((Xy PG.name) x y)∧m1=m:=by
 refine QD0.go (by simp) ?_;simp only[Qj,PG.cells,QN,Xy,eE,seval]

theorem QG7 (x y:PE):Qh Tryz.prog 148 [Qt x,Qt y] m fun r m1=>r=.bool ((Xy PE.name) x y)∧m1=m:=by
 refine QD3.go (by simp) ?_;simp only[Qt,PE.cells,QN,Xy,eE,seval]

theorem QG8 (x y:PO):Qh Tryz.prog 151 [QA x,QA y] m fun r m1=>r=.bool ((XY PO.num) x y)∧m1=m:=by
 refine Qc9.go (by simp) ?_;simp only[QA,PO.cells,XY,eE,seval]

theorem QG9 (x y:PI):Qh Tryz.prog 154 [Q0 x,Q0 y] m fun r m1=>r=.bool ((XY PI.num) x y)∧m1=m:=by
 refine QEc.go (by simp) ?_;simp only[Q0,PI.cells,XY,eE,seval]

theorem QHa (g:PG)(hl:g.ops.length≤maxLen):Qh Tryz.prog 149 [Qj g] m fun y m1=>y=.bool (!ZZ g)∧m1=m:=by
 refine QcT.go (by simp) ?_;simp only[Qj,PG.cells,ZZ,eE,seval];refine Qi (QGN g.ops hl (XY PO.num) 151 [] _ fun x _ y _=>QG8 _ x y) (by simp only[QMB,QM5,Qa,seval]<;>rfl) ?_;simp only[Qa,seval]

theorem QHb (x:PE)(hl:x.items.length≤maxLen):Qh Tryz.prog 152 [Qt x] m fun y m1=>y=.bool (!Jq x)∧m1=m:=by
 refine QD6.go (by simp) ?_;simp only[Qt,PE.cells,Jq,eE,seval];refine Qi (QGP x.items hl (XY PI.num) 154 [] _ fun x _ y _=>QG9 _ x y) (by simp only[QMB,QM5,Qa,seval]<;>rfl) ?_;simp only[Qa,seval]

end

section
variable {M:Nat}(P:PL)(hP:P.ok M)(hM:M≤17592186044000)
include hP hM

omit hM in
theorem z83:Qp Tryz.prog 83 [P.av] (.bool (!Us P)):=by
 have e0:P.av=.agg [.list (P.progs.map Qj),.list (P.enums.map Qt)]:=rfl;have e1:decide ((if (P.progs.length:Int)<(P.enums.length:Int)then(P.enums.length:Int)else(P.progs.length:Int)) > 64)=!(decide (P.progs.length≤64)&&decide (P.enums.length≤64)):=by
  rw[Bool.not_and];split<;>exact(by rw[QMY];simp only[QMa,QM2,QNR,QL9];omega)
 refine k83.fn (by simp) ?_;simp only[e0,QMZ,e1,Us,eE,seval];cases(decide (P.progs.length≤64)&&decide (P.enums.length≤64))
 ·simp only[QNb,QNw,Qa,seval]
 simp only[QNE,QND,eE,seval];refine Qi (Gz P.progs hP.len1 (fun g=>!ZH g) 134 [] _ fun o _=>QG0 _ o) (by simp only[QMB,QM5,Qa,seval]<;>rfl) ?_;simp only[Xe,Qa,seval];cases P.progs.all ZH
 ·simp only[QNb,QNw,Qa,seval]
 simp only[QNE,QND,eE,seval];refine Qi (UI P.enums hP.len2 (fun g=>!Je g) 136 [] _ fun o _=>QG1 _ o) (by simp only[QMB,QM5,Qa,seval]<;>rfl) ?_;simp only[Xe,Qa,seval]

omit hM in
theorem QHc (hN1:∀g∈P.progs,g.name.length≤17592186044000)(hN2:∀g∈P.enums,g.name.length≤17592186044000):Qp Tryz.prog 84 [P.av] (.bool (!Ft P)):=by
 have e0:P.av=.agg [.list (P.progs.map Qj),.list (P.enums.map Qt)]:=rfl;refine k84.fn (by simp) ?_;simp only[e0,Ft,eE,seval];refine Qi (Gz P.progs hP.len1 (fun g=>!JW g) 137 [] _ fun o ho=>QG4 _ o (hN1 o ho) (hP.progs o ho).len) (by simp only[QMB,QM5,Qa,seval]<;>rfl) ?_;simp only[Xe,Qa,seval];cases P.progs.all JW
 ·simp only[QNb,QNw,Qa,seval]
 simp only[QNE,QND,eE,seval];refine Qi (UI P.enums hP.len2 (fun g=>!Kh g) 142 [] _ fun o ho=>QG5 _ o (hN2 o ho) (hP.enums o ho).len1) (by simp only[QMB,QM5,Qa,seval]<;>rfl) ?_;simp only[Xe,Qa,seval]

omit hM in
theorem z85:Qp Tryz.prog 85 [P.av] (.bool (!Ut P)):=by
 have e0:P.av=.agg [.list (P.progs.map Qj),.list (P.enums.map Qt)]:=rfl;refine k85.fn (by simp) ?_;simp only[e0,Ut,eE,seval];refine Qi (QGM P.progs hP.len1 (Xy PG.name) 146 [] _ fun x _ y _=>QG6 _ x y) (by simp only[QMB,QM5,Qa,seval]<;>rfl) ?_;simp only[Qa,seval];cases XH P.progs (Xy PG.name)
 ·simp only[QNb,QNw,Qa,seval]
 simp only[QNE,QND,eE,seval];refine Qi (QGO P.enums hP.len2 (Xy PE.name) 148 [] _ fun x _ y _=>QG7 _ x y) (by simp only[QMB,QM5,Qa,seval]<;>rfl) ?_;simp only[Qa,seval];cases XH P.enums (Xy PE.name)
 ·simp only[QNb,QNw,Qa,seval]
 simp only[QNE,QND,eE,seval];refine Qi (Gz P.progs hP.len1 (fun g=>!ZZ g) 149 [] _ fun o ho=>QHa _ o (hP.progs o ho).len) (by simp only[QMB,QM5,Qa,seval]<;>rfl) ?_;simp only[Xe,Qa,seval];cases P.progs.all ZZ
 ·simp only[QNb,QNw,Qa,seval]
 simp only[QNE,QND,eE,seval];refine Qi (UI P.enums hP.len2 (fun g=>!Jq g) 152 [] _ fun o ho=>QHb _ o (hP.enums o ho).len1) (by simp only[QMB,QM5,Qa,seval]<;>rfl) ?_;simp only[Xe,Qa,seval]

end

theorem R8 (n c:Nat):AV.shN n (.fn (.func c) [] [])=.fn (.func c) [] []:=by
 induction n with
 |zero=>rfl
 |succ n ih=>rw[AV.shN,ih];rfl

theorem QHd (nm:PO→List UInt8)(c:Nat)(hn:∀x,Qp Tryz.prog c [QA x] (.str (nm x)))(y x:PO)(fr:Nat→Ob)(m:Ql)(h3:fr 3=.cells [.fn (.func c) [] []])(h6:fr 6=.cells x.cells) :
  Qh Tryz.prog 212 [QA y,.ptr 3 3 0,.ptr 3 6 0] (Qc :: Qc :: Qc :: fr :: m) fun r m1=>r=.bool (nm y==nm x)∧m1=Qc :: Qc :: Qc :: fr :: m:=by
 have hy:=hn y;have hx:=hn x;have g3:∀n,AV.shN n (.fn (.func c) [] [])=.fn (.func c) [] []:=fun n=>R8 n c
 simp only[QA,PO.cells]at hy hx h6;refine Qhr.go (by simp) ?_;simp only[QA,PO.cells,h3,g3,eE,seval];refine JF (fa:=[]) (fb:=[]) (by rfl) hy rfl rfl rfl (.inl rfl) ?_;simp only[h3,h6,g3,eE,seval];refine JF (fa:=[]) (fb:=[]) (by rfl) hx rfl rfl rfl (.inl rfl) ?_;simp only[QN,Qa,seval]

section
variable (L:List PO)(hl:L.length≤maxLen)(nm:PO→List UInt8)(c:Nat)(m:Ql)

def ReO (k:Nat)(st:St):Prop :=
 ∃f fr i,st=⟨f,fr :: m,[]⟩∧k=L.length-i∧Qz (uniq L nm) i=true∧f 0=.list (L.map QA)∧f 3=.ptr 0 3 0∧f 7=.list (L.map QA)∧f 8=.int .i64 (L.length:Nat)∧f 9=.int .i64 (i:Nat)∧fr 3=.cells [.fn (.func c) [] []]∧∀s∈[6],(fr s).isRow=false

include hl in
theorem QHe (hn:∀x,Qp Tryz.prog c [QA x] (.str (nm x))) :
  Qh Tryz.prog 157 [.list (L.map QA),.fn (.func c) [] []] m fun y m1=>y=.bool (!JU L nm)∧m1=m:=by
 refine Qdq.go (by simp) ?_;simp only[QMZ,eE,seval];refine Qf (ReO L nm c m) _ ⟨_,_,0,rfl,rfl,rfl,(by rfl),(by rfl),(by rfl),(by rfl),(by rfl),(by rfl),by simp<;>rfl⟩ ?_;rintro _ st ⟨f0,fr0,i,rfl,rfl,hx,h00,h30,h70,h80,h90,m30,r6⟩;refine QM (a:=_) [6] r6 ?_;intro f fr hf hm hn6;have h0:f 0=.list (L.map QA):=by rw[hf,h00]<;>rfl
 have h3:f 3=.ptr 0 3 0:=by rw[hf,h30]<;>rfl
 have h7:f 7=.list (L.map QA):=by rw[hf,h70]<;>rfl
 have h8:f 8=.int .i64 (L.length:Nat):=by rw[hf,h80]<;>rfl
 have h9:f 9=.int .i64 (i:Nat):=by rw[hf,h90]<;>rfl
 have m3:fr 3=.cells [.fn (.func c) [] []]:=by rw[hm 3 (by decide),m30]<;>rfl
 have n6:=hn6 6 (by decide);clear hf hm hn6 h00 h30 h70 h80 h90 m30 r6;simp only[h8,h9,Qa,seval];by_cases hlt:i<L.length
 ·obtain⟨x,hi⟩:∃x,L[i]? = some x:=⟨L[i],QL6 hlt⟩;have hg:(L.map QA)[i]? = some (QA x):=by simp[hi]
  have e1:=Qq i _ hlt hl;have hle:(i≤L.length)=True:=eq_true (by omega);have ht:((L.map QA).drop 0).take (i-0)=(L.take i).map QA:=by simp
  have hstep:Qz (uniq L nm) (i+1)=!(L.take i).any fun y=>nm y==nm x:=by
   rw[Qz,hx,QND,YZ hi,Gy]
  have hcl:=fun(fr:Nat→Ob) (h3:fr 3=.cells [.fn (.func c) [] []]) (h6:fr 6=.cells x.cells)=>Fw (L.take i) (by simp;omega) (fun y=>nm y==nm x) 212 [.ptr 0 3 0,.ptr 0 6 0] (fr :: m) fun y _=>QHd nm c hn y x fr m h3 h6
  simp only[Qo hlt,Qm,QNt,Qd,hg,QA,PO.cells,n6,h0,h7,h9,ZC,Zi,Q5,QNA,QMZ,QMd,QL3,hle,true_or,QNl,←List.map_take,eE,seval];refine Qi (hcl _ (by exact m3) (by rfl)) (by simp only[QMB,QM5,h3,Qa,seval]<;>rfl) ?_;cases hp:(L.take i).any fun y=>nm y==nm x
  ·rw[hp]at hstep;simp only[h9,e1,Qa,seval];exact⟨L.length-(i+1),by omega,_,_,i+1,rfl,rfl,hstep,(by exact h0),(by exact h3),(by exact h7),(by exact h8),(by rfl),(by exact m3),by simp<;>rfl⟩
  ·rw[hp]at hstep;have hf:JU L nm=false:=by
    rw[QNO];intro h';rw[QG.2 fun k hk=>QG.1 h' k (by omega)]at hstep;cases hstep
   simp only[hf,QNb,Qa,seval]
 ·have hf:JU L nm=true:=QG.2 fun k hk=>QG.1 hx k (by omega)
  simp only[QE hlt,hf,QNE,Qa,seval]

end

theorem QHf (nm:PI→List UInt8)(c:Nat)(hn:∀x,Qp Tryz.prog c [Q0 x] (.str (nm x)))(y x:PI)(fr:Nat→Ob)(m:Ql)(h3:fr 3=.cells [.fn (.func c) [] []])(h6:fr 6=.cells x.cells) :
  Qh Tryz.prog 213 [Q0 y,.ptr 3 3 0,.ptr 3 6 0] (Qc :: Qc :: Qc :: fr :: m) fun r m1=>r=.bool (nm y==nm x)∧m1=Qc :: Qc :: Qc :: fr :: m:=by
 have hy:=hn y;have hx:=hn x;have g3:∀n,AV.shN n (.fn (.func c) [] [])=.fn (.func c) [] []:=fun n=>R8 n c
 simp only[Q0,PI.cells]at hy hx h6;refine QE3.go (by simp) ?_;simp only[Q0,PI.cells,h3,g3,eE,seval];refine JF (fa:=[]) (fb:=[]) (by rfl) hy rfl rfl rfl (.inl rfl) ?_;simp only[h3,h6,g3,eE,seval];refine JF (fa:=[]) (fb:=[]) (by rfl) hx rfl rfl rfl (.inl rfl) ?_;simp only[QN,Qa,seval]

section
variable (L:List PI)(hl:L.length≤maxLen)(nm:PI→List UInt8)(c:Nat)(m:Ql)

def ReI (k:Nat)(st:St):Prop :=
 ∃f fr i,st=⟨f,fr :: m,[]⟩∧k=L.length-i∧Qz (uniq L nm) i=true∧f 0=.list (L.map Q0)∧f 3=.ptr 0 3 0∧f 7=.list (L.map Q0)∧f 8=.int .i64 (L.length:Nat)∧f 9=.int .i64 (i:Nat)∧fr 3=.cells [.fn (.func c) [] []]∧∀s∈[6],(fr s).isRow=false

include hl in
theorem QHg (hn:∀x,Qp Tryz.prog c [Q0 x] (.str (nm x))) :
  Qh Tryz.prog 160 [.list (L.map Q0),.fn (.func c) [] []] m fun y m1=>y=.bool (!JU L nm)∧m1=m:=by
 refine QEl.go (by simp) ?_;simp only[QMZ,eE,seval];refine Qf (ReI L nm c m) _ ⟨_,_,0,rfl,rfl,rfl,(by rfl),(by rfl),(by rfl),(by rfl),(by rfl),(by rfl),by simp<;>rfl⟩ ?_;rintro _ st ⟨f0,fr0,i,rfl,rfl,hx,h00,h30,h70,h80,h90,m30,r6⟩;refine QM (a:=_) [6] r6 ?_;intro f fr hf hm hn6;have h0:f 0=.list (L.map Q0):=by rw[hf,h00]<;>rfl
 have h3:f 3=.ptr 0 3 0:=by rw[hf,h30]<;>rfl
 have h7:f 7=.list (L.map Q0):=by rw[hf,h70]<;>rfl
 have h8:f 8=.int .i64 (L.length:Nat):=by rw[hf,h80]<;>rfl
 have h9:f 9=.int .i64 (i:Nat):=by rw[hf,h90]<;>rfl
 have m3:fr 3=.cells [.fn (.func c) [] []]:=by rw[hm 3 (by decide),m30]<;>rfl
 have n6:=hn6 6 (by decide);clear hf hm hn6 h00 h30 h70 h80 h90 m30 r6;simp only[h8,h9,Qa,seval];by_cases hlt:i<L.length
 ·obtain⟨x,hi⟩:∃x,L[i]? = some x:=⟨L[i],QL6 hlt⟩;have hg:(L.map Q0)[i]? = some (Q0 x):=by simp[hi]
  have e1:=Qq i _ hlt hl;have hle:(i≤L.length)=True:=eq_true (by omega);have ht:((L.map Q0).drop 0).take (i-0)=(L.take i).map Q0:=by simp
  have hstep:Qz (uniq L nm) (i+1)=!(L.take i).any fun y=>nm y==nm x:=by
   rw[Qz,hx,QND,YZ hi,Gy]
  have hcl:=fun(fr:Nat→Ob) (h3:fr 3=.cells [.fn (.func c) [] []]) (h6:fr 6=.cells x.cells)=>N2 (L.take i) (by simp;omega) (fun y=>nm y==nm x) 213 [.ptr 0 3 0,.ptr 0 6 0] (fr :: m) fun y _=>QHf nm c hn y x fr m h3 h6
  simp only[Qo hlt,Qm,QNt,Qd,hg,Q0,PI.cells,n6,h0,h7,h9,ZC,Zi,Q5,QNA,QMZ,QMd,QL3,hle,true_or,QNl,←List.map_take,eE,seval];refine Qi (hcl _ (by exact m3) (by rfl)) (by simp only[QMB,QM5,h3,Qa,seval]<;>rfl) ?_;cases hp:(L.take i).any fun y=>nm y==nm x
  ·rw[hp]at hstep;simp only[h9,e1,Qa,seval];exact⟨L.length-(i+1),by omega,_,_,i+1,rfl,rfl,hstep,(by exact h0),(by exact h3),(by exact h7),(by exact h8),(by rfl),(by exact m3),by simp<;>rfl⟩
  ·rw[hp]at hstep;have hf:JU L nm=false:=by
    rw[QNO];intro h';rw[QG.2 fun k hk=>QG.1 h' k (by omega)]at hstep;cases hstep
   simp only[hf,QNb,Qa,seval]
 ·have hf:JU L nm=true:=QG.2 fun k hk=>QG.1 hx k (by omega)
  simp only[QE hlt,hf,QNE,Qa,seval]

end

theorem QHh (o:PO):Qp Tryz.prog 158 [QA o] (.str o.name):=by
 refine Qdv.fn (by simp) ?_;simp only[QA,PO.cells,eE,seval]

theorem QHi (o:PI):Qp Tryz.prog 161 [Q0 o] (.str o.name):=by
 refine QEo.fn (by simp) ?_;simp only[Q0,PI.cells,eE,seval]

theorem QHj (x:PE)(g:PG)(fr:Nat→Ob)(m:Ql)(h2:fr 2=.cells g.cells):Qh Tryz.prog 156 [Qt x,.ptr 3 2 0] (Qc :: Qc :: Qc :: fr :: m) fun y m1=>y=.bool (x.name==g.name)∧m1=Qc :: Qc :: Qc :: fr :: m:=by
 simp only[PG.cells]at h2;refine QEf.go (by simp) ?_;simp only[Qt,PE.cells,h2,QN,eE,seval]

theorem QHk (x:PE)(hl:x.items.length≤maxLen)(m:Ql):Qh Tryz.prog 159 [Qt x] m fun y m1=>y=.bool (!KO x)∧m1=m:=by
 refine QEi.go (by simp) ?_;simp only[Qt,PE.cells,KO,eE,seval];refine Qi (QHg x.items hl PI.name 161 _ QHi) (by simp only[QMB,QM5,Qa,seval]<;>rfl) ?_;simp only[Qa,seval]

section
variable {M:Nat}(P:PL)(hP:P.ok M)
include hP

theorem QHl (g:PG)(hl:g.ops.length≤maxLen)(fr:Nat→Ob)(h1:fr 1=.cells [.list (P.progs.map Qj),.list (P.enums.map Qt)]) :
  Qh Tryz.prog 155 [Qj g,.ptr 3 1 0] [Qc,Qc,Qc,fr] fun y m1=>y=.bool (!JX P g)∧m1=[Qc,Qc,Qc,fr]:=by
 have e:JX P g=(!(P.enums.any fun e=>e.name==g.name)&&JU g.ops PO.name):=by rw[JX,Gy]
 refine Qde.go (by simp) ?_;simp only[Qj,PG.cells,h1,e,eE,seval];refine Qi (UI P.enums hP.len2 (fun e=>e.name==g.name) 156 [.ptr 0 2 0] _ fun o _=>QHj o g _ _ (by rfl)) (by simp only[QMB,QM5,Qa,seval]<;>rfl) ?_;cases P.enums.any fun e=>e.name==g.name
 ·simp only[QNb,QND,eE,seval];refine Qi (QHe g.ops hl PO.name 158 _ QHh) (by simp only[QMB,QM5,Qa,seval]<;>rfl) ?_;simp only[Qa,seval]
 ·simp only[QNE,QNw,QNb,Qa,seval]

theorem z86:Qp Tryz.prog 86 [P.av] (.bool (!Fu P)):=by
 have e0:P.av=.agg [.list (P.progs.map Qj),.list (P.enums.map Qt)]:=rfl;refine k86.fn (by simp) ?_;simp only[e0,Fu,eE,seval];refine Qi (Gz P.progs hP.len1 (fun g=>!JX P g) 155 [.ptr 0 1 0] _ fun o ho=>QHl P hP o (hP.progs o ho).len _ (by rfl)) (by simp only[QMB,QM5,Qa,seval]<;>rfl) ?_;simp only[Xe,Qa,seval];cases P.progs.all (JX P)
 ·simp only[QNb,QNw,Qa,seval]
 simp only[QNE,QND,eE,seval];refine Qi (UI P.enums hP.len2 (fun g=>!KO g) 159 [] _ fun o ho=>QHk o (hP.enums o ho).len1 _) (by simp only[QMB,QM5,Qa,seval]<;>rfl) ?_;simp only[Xe,Qa,seval]

end

theorem QHm (x:PS)(n:Int)(fr:Nat→Ob)(m:Ql)(h3:fr 3=.cells [.int .i64 n]):Qh Tryz.prog 247 [XT x,.ptr 2 3 0] (Qc :: Qc :: fr :: m) fun y m1=>y=.bool (decide (x.lo≤n)&&decide (n≤x.hi))∧m1=Qc :: Qc :: fr :: m:=by
 refine QFE.go (by simp) ?_;simp only[XT,PS.cells,h3,eE,seval];cases h:decide (x.lo≤n)<;>simp only[h3,QND,QNw,eE,seval]

theorem QHn (L:List PS)(hl:L.length≤maxLen)(n:Int):Qp Tryz.prog 215 [.list (L.map XT),.int .i64 n] (.bool (kept L n)):=by
 refine QE9.fn (by simp) ?_;simp only[eE,seval];refine Qi (QGJ L hl (fun x=>decide (x.lo≤n)&&decide (n≤x.hi)) 247 [.ptr 0 3 0] _ fun o _=>QHm o n _ _ (by rfl)) (by simp only[QMB,QM5,Qa,seval]<;>rfl) ?_;simp only[kept,Qa,seval]

theorem QHo (o:PO)(m:Ql):Qh Tryz.prog 163 [QA o] m fun y m1=>y=.bool (!Za o)∧m1=m:=by
 refine QdF.go (by simp) ?_;have e1:decide (o.num<1)=!decide (o.num≥1):=(by rw[QMY];simp only[QMa,QM2,QNR];omega);have e2:decide (o.num > 65535)=!decide (o.num≤65535):=(by rw[QMY];simp only[QMa,QM2,QNR];omega);simp only[QA,PO.cells,Za,e1,eE,seval];cases decide (o.num≥1)<;>simp only[QNE,QNb,QND,QNw,e2,eE,seval]

theorem QHp (g:PG)(hl:g.ops.length≤maxLen)(m:Ql):Qh Tryz.prog 162 [Qj g] m fun y m1=>y=.bool (!g.ops.all Za)∧m1=m:=by
 refine QdA.go (by simp) ?_;simp only[Qj,PG.cells,eE,seval];refine Qi (Fw g.ops hl (fun o=>!Za o) 163 [] _ fun o _=>QHo o _) (by simp only[QMB,QM5,Qa,seval]<;>rfl) ?_;simp only[Xe,Qa,seval]

theorem QHq (o:PI)(x:PE)(hl:x.free.length≤maxLen)(fr:Nat→Ob)(m:Ql)(h1:fr 1=.cells x.cells):Qh Tryz.prog 214 [Q0 o,.ptr 3 1 0] (Qc :: Qc :: Qc :: fr :: m) fun y m1=>y=.bool (!Wm x o)∧m1=Qc :: Qc :: Qc :: fr :: m:=by
 have hr:Qp Tryz.prog 215 [.list (x.free.map fun n=>AV.agg n.cells),.int .i64 o.num] (.bool (kept x.free o.num)):=QHn x.free hl o.num;simp only[PE.cells]at h1;refine QE6.go (by simp) ?_;have e2:decide (o.num > 2147483647)=!decide (o.num≤2147483647):=(by rw[QMY];simp only[QMa,QM2,QNR];omega);simp only[Q0,PI.cells,Wm,e2,eE,seval];cases decide (o.num≤2147483647)
 ·simp only[QNb,QNw,Qa,seval]
 ·simp only[QNE,QND,h1,eE,seval];refine Qb hr rfl rfl rfl (.inl rfl) ?_;simp only[Bool.not_not,Qa,seval]

def Km (l:List PS)(i:Nat):Bool:=Ur l HE i&&Q7 l Yk i
theorem B0 (l:List PS):Qz (Km l) l.length=(l.all HE&&XH l Yk):=by
 unfold Km XH;rw[UG,UH]

def OuI (x:PE)(m:Ql)(k:Nat)(st:St):Prop :=
 ∃f fr i,st=⟨f,fr :: m,[]⟩∧k=x.free.length-i∧Qz (Km x.free) i=true∧f 1=.ptr 0 1 0∧f 6=.list (x.free.map XT)∧f 7=.int .i64 (x.free.length:Nat)∧f 8=.int .i64 (i:Nat)∧fr 1=.cells x.cells∧∀s∈[4],(fr s).isRow=false

theorem QHr (x:PE)(h0:x.items≠[])(hl1:x.items.length≤maxLen)(hl:x.free.length≤maxLen)(m:Ql):Qh Tryz.prog 164 [Qt x] m fun y m1=>y=.bool (!Z0 x)∧m1=m:=by
 have hsp:=B0 x.free;have z1:Int.toNat 0=0:=rfl;have z0:(0≤(0:Int))=True:=by simp
 refine QEr.go (by simp) ?_;simp only[Qt,PE.cells,QMZ,eE,seval];refine Qf (OuI x m) _ ⟨_,_,0,rfl,rfl,rfl,(by rfl),(by rfl),(by rfl),(by rfl),(by rfl),by simp<;>rfl⟩ ?_;rintro _ st ⟨f0,fr0,i,rfl,rfl,hx,h10,h60,h70,h80,m10,r4⟩;refine QM (a:=_) [4] r4 ?_;intro f fr hf hm hn4;have h1:f 1=.ptr 0 1 0:=by rw[hf,h10]<;>rfl
 have h6:f 6=.list (x.free.map XT):=by rw[hf,h60]<;>rfl
 have h7:f 7=.int .i64 (x.free.length:Nat):=by rw[hf,h70]<;>rfl
 have h8:f 8=.int .i64 (i:Nat):=by rw[hf,h80]<;>rfl
 have m1:fr 1=.cells x.cells:=by rw[hm 1 (by decide),m10]<;>rfl
 have n4:=hn4 4 (by decide);clear hf hm hn4 h10 h60 h70 h80 m10 r4;simp only[PE.cells]at m1;simp only[h7,h8,Qa,seval];by_cases hlt:i<x.free.length
 ·obtain⟨y,hi⟩:∃y,x.free[i]? = some y:=⟨x.free[i],QL6 hlt⟩;have hg:(x.free.map XT)[i]? = some (XT y):=by simp[hi]
  have e1:=Qq i _ hlt hl;have hstep:Qz (Km x.free) (i+1)=(HE y&&Q7 x.free Yk i):=by
   rw[Qz,hx,QND,Km,Wv hi]
  have hend:Qz (Km x.free) (i+1)=false→Z0 x=false:=by
   intro h;unfold Z0;rw[←hsp];have:Qz (Km x.free) x.free.length=false:=by
    rw[QNO];intro h';rw[QG.2 fun k hk=>QG.1 h' k (by omega)]at h;cases h
   rw[this];rfl
  have fin:∀(f':Fr) (fr':Nat→Ob),Qz (Km x.free) (i+1)=true→f' 1=.ptr 0 1 0→f' 6=.list (x.free.map XT)→f' 7=.int .i64 (x.free.length:Nat)→f' 8=.int .i64 ((i+1:Nat):Int)→fr' 1=.cells x.cells→(∀s∈[4],(fr' s).isRow=false)→∃k,k<x.free.length-i∧OuI x m k ⟨f',fr' :: m,[]⟩:=by
   intro f' fr' a b c d e g h;exact⟨x.free.length-(i+1),by omega,f',fr',i+1,rfl,rfl,a,b,c,d,e,g,h⟩
  have s1:HE y=(!decide (y.lo<0) && !decide (y.hi > 2147483647) && !decide (y.hi<y.lo)):=by
   unfold HE;exact(by rw[QMY];simp only[QMa,QM2,QNR,QMt];omega)
  rw[s1]at hstep;simp only[Qo hlt,Qm,QNt,Qd,hg,XT,PS.cells,n4,h6,h8,eE,seval];cases a1:decide (y.lo<0)
  case true=>
   rw[a1,QNE,QNw,QNw,QNw]at hstep;simp only[hend hstep,QNb,Qa,seval]
  cases a2:decide (y.hi > 2147483647)
  case true=>
   rw[a1,a2,QNE,QNS,QNw,QNw]at hstep;simp only[a2,hend hstep,QNb,eE,seval]
  cases a3:decide (y.hi<y.lo)
  case true=>
   rw[a1,a2,a3,QNE,QNS,QNw]at hstep;simp only[a2,a3,hend hstep,QNb,eE,seval]
  rw[a1,a2,a3]at hstep;simp only[QNb,QND]at hstep;cases i with
  |zero=>
   have d0:decide (((0:Nat):Int) > 0)=false:=rfl;rw[WU]at hstep;simp only[a2,a3,h8,eE,seval];exact fin _ _ hstep (by exact h1) (by exact h6) (by exact h7) (by rfl) (by exact m1) (by simp<;>rfl)
  |succ j=>
   have d0:decide (((j+1:Nat):Int) > 0)=true:=QNQ (by omega);obtain⟨z,hj⟩:∃z,x.free[j]? = some z:=⟨x.free[j]'(by omega),QL6 (by omega)⟩;have hgj:(x.free.map fun n=>AV.agg n.cells)[j]? = some (.agg z.cells):=by simp[hj]
   simp only[PS.cells]at hgj;rw[ZY hj hi]at hstep;have w:=KP j _ hlt hl;have s2:Yk z y=!decide (y.lo≤z.hi):=by unfold Yk;exact(by rw[QMY];simp only[QMa,QM2,QNR];omega)
   rw[s2]at hstep;simp only[a2,a3,d0,w,Qm,QNt,Qd,hgj,PS.cells,h1,m1,eE,seval];cases a4:decide (y.lo≤z.hi)
   ·rw[a4]at hstep;simp only[h8,e1,Qa,seval];exact fin _ _ hstep (by exact h1) (by exact h6) (by exact h7) (by rfl) (by exact m1) (by simp<;>rfl)
   ·rw[a4]at hstep;simp only[hend hstep,QNb,Qa,seval]
 ·have hfr:Qz (Km x.free) x.free.length=true:=QG.2 fun k hk=>QG.1 hx k (by omega)
  obtain⟨it,Qe,hits⟩:∃it Qe,x.items=it :: Qe:=by
   cases h:x.items with
   |nil=>exact absurd h h0
   |cons a b=>exact⟨a,b,rfl⟩
  have hr:Z0 x=(it.num==0&&x.items.all (Wm x)):=by
   unfold Z0;rw[←hsp,hfr,QND,YA,hits]
  have hg0:(x.items.map fun n=>AV.agg n.cells)[0]? = some (.agg it.cells):=by simp[hits]
  have hne:(it.num != 0)=!(it.num==0):=rfl;simp only[PI.cells]at hg0;simp only[QE hlt,Qd,z0,z1,hg0,PI.cells,hr,hne,QMk,QM0,h1,m1,eE,seval];cases it.num==0
  ·simp only[QNb,QNw,Qa,seval]
  ·simp only[QNE,QND,m1,h1,eE,seval];refine Qi (N2 x.items hl1 (fun o=>!Wm x o) 214 [.ptr 0 1 0] _ fun o _=>QHq o x hl _ _ (by exact m1)) (by simp only[QMB,QM5,h1,Qa,seval]<;>rfl) ?_;simp only[Xe,Qa,seval]

theorem z87 {M:Nat}(P:PL)(hP:P.ok M)(hi:∀e∈P.enums,e.items≠[]):Qp Tryz.prog 87 [P.av] (.bool (!Fv P)):=by
 have e0:P.av=.agg [.list (P.progs.map Qj),.list (P.enums.map Qt)]:=rfl;refine k87.fn (by simp) ?_;simp only[e0,Fv,eE,seval];refine Qi (Gz P.progs hP.len1 (fun g=>!g.ops.all Za) 162 [] _ fun o ho=>QHp o (hP.progs o ho).len _) (by simp only[QMB,QM5,Qa,seval]<;>rfl) ?_;simp only[Xe,Qa,seval];cases P.progs.all fun g=>g.ops.all Za
 ·simp only[QNb,QNw,Qa,seval]
 simp only[QNE,QND,eE,seval];refine Qi (UI P.enums hP.len2 (fun g=>!Z0 g) 164 [] _ fun o ho=>QHr o (hi o ho) (hP.enums o ho).len1 (hP.enums o ho).len2 _) (by simp only[QMB,QM5,Qa,seval]<;>rfl) ?_;simp only[Xe,Qa,seval]

end Go.Proofs.YtipjfckmopekaaaGreatDoor.Va

namespace Go.Proofs.YtipjfckmopekaaaGreatDoor.Va
open Go Am Rc Bt

def bt (s:List UInt8)(i lo hi:Nat):Bool :=
 match s[i]? with
 |some b=>decide (lo≤b.toNat)&&decide (b.toNat≤hi)
 |none=>false
def tl (s:List UInt8):Nat→Nat→Bool
 |_,0=>true
 |i,n+1=>bt s i 128 191&&tl s (i+1) n
def G7 (s:List UInt8)(i b:Nat):Nat :=
 if b<128 then 1
 else if 194≤b∧b≤223∧tl s (i+1) 1=true then 2
 else if b=224∧bt s (i+1) 160 191=true∧tl s (i+2) 1=true then 3
 else if b=237∧bt s (i+1) 128 159=true∧tl s (i+2) 1=true then 3
 else if 225≤b∧b≤239∧b≠237∧tl s (i+1) 2=true then 3
 else if b=240∧bt s (i+1) 144 191=true∧tl s (i+2) 2=true then 4
 else if 241≤b∧b≤243∧tl s (i+1) 3=true then 4
 else if b=244∧bt s (i+1) 128 143=true∧tl s (i+2) 2=true then 4
 else 0
def sz (s:List UInt8)(i:Nat):Nat :=
 match s[i]? with
 |none=>0
 |some c=>G7 s i c.toNat
def Wc (s:List UInt8):Nat→Nat→Int
 |0,_=>-1
 |k+1,i=>if i<s.length then(if sz s i=0 then(i:Int)else Wc s k (i+sz s i))else -1
def Uu (s:List UInt8):Bool:=decide (Wc s s.length 0<0)

theorem QHs (c:UInt8)(n:Nat):decide ((c.toNat:Int)≥(n:Int))=decide (n≤c.toNat):=by simp
theorem QHt (c:UInt8)(n:Nat):decide ((c.toNat:Int)≤(n:Int))=decide (c.toNat≤n):=by simp

theorem FB (s:List UInt8)(i lo hi:Nat):Qp Tryz.prog 272 [.str s,.int .i64 (i:Nat),.int .u8 (lo:Nat),.int .u8 (hi:Nat)] (.bool (bt s i lo hi)):=by
 refine QF3.fn (by simp) ?_;by_cases hlt:i<s.length
 ·obtain⟨c,hc⟩:∃c,s[i]? = some c:=⟨s[i],QL6 hlt⟩;have hb:bt s i lo hi=(decide (lo≤c.toNat)&&decide (c.toNat≤hi)):=by simp only[bt,hc]
  simp only[Qo hlt,Qm,QNt,hc,QHs,Qa,seval];by_cases h1:lo≤c.toNat
  ·have d1:decide (lo≤c.toNat)=true:=by simpa using h1
   simp only[d1,Qm,QNt,hc,hb,QHt,QND,Qa,seval]
  ·have d1:decide (lo≤c.toNat)=false:=by simpa using h1
   simp only[d1,hb,QNw,Qa,seval]
 ·have hb:bt s i lo hi=false:=by simp only[bt,QNq (Nat.le_of_not_lt hlt)]
  simp only[QE hlt,hb,Qa,seval]

def QzE (s:List UInt8)(i n:Nat)(k:Nat)(st:St):Prop :=
 ∃f j,st=⟨f,[Qc],[]⟩∧k=n-j∧j≤n∧tl s i n=tl s (i+j) (n-j)∧f 0=.str s∧f 1=.int .i64 (i:Nat)∧f 2=.int .i64 (n:Nat)∧f 7=.int .i64 (j:Nat)

theorem Jf (a b:Nat)(h:a+b≤maxLen):IntKind.i64.wrap ((a:Int)+(b:Int))=((a+b:Nat):Int):=by
 simp only[maxLen]at h;rw[QF];omega

theorem UJ (s:List UInt8)(i n:Nat)(hi:i+n≤maxLen):Qp Tryz.prog 271 [.str s,.int .i64 (i:Nat),.int .i64 (n:Nat)] (.bool (tl s i n)):=by
 refine QF0.fn (by simp) ?_;simp only[Qa,seval];refine Qf (QzE s i n) _ ⟨_,0,rfl,rfl,QMd _,rfl,rfl,rfl,rfl,rfl⟩ ?_;rintro _ st ⟨f,j,rfl,rfl,hj,ht,h0,h1,h2,h7⟩;simp only[h2,h7,Qa,seval];by_cases hlt:j<n
 ·have e0:=Jf i j (by omega);have e1:=Qq j _ hlt (by omega);simp only[Qo hlt,h0,h1,h7,e0,Qa,seval];refine Qb (FB s (i+j) 128 191) rfl rfl rfl (.inl rfl) ?_;have hs:tl s i n=(bt s (i+j) 128 191&&tl s (i+(j+1)) (n-(j+1))):=by
   rw[ht];obtain⟨m,hm⟩:∃m,n-j=m+1:=⟨n-j-1,by omega⟩;rw[hm,show n-(j+1)=m by omega];rfl
  cases hb:bt s (i+j) 128 191
  ·rw[hb]at hs;simp only[hs,QNw,Qa,seval]
  ·rw[hb,QND]at hs;simp only[h7,e1,Qa,seval];exact⟨n-(j+1),by omega,_,j+1,rfl,rfl,by omega,hs,(by exact h0),(by exact h1),(by exact h2),(by rfl)⟩
 ·have hs:tl s i n=true:=by
   rw[ht,show n-j=0 by omega];rfl
  simp only[QE hlt,hs,Qa,seval]

def FC (s:List UInt8)(i:Nat)(c:UInt8)(D:Nat)(cond:Prop)(g:List Am.Item):Prop :=
 ∀Q:St→Prop,(∀f' B,(B=true↔cond)→f' 0=.str s→f' 1=.int .i64 (i:Nat)→f' 5=.int .u8 (c.toNat:Nat)→f' D=.bool B→Q ⟨f',[Qc],[]⟩)→
  ∀f,f 0=.str s→f 1=.int .i64 (i:Nat)→f 5=.int .u8 (c.toNat:Nat)→QD Tryz.prog g ⟨f,[Qc],[]⟩ Q

section
variable {s:List UInt8}{i:Nat}{c:UInt8}(hi:i<s.length)(hs:s.length+8≤maxLen)
include hi hs

theorem QHu:FC s i c 12 (194≤c.toNat∧c.toNat≤223∧tl s (i+1) 1=true) Fh:=by
 intro Q hQ f h0 h1 h5;have e1:IntKind.i64.wrap ((i:Int)+1)=((i+1:Nat):Int):=Jf i 1 (by omega);have e2:IntKind.i64.wrap ((i:Int)+2)=((i+2:Nat):Int):=Jf i 2 (by omega);simp only[Fh,h5,Qa,seval]
 repeat' (first|(refine Xl (fun h=>?_) (fun h=>?_)<;>simp only[h,h0,h1,h5,e1,e2,eE,seval])|(refine XV (fun h=>?_) (fun h=>?_)<;>simp only[h,Qn,h0,h1,h5,e1,Qa,seval])|(refine XW (fun h=>?_) (fun h=>?_)<;>simp only[h,Qn,h0,h1,h5,e1,e2,eE,seval])|((with_reducible apply Qb (k:=271));(case hy=>rfl);(case h1=>rfl);(case hk=>exact UJ s (i+1) 1 (by omega));(case h2=>rfl);(case h3=>first|exact .inl rfl|exact .inr rfl);simp only[Qa,seval]))
 all_goals(refine hQ _ _ ?_ (by exact h0) (by exact h1) (by exact h5) rfl)
 all_goals simp only[QMa,QNR]at *
 all_goals
  constructor
  ·intro hh
   first
    |cases hh
    |(refine⟨by omega,?_⟩;first|exact hh|(refine⟨by omega,?_⟩;first|exact hh|(refine⟨by omega,?_⟩;exact hh))|exact⟨by assumption,hh⟩)
  ·intro hh
   first
    |exact hh.2.2.2
    |exact hh.2.2
    |(exfalso;omega)
    |(exfalso;simp_all;done)

theorem QHv:FC s i c 25 (c.toNat=224∧bt s (i+1) 160 191=true∧tl s (i+2) 1=true) Fj:=by
 intro Q hQ f h0 h1 h5;have e1:IntKind.i64.wrap ((i:Int)+1)=((i+1:Nat):Int):=Jf i 1 (by omega);have e2:IntKind.i64.wrap ((i:Int)+2)=((i+2:Nat):Int):=Jf i 2 (by omega);simp only[Fj,h5,Qa,seval]
 repeat' (first|(refine Xl (fun h=>?_) (fun h=>?_)<;>simp only[h,h0,h1,h5,e1,e2,eE,seval])|(refine XV (fun h=>?_) (fun h=>?_)<;>simp only[h,Qn,h0,h1,e1,e2,Qa,seval])|(refine XW (fun h=>?_) (fun h=>?_)<;>simp only[h,Qn,h0,h1,h5,e1,e2,eE,seval])|((with_reducible apply Qb (k:=272));(case hy=>rfl);(case h1=>rfl);(case hk=>exact FB s (i+1) 160 191);(case h2=>rfl);(case h3=>first|exact .inl rfl|exact .inr rfl);simp only[Qa,seval])|((with_reducible apply Qb (k:=271));(case hy=>rfl);(case h1=>rfl);(case hk=>exact UJ s (i+2) 1 (by omega));(case h2=>rfl);(case h3=>first|exact .inl rfl|exact .inr rfl);simp only[Qa,seval]))
 all_goals(refine hQ _ _ ?_ (by exact h0) (by exact h1) (by exact h5) rfl)
 all_goals simp only[QMb,QNI,ne_eq]at *
 all_goals
  constructor
  ·intro hh
   first
    |cases hh
    |(refine⟨by omega,?_⟩;first|exact hh|(refine⟨by omega,?_⟩;first|exact hh|(refine⟨by omega,?_⟩;exact hh))|exact⟨by assumption,hh⟩)
  ·intro hh
   first
    |exact hh.2.2.2
    |exact hh.2.2
    |(exfalso;omega)
    |(exfalso;simp_all;done)

theorem QHw:FC s i c 40 (c.toNat=237∧bt s (i+1) 128 159=true∧tl s (i+2) 1=true) Fk:=by
 intro Q hQ f h0 h1 h5;have e1:IntKind.i64.wrap ((i:Int)+1)=((i+1:Nat):Int):=Jf i 1 (by omega);have e2:IntKind.i64.wrap ((i:Int)+2)=((i+2:Nat):Int):=Jf i 2 (by omega);simp only[Fk,h5,Qa,seval]
 repeat' (first|(refine Xl (fun h=>?_) (fun h=>?_)<;>simp only[h,h0,h1,h5,e1,e2,eE,seval])|(refine XV (fun h=>?_) (fun h=>?_)<;>simp only[h,Qn,h0,h1,e1,e2,Qa,seval])|(refine XW (fun h=>?_) (fun h=>?_)<;>simp only[h,Qn,h0,h1,h5,e1,e2,eE,seval])|((with_reducible apply Qb (k:=272));(case hy=>rfl);(case h1=>rfl);(case hk=>exact FB s (i+1) 128 159);(case h2=>rfl);(case h3=>first|exact .inl rfl|exact .inr rfl);simp only[Qa,seval])|((with_reducible apply Qb (k:=271));(case hy=>rfl);(case h1=>rfl);(case hk=>exact UJ s (i+2) 1 (by omega));(case h2=>rfl);(case h3=>first|exact .inl rfl|exact .inr rfl);simp only[Qa,seval]))
 all_goals(refine hQ _ _ ?_ (by exact h0) (by exact h1) (by exact h5) rfl)
 all_goals simp only[QMb,QNI,ne_eq]at *
 all_goals
  constructor
  ·intro hh
   first
    |cases hh
    |(refine⟨by omega,?_⟩;first|exact hh|(refine⟨by omega,?_⟩;first|exact hh|(refine⟨by omega,?_⟩;exact hh))|exact⟨by assumption,hh⟩)
  ·intro hh
   first
    |exact hh.2.2.2
    |exact hh.2.2
    |(exfalso;omega)
    |(exfalso;simp_all;done)

theorem QzF:FC s i c 55 (225≤c.toNat∧c.toNat≤239∧c.toNat≠237∧tl s (i+1) 2=true) Gt:=by
 intro Q hQ f h0 h1 h5;have e1:IntKind.i64.wrap ((i:Int)+1)=((i+1:Nat):Int):=Jf i 1 (by omega);have e2:IntKind.i64.wrap ((i:Int)+2)=((i+2:Nat):Int):=Jf i 2 (by omega);simp only[Gt,h5,Qa,seval]
 repeat' (first|(refine Xl (fun h=>?_) (fun h=>?_)<;>simp only[h,h0,h1,h5,e1,e2,eE,seval])|(refine XV (fun h=>?_) (fun h=>?_)<;>simp only[h,Qn,h0,h1,h5,e1,Qa,seval])|(refine XW (fun h=>?_) (fun h=>?_)<;>simp only[h,Qn,h0,h1,h5,e1,e2,eE,seval])|((with_reducible apply Qb (k:=271));(case hy=>rfl);(case h1=>rfl);(case hk=>exact UJ s (i+1) 2 (by omega));(case h2=>rfl);(case h3=>first|exact .inl rfl|exact .inr rfl);simp only[Qa,seval]))
 all_goals(refine hQ _ _ ?_ (by exact h0) (by exact h1) (by exact h5) rfl)
 all_goals simp only[QMa,QNR,QMv,bne_eq_false_iff_eq,ne_eq]at *
 all_goals
  constructor
  ·intro hh
   first
    |cases hh
    |(refine⟨by omega,?_⟩;first|exact hh|(refine⟨by omega,?_⟩;first|exact hh|(refine⟨by omega,?_⟩;exact hh))|exact⟨by assumption,hh⟩)
  ·intro hh
   first
    |exact hh.2.2.2
    |exact hh.2.2
    |(exfalso;omega)
    |(exfalso;simp_all;done)

theorem QzG:FC s i c 72 (c.toNat=240∧bt s (i+1) 144 191=true∧tl s (i+2) 2=true) Gu:=by
 intro Q hQ f h0 h1 h5;have e1:IntKind.i64.wrap ((i:Int)+1)=((i+1:Nat):Int):=Jf i 1 (by omega);have e2:IntKind.i64.wrap ((i:Int)+2)=((i+2:Nat):Int):=Jf i 2 (by omega);simp only[Gu,h5,Qa,seval]
 repeat' (first|(refine Xl (fun h=>?_) (fun h=>?_)<;>simp only[h,h0,h1,h5,e1,e2,eE,seval])|(refine XV (fun h=>?_) (fun h=>?_)<;>simp only[h,Qn,h0,h1,e1,e2,Qa,seval])|(refine XW (fun h=>?_) (fun h=>?_)<;>simp only[h,Qn,h0,h1,h5,e1,e2,eE,seval])|((with_reducible apply Qb (k:=272));(case hy=>rfl);(case h1=>rfl);(case hk=>exact FB s (i+1) 144 191);(case h2=>rfl);(case h3=>first|exact .inl rfl|exact .inr rfl);simp only[Qa,seval])|((with_reducible apply Qb (k:=271));(case hy=>rfl);(case h1=>rfl);(case hk=>exact UJ s (i+2) 2 (by omega));(case h2=>rfl);(case h3=>first|exact .inl rfl|exact .inr rfl);simp only[Qa,seval]))
 all_goals(refine hQ _ _ ?_ (by exact h0) (by exact h1) (by exact h5) rfl)
 all_goals simp only[QMb,QNI,ne_eq]at *
 all_goals
  constructor
  ·intro hh
   first
    |cases hh
    |(refine⟨by omega,?_⟩;first|exact hh|(refine⟨by omega,?_⟩;first|exact hh|(refine⟨by omega,?_⟩;exact hh))|exact⟨by assumption,hh⟩)
  ·intro hh
   first
    |exact hh.2.2.2
    |exact hh.2.2
    |(exfalso;omega)
    |(exfalso;simp_all;done)

theorem QzH:FC s i c 87 (241≤c.toNat∧c.toNat≤243∧tl s (i+1) 3=true) Gv:=by
 intro Q hQ f h0 h1 h5;have e1:IntKind.i64.wrap ((i:Int)+1)=((i+1:Nat):Int):=Jf i 1 (by omega);have e2:IntKind.i64.wrap ((i:Int)+2)=((i+2:Nat):Int):=Jf i 2 (by omega);simp only[Gv,h5,Qa,seval]
 repeat' (first|(refine Xl (fun h=>?_) (fun h=>?_)<;>simp only[h,h0,h1,h5,e1,e2,eE,seval])|(refine XV (fun h=>?_) (fun h=>?_)<;>simp only[h,Qn,h0,h1,h5,e1,Qa,seval])|(refine XW (fun h=>?_) (fun h=>?_)<;>simp only[h,Qn,h0,h1,h5,e1,e2,eE,seval])|((with_reducible apply Qb (k:=271));(case hy=>rfl);(case h1=>rfl);(case hk=>exact UJ s (i+1) 3 (by omega));(case h2=>rfl);(case h3=>first|exact .inl rfl|exact .inr rfl);simp only[Qa,seval]))
 all_goals(refine hQ _ _ ?_ (by exact h0) (by exact h1) (by exact h5) rfl)
 all_goals simp only[QMa,QNR]at *
 all_goals
  constructor
  ·intro hh
   first
    |cases hh
    |(refine⟨by omega,?_⟩;first|exact hh|(refine⟨by omega,?_⟩;first|exact hh|(refine⟨by omega,?_⟩;exact hh))|exact⟨by assumption,hh⟩)
  ·intro hh
   first
    |exact hh.2.2.2
    |exact hh.2.2
    |(exfalso;omega)
    |(exfalso;simp_all;done)

theorem QzI:FC s i c 100 (c.toNat=244∧bt s (i+1) 128 143=true∧tl s (i+2) 2=true) Gw:=by
 intro Q hQ f h0 h1 h5;have e1:IntKind.i64.wrap ((i:Int)+1)=((i+1:Nat):Int):=Jf i 1 (by omega);have e2:IntKind.i64.wrap ((i:Int)+2)=((i+2:Nat):Int):=Jf i 2 (by omega);simp only[Gw,h5,Qa,seval]
 repeat' (first|(refine Xl (fun h=>?_) (fun h=>?_)<;>simp only[h,h0,h1,h5,e1,e2,eE,seval])|(refine XV (fun h=>?_) (fun h=>?_)<;>simp only[h,Qn,h0,h1,e1,e2,Qa,seval])|(refine XW (fun h=>?_) (fun h=>?_)<;>simp only[h,Qn,h0,h1,h5,e1,e2,eE,seval])|((with_reducible apply Qb (k:=272));(case hy=>rfl);(case h1=>rfl);(case hk=>exact FB s (i+1) 128 143);(case h2=>rfl);(case h3=>first|exact .inl rfl|exact .inr rfl);simp only[Qa,seval])|((with_reducible apply Qb (k:=271));(case hy=>rfl);(case h1=>rfl);(case hk=>exact UJ s (i+2) 2 (by omega));(case h2=>rfl);(case h3=>first|exact .inl rfl|exact .inr rfl);simp only[Qa,seval]))
 all_goals(refine hQ _ _ ?_ (by exact h0) (by exact h1) (by exact h5) rfl)
 all_goals simp only[QMb,QNI,ne_eq]at *
 all_goals
  constructor
  ·intro hh
   first
    |cases hh
    |(refine⟨by omega,?_⟩;first|exact hh|(refine⟨by omega,?_⟩;first|exact hh|(refine⟨by omega,?_⟩;exact hh))|exact⟨by assumption,hh⟩)
  ·intro hh
   first
    |exact hh.2.2.2
    |exact hh.2.2
    |(exfalso;omega)
    |(exfalso;simp_all;done)

end

theorem QHx (s:List UInt8)(i:Nat)(hi:i<s.length)(hs:s.length+8≤maxLen):Qp Tryz.prog 240 [.str s,.int .i64 (i:Nat)] (.int .i64 (sz s i:Nat)):=by
 refine QFw.fn (by simp) ?_;obtain⟨c,hc⟩:∃c,s[i]? = some c:=⟨s[i],QL6 hi⟩;have hz:sz s i=G7 s i c.toNat:=by simp only[sz,hc]
 unfold G7 at hz;simp only[CW,CX,CY,CZ,C0,C1,C2,BR,BS,BT,BU,BW,Qp9,Qqa,Qm,QNt,hc,Qa,seval];refine Xl (fun h=>?_) (fun h=>?_)
 ·have h:c.toNat<128:=by simp at h;omega
  rw[hz,QMy h];simp only[Qa,seval]
  try rfl
 have h:¬c.toNat<128:=by simp at h;omega
 rw[hz,QMj h];simp only[Qa,seval];refine QHu hi hs _ (fun f B hB h0 h1 h5 hd=>?_) _ (by rfl) (by rfl) (by rfl);by_cases hB1:B=true
 ·rw[QMy (hB.1 hB1)];subst hB1;simp only[hd,Qa,seval]
  try rfl
 rw[QMj (fun hh=>hB1 (hB.2 hh))];have hB2:B=false:=by simpa using hB1
 subst hB2;simp only[hd,Qa,seval];refine QHv hi hs _ (fun f B hB h0 h1 h5 hd=>?_) _ (by exact h0) (by exact h1) (by exact h5);by_cases hB1:B=true
 ·rw[QMy (hB.1 hB1)];subst hB1;simp only[hd,Qa,seval]
  try rfl
 rw[QMj (fun hh=>hB1 (hB.2 hh))];have hB2:B=false:=by simpa using hB1
 subst hB2;simp only[hd,Qa,seval];refine QHw hi hs _ (fun f B hB h0 h1 h5 hd=>?_) _ (by exact h0) (by exact h1) (by exact h5);by_cases hB1:B=true
 ·rw[QMy (hB.1 hB1)];subst hB1;simp only[hd,Qa,seval]
  try rfl
 rw[QMj (fun hh=>hB1 (hB.2 hh))];have hB2:B=false:=by simpa using hB1
 subst hB2;simp only[hd,Qa,seval];refine QzF hi hs _ (fun f B hB h0 h1 h5 hd=>?_) _ (by exact h0) (by exact h1) (by exact h5);by_cases hB1:B=true
 ·rw[QMy (hB.1 hB1)];subst hB1;simp only[hd,Qa,seval]
  try rfl
 rw[QMj (fun hh=>hB1 (hB.2 hh))];have hB2:B=false:=by simpa using hB1
 subst hB2;simp only[hd,Qa,seval];refine QzG hi hs _ (fun f B hB h0 h1 h5 hd=>?_) _ (by exact h0) (by exact h1) (by exact h5);by_cases hB1:B=true
 ·rw[QMy (hB.1 hB1)];subst hB1;simp only[hd,Qa,seval]
  try rfl
 rw[QMj (fun hh=>hB1 (hB.2 hh))];have hB2:B=false:=by simpa using hB1
 subst hB2;simp only[hd,Qa,seval];refine QzH hi hs _ (fun f B hB h0 h1 h5 hd=>?_) _ (by exact h0) (by exact h1) (by exact h5);by_cases hB1:B=true
 ·rw[QMy (hB.1 hB1)];subst hB1;simp only[hd,Qa,seval]
  try rfl
 rw[QMj (fun hh=>hB1 (hB.2 hh))];have hB2:B=false:=by simpa using hB1
 subst hB2;simp only[hd,Qa,seval];refine QzI hi hs _ (fun f B hB h0 h1 h5 hd=>?_) _ (by exact h0) (by exact h1) (by exact h5);by_cases hB1:B=true
 ·rw[QMy (hB.1 hB1)];subst hB1;simp only[hd,Qa,seval]
  try rfl
 rw[QMj (fun hh=>hB1 (hB.2 hh))];have hB2:B=false:=by simpa using hB1
 subst hB2;simp only[hd,Qa,seval]
 try rfl

theorem R9 (s:List UInt8)(i:Nat)(hi:i<s.length)(_h:sz s i≠0):i+sz s i≤s.length:=by
 have tl1:∀n j,tl s j n=true→n≠0→j+n≤s.length:=by
  intro n
  induction n with
  |zero=>intro j _ h;exact absurd rfl h
  |succ n ih=>
   intro j hj _;simp only[tl,QMt]at hj;have hb:j<s.length:=by
    have h1:=hj.1;unfold bt at h1;split at h1
    ·rename_i b hb;exact(QL5.1 hb).1
    ·cases h1
   by_cases h0:n=0
   ·subst h0;omega
   ·have:=ih (j+1) hj.2 h0;omega
 obtain⟨c,hc⟩:∃c,s[i]? = some c:=⟨s[i],QL6 hi⟩;simp only[sz,hc]at _h ⊢;unfold G7 at _h ⊢
 (repeat' split)<;>first
  |omega
  |(rename_i hh;have:=tl1 _ _ hh.2.2 (by decide);omega)
  |(rename_i hh;have:=tl1 _ _ hh.2.2.2 (by decide);omega)
  |simp_all

def QHy (s:List UInt8)(k:Nat)(st:St):Prop :=
 ∃f i,st=⟨f,[Qc],[]⟩∧i≤s.length∧s.length-i≤k∧Wc s s.length 0=Wc s k i∧f 0=.str s∧f 3=.int .i64 (i:Nat)

theorem QHz (s:List UInt8)(hs:s.length+8≤maxLen):Qp Tryz.prog 202 [.str s] (.int .i64 (Wc s s.length 0)):=by
 refine QEY.fn (by simp) ?_;simp only[Qa,seval];refine Qf (QHy s) s.length ⟨_,0,rfl,QMd _,QL3 _,rfl,rfl,rfl⟩ ?_;rintro k st ⟨f,i,rfl,hi,hk,hb,h0,h3⟩;simp only[h0,h3,Qa,seval];by_cases hlt:i<s.length
 ·simp only[Qo hlt,h0,h3,Qa,seval];refine Qb (QHx s i hlt hs) rfl rfl rfl (.inl rfl) ?_;obtain⟨k,rfl⟩:∃n,k=n+1:=⟨k-1,by omega⟩;have hbk:Wc s (k+1) i=if sz s i=0 then(i:Int)else Wc s k (i+sz s i):=by
   show(if i<s.length then _ else _)=_;rw[QMy hlt]
  by_cases hz:sz s i=0
  ·have b0:((sz s i:Int)==0)=true:=by simp[hz]
   simp only[b0,h3,hb,hbk,QMy hz,Qa,seval]
  ·have b0:((sz s i:Int)==0)=false:=by simp;omega
   have hle:=R9 s i hlt hz;have e0:=Jf i (sz s i) (by omega);simp only[b0,h3,e0,Qa,seval];exact⟨k,by omega,_,i+sz s i,rfl,hle,by omega,by rw[hb,hbk,QMj hz],(by exact h0),(by rfl)⟩
 ·have hbk:Wc s k i = -1:=by
   cases k with
   |zero=>rfl
   |succ k=>
    show(if i<s.length then _ else _)=_;rw[QMj hlt]
  simp only[QE hlt,hb,hbk,Qa,seval]

theorem Qr5 (s:List UInt8)(hs:s.length+8≤maxLen):Qp Tryz.prog 131 [.str s] (.bool (Uu s)):=by
 refine QDI.fn (by simp) ?_;simp only[Qa,seval];refine Qb (QHz s hs) rfl rfl rfl (.inl rfl) ?_;simp only[Qa,seval]
 try rfl

def Ki (s:List UInt8)(i:Nat):Bool:=(s.drop i).take 3==[239,191,189]

theorem QHA (s t:List UInt8):Qp Tryz.prog 293 [.str s,.str t] (.bool (s.take t.length==t)):=by
 refine QGo.fn (by simp) ?_;by_cases h:t.length≤s.length
 ·have d0:decide ((s.length:Int)≥(t.length:Int))=true:=by simp;omega
  have s1:(0≤t.length∧t.length≤s.length)=True:=by simp;omega
  simp only[d0,Qm,s1,QNt,QN,QNl,QMM,Qa,seval]
 ·have d0:decide ((s.length:Int)≥(t.length:Int))=false:=by simp;omega
  have e0:(s.take t.length==t)=false:=by
   rw[QNI];intro hh;have:=congrArg List.length hh;simp at this;omega
  simp only[d0,e0,Qa,seval]

theorem QHB (s t:List UInt8):Qp Tryz.prog 277 [.str s,.str t] (.bool (s.take t.length==t)):=by
 refine QF9.fn (by simp) ?_;simp only[Qa,seval];refine Qb (QHA s t) rfl rfl rfl (.inl rfl) ?_;simp only[Qa,seval]

theorem QHC (s:List UInt8)(i:Nat)(hi:i≤s.length)(c:Nat):Qp Tryz.prog 248 [.str s,.int .i64 (i:Nat),.int .i32 (c:Nat)] (.bool (decide (c=65533) && !Ki s i)):=by
 refine QFH.fn (by simp) ?_;by_cases hc:c=65533
 ·have b0:((c:Int)==65533)=true:=by simp[hc]
  have s1:(i≤s.length∧s.length≤s.length)=True:=by simp;omega
  simp only[b0,Qm,s1,QNt,Qa,seval];refine Qb (QHB (List.take (s.length-i) (List.drop i s)) [239,191,189]) rfl rfl rfl (.inl rfl) ?_;have ht:List.take (s.length-i) (List.drop i s)=List.drop i s:=QMD (by simp);simp only[ht,Ki,hc,Qa,seval]
 ·have b0:((c:Int)==65533)=false:=by simp;omega
  simp only[b0,hc,Qa,seval];simp

end Go.Proofs.YtipjfckmopekaaaGreatDoor.Va

namespace Go.Proofs.YtipjfckmopekaaaGreatDoor.Vp

def Kj:Nat→Nat→List UInt8
 |0,u=>[UInt8.ofNat u]
 |k+1,u=>if u<128 then [UInt8.ofNat u]else UInt8.ofNat (u % 128+128) :: Kj k (u / 128)

def put (u:Nat):List UInt8:=Kj 9 u

def Kn:Nat→Nat→List UInt8→Nat×Nat×Nat
 |_,_,[]=>(0,0,4)
 |i,acc,c :: t=>
  if i=9∧1<c.toNat then(0,0,6)
  else if c.toNat<128 then(acc+c.toNat*128 ^ i,i+1,0)
  else Kn (i+1) (acc+(c.toNat-128)*128 ^ i) t

def take (s:List UInt8):Nat×Nat×Nat:=Kn 0 0 s

theorem toNat_ofNat (n:Nat)(h:n<256):(UInt8.ofNat n).toNat=n:=by
 simp[UInt8.toNat_ofNat'];omega

theorem Pq (k u:Nat):1≤(Kj k u).length∧(Kj k u).length≤k+1:=by
 induction k generalizing u with
 |zero=>simp[Kj]
 |succ k ih=>
  unfold Kj;split
  ·simp
  ·have:=ih (u / 128);simp;omega

theorem put_len (u:Nat):1≤(put u).length∧(put u).length≤10:=Pq 9 u

theorem N4 (k u:Nat)(h:u<128):Kj k u=[UInt8.ofNat u]:=by
 cases k<;>simp[Kj,h]

theorem Pr (k u:Nat)(h:¬u<128):Kj (k+1) u=UInt8.ofNat (u % 128+128) :: Kj k (u / 128):=by
 simp[Kj,h]

def FD (i:Nat):Nat:=2 ^ (64-7*i)

theorem C9 (i u:Nat)(hi:i<9)(h:u<FD i):u / 128<FD (i+1):=by
 unfold FD at *;have e:64-7*i=(64-7*(i+1))+7:=by omega
 rw[e,Nat.pow_add]at h;omega

theorem N5 (i acc:Nat)(s:List UInt8)(hi:i≤9)(ha:acc<128 ^ i)(h:(Kn i acc s).2.2=0) :
  i<(Kn i acc s).2.1∧(Kn i acc s).2.1≤i+s.length∧(Kn i acc s).2.1≤10∧(Kn i acc s).1<2 ^ 64:=by
 induction s generalizing i acc with
 |nil=>simp[Kn]at h
 |cons c t ih=>
  unfold Kn at h ⊢;split
  ·rename_i h1;rw[QMy h1]at h;simp at h
  ·rename_i h1;rw[QMj h1]at h;have hp:128 ^ i=2 ^ (7*i):=by rw[show(128:Nat)=2 ^ 7 from rfl,←Nat.pow_mul]
   split
   ·rename_i h2;refine⟨Nat.lt_succ_self i,by simp,by show i+1≤10;omega,?_⟩;show acc+c.toNat*128 ^ i<2 ^ 64;rcases Nat.lt_or_ge i 9 with h9|h9
    ·have:c.toNat*128 ^ i≤127*128 ^ i:=QM9 _ (by omega);have h3:acc+c.toNat*128 ^ i<128 ^ (i+1):=by rw[Nat.pow_succ];omega
     have h4:128 ^ (i+1)≤128 ^ 9:=Nat.pow_le_pow_right (by omega) (by omega);omega
    ·obtain rfl:i=9:=by omega
     have:c.toNat≤1:=by omega
     omega
   ·rename_i h2;rw[QMj h2]at h;have h9:i<9:=by
     rcases Nat.lt_or_ge i 9 with h9|h9
     ·exact h9
     ·exact absurd ⟨by omega,by omega⟩ h1
    have hc:=c.toNat_lt;have h3:acc+(c.toNat-128)*128 ^ i<128 ^ (i+1):=by
     have:(c.toNat-128)*128 ^ i≤127*128 ^ i:=QM9 _ (by omega);rw[Nat.pow_succ];omega
    obtain⟨a,b,d,e⟩:=ih (i+1) _ (by omega) h3 h;exact⟨by omega,by simp;omega,d,e⟩

theorem Bs (s:List UInt8)(h:(take s).2.2=0):0<(take s).2.1∧(take s).2.1≤s.length∧(take s).2.1≤10∧(take s).1<2 ^ 64:=by
 have:=N5 0 0 s (by omega) (by omega) h
 simpa [take]using this

theorem N6 (i acc:Nat)(s t:List UInt8)(h:(Kn i acc s).2.2≠4):Kn i acc (s++t)=Kn i acc s:=by
 induction s generalizing i acc with
 |nil=>simp[Kn]at h
 |cons c r ih=>
  simp only[QMr];unfold Kn at h ⊢;split
  ·rfl
  ·rename_i h1;rw[QMj h1]at h;split
   ·rfl
   ·rename_i h2;rw[QMj h2]at h;exact ih _ _ h

theorem Il (i acc:Nat)(s:List UInt8)(hi:i≤9)(hl:10≤i+s.length):(Kn i acc s).2.2≠4:=by
 induction s generalizing i acc with
 |nil=>simp at hl;omega
 |cons c r ih=>
  unfold Kn;split
  ·simp
  ·rename_i h1;split
   ·simp
   ·rename_i h2;exact ih _ _ (by omega) (by simp at hl;omega)

theorem take_take (s:List UInt8):take (s.take 10)=take s:=by
 rcases Nat.lt_or_ge s.length 10 with h|h
 ·rw[QMD (by omega)]
 ·have:=N6 0 0 (s.take 10) (s.drop 10) (Il 0 0 _ (by omega) (by simp;omega));rw[QNi]at this;exact this.symm

end Go.Proofs.YtipjfckmopekaaaGreatDoor.Vp

namespace Go.Proofs.YtipjfckmopekaaaGreatDoor.Va
open Go Am Rc Bt Vp

theorem Jj (s:List UInt8)(j:Nat)(c:UInt8)(h:s[j]? = some c):(⟨⟨s⟩⟩:ByteArray).get! j=c:=by
 show(⟨s⟩:Array UInt8)[j]! = c;simp[h]

theorem GA (a:UInt8)(n:Nat)(hn:n<256):(a==UInt8.ofNat n)=decide (a.toNat=n):=by
 rw[QMY,QMb,QMa]
 constructor
 ·rintro rfl;rw[toNat_ofNat _ hn]
 ·intro h;rw[←UInt8.toNat_inj,toNat_ofNat _ hn,h]

set_option maxHeartbeats 4000000 in
theorem QHD (s:List UInt8)(i:Nat)(a b c d:UInt8)(t:List UInt8)(hr:s.drop i=a :: b :: c :: d :: t):(decide ((Xc s i).1=65533) && !Ki s i)=decide (sz s i=0)∧(sz s i≠0→(Xc s i).2=sz s i):=by
 have hsz:∀j,(s[i+j]? = (a :: b :: c :: d :: t)[j]?):=fun j=>by rw[←hr,QMJ]
 have hn:ByteArray.size ⟨⟨s⟩⟩=s.length:=rfl;have hl:s.length=i+(a :: b :: c :: d :: t).length:=by
  have h:=congrArg List.length hr;simp at h ⊢;omega
 have h0:=hsz 0;have h1:=hsz 1;have h2:=hsz 2;have h3:=hsz 3;simp only[QMA]at h0;have g0:=Jj s i a h0;have g1:=Jj s (i+1) b h1;have g2:=Jj s (i+2) c h2;have g3:=Jj s (i+3) d h3;have l1:(i+1<s.length)=True:=by simp at hl ⊢;omega
 have l2:(i+2<s.length)=True:=by simp at hl ⊢;omega
 have l3:(i+3<s.length)=True:=by simp at hl ⊢;omega
 have wa:=a.toNat_lt;have wb:=b.toNat_lt;have wc:=c.toNat_lt;have wd:=d.toNat_lt;have hrep:Ki s i=(decide (a.toNat=239)&&(decide (b.toNat=191)&&decide (c.toNat=189))):=by
  rw[←GA a 239 (by decide),←GA b 191 (by decide),←GA c 189 (by decide)];simp[Ki,hr]
 simp only[QNa,QM6]at h0 h1 h2 h3;generalize hD:Xc s i=D;generalize hS:sz s i=S;rw[hrep];simp only[Xc,Utf8.decode,Utf8.valid,Utf8.runeError,hn,l1,l2,l3,QMA,g0,g1,g2,g3,sz,h0,G7,tl,bt,QL2,seval,h1,h2,h3,decide_true,QND,QNf,QMt,QL9,QMa,QMb,ge_iff_le]at hD hS;clear hsz hr hl h0 h1 h2 h3 g0 g1 g2 g3 l1 l2 l3 hrep hn;generalize a.toNat=x at *;generalize b.toNat=y at *;generalize c.toNat=z at *;generalize d.toNat=u at *
 (repeat' split at hD)<;>subst hD<;>(repeat' split at hS)<;>subst hS<;>refine⟨?_,?_⟩<;>(try rw[QMY])<;>(try simp only[QMt,QMa,QM2,QNV,QNR])<;>first|omega|(intro _;rfl)|(simp;done)|(simp;omega)

theorem Ps (s:List UInt8)(i:Nat)(hi:i<s.length):(decide ((Xc s i).1=65533) && !Ki s i)=decide (sz s i=0)∧(sz s i≠0→(Xc s i).2=sz s i):=by
 have hsz:∀j,(s[i+j]? = (s.drop i)[j]?):=fun j=>by rw[QMJ]
 have hn:ByteArray.size ⟨⟨s⟩⟩=s.length:=rfl;have hl:s.length=i+(s.drop i).length:=by simp;omega
 generalize hr:s.drop i=r at hsz hl;have h0:=hsz 0;have h1:=hsz 1;have h2:=hsz 2;have h3:=hsz 3;simp only[QMA]at h0
 match r,hl with
 | [],hl=>simp at hl;omega
 | [a],hl=>
  have g0:=Jj s i a h0;have l1:(i+1<s.length)=False:=by simp at hl ⊢;omega
  have l2:(i+2<s.length)=False:=by simp at hl ⊢;omega
  have l3:(i+3<s.length)=False:=by simp at hl ⊢;omega
  have wa:=a.toNat_lt;have hrep:Ki s i=false:=by simp[Ki,hr]
  simp only[QNa,List.getElem?_nil,QM6]at h0 h1 h2 h3;simp only[Xc,Utf8.decode,Utf8.runeError,hn,l1,l2,l3,QMA,g0,sz,h0,G7,tl,bt,QL2,seval,h1,h2,h3,hrep,decide_false,QNw,QNS,QNf,QMo,and_false]
  (repeat' split)<;>refine⟨?_,?_⟩<;>(try rw[QMY])<;>(try simp only[QMa,QNb,QNf])<;>first|omega|(intro _;rfl)|(intro _;omega)|(simp;done)|(simp;omega)
 | [a,b],hl=>
  have g0:=Jj s i a h0;have g1:=Jj s (i+1) b h1;have l1:(i+1<s.length)=True:=by simp at hl ⊢;omega
  have l2:(i+2<s.length)=False:=by simp at hl ⊢;omega
  have l3:(i+3<s.length)=False:=by simp at hl ⊢;omega
  have wa:=a.toNat_lt;have wb:=b.toNat_lt;have hrep:Ki s i=false:=by simp[Ki,hr]
  simp only[QNa,List.getElem?_nil,QM6]at h0 h1 h2 h3;simp only[Xc,Utf8.decode,Utf8.runeError,hn,l1,l2,l3,QMA,g0,g1,sz,h0,G7,tl,bt,QL2,seval,h1,h2,h3,hrep,decide_false,decide_true,QNw,QNS,QND,QNf,QMo,and_false,QMt,QMa,QMb,ge_iff_le]
  (repeat' split)<;>refine⟨?_,?_⟩<;>(try rw[QMY])<;>(try simp only[QMa,QNb,QNf])<;>first|omega|(intro _;rfl)|(intro _;omega)|(simp;done)|(simp;omega)
 | [a,b,c],hl=>
  have g0:=Jj s i a h0;have g1:=Jj s (i+1) b h1;have g2:=Jj s (i+2) c h2;have l1:(i+1<s.length)=True:=by simp at hl ⊢;omega
  have l2:(i+2<s.length)=True:=by simp at hl ⊢;omega
  have l3:(i+3<s.length)=False:=by simp at hl ⊢;omega
  have wa:=a.toNat_lt;have wb:=b.toNat_lt;have wc:=c.toNat_lt;have hrep:Ki s i=(decide (a.toNat=239)&&(decide (b.toNat=191)&&decide (c.toNat=189))):=by
   rw[←GA a 239 (by decide),←GA b 191 (by decide),←GA c 189 (by decide)];simp[Ki,hr]
  simp only[QNa,List.getElem?_nil,QM6]at h0 h1 h2 h3;simp only[Xc,Utf8.decode,Utf8.valid,Utf8.runeError,hn,l1,l2,l3,QMA,g0,g1,g2,sz,h0,G7,tl,bt,QL2,seval,h1,h2,h3,hrep,decide_false,decide_true,QNw,QNS,QND,QNf,QMo,and_false,QMt,QL9,QMa,QMb,ge_iff_le]
  (repeat' split)<;>refine⟨?_,?_⟩<;>(try rw[QMY])<;>(try simp only[QMt,QMa,QM2,QNR,QNV])<;>first|omega|(intro _;rfl)|(intro _;omega)|(simp;done)|(simp;omega)
 |a :: b :: c :: d :: t,hl=>exact QHD s i a b c d t hr

def QHE (s:List UInt8)(k:Nat)(st:St):Prop :=
 ∃f fr i,st=⟨f,[fr],[]⟩∧i≤s.length∧s.length-i≤k∧Wc s s.length 0=Wc s k i∧f 0=.str s∧f 6=.ptr 0 6 0∧fr 6=.iter (.str s) i

theorem QHF (s:List UInt8):Qp Tryz.prog 216 [.str s] (.int .i64 (Wc s s.length 0)):=by
 refine QhC.fn (by simp) ?_;simp only[Qa,seval];refine GW rfl rfl ?_;simp only[Qa,seval];refine Qf (QHE s) s.length ⟨_,_,0,rfl,QMd _,QL3 _,rfl,(by rfl),(by rfl),(by rfl)⟩ ?_;rintro k st ⟨f,fr,i,rfl,hi,hk,hb,h0,h6,m6⟩;simp only[Qa,seval];refine GX (by exact h6) m6 (fun hlt=>?_) (fun hge=>?_)
 ·obtain⟨hd,hw⟩:=Ps s i hlt;obtain⟨k,rfl⟩:∃n,k=n+1:=⟨k-1,by omega⟩;have hbk:Wc s (k+1) i=if sz s i=0 then(i:Int)else Wc s k (i+sz s i):=by
   show(if i<s.length then _ else _)=_;rw[QMy hlt]
  have hwr:=QHC s i hi (Xc s i).1;rw[hd]at hwr;generalize Xc s i=cw at hw hwr;obtain⟨c,w⟩:=cw;simp only[h0,Qa,seval];refine Qb hwr rfl rfl rfl (.inl rfl) ?_;by_cases hz:sz s i=0
  ·simp only[hz,decide_true,hb,hbk,Qa,seval]
  ·have hw:=hw hz;simp only at hw;have hle:=R9 s i hlt hz;simp only[hz,decide_false,Qa,seval];exact⟨k,by omega,_,_,i+sz s i,rfl,hle,by omega,by rw[hb,hbk,QMj hz],(by exact h0),(by exact h6),by rw[←hw]<;>first|rfl|simp only[eE,seval]⟩
 ·have hbk:Wc s k i = -1:=by
   cases k with
   |zero=>rfl
   |succ k=>
    show(if i<s.length then _ else _)=_;rw[QMj (by omega)]
  simp only[hb,hbk,Qa,seval]

theorem Pt (s:List UInt8):Qp Tryz.prog 168 [.str s] (.bool (Uu s)):=by
 refine Qd8.fn (by simp) ?_;simp only[Qa,seval];refine Qb (QHF s) rfl rfl rfl (.inl rfl) ?_;simp only[Qa,seval]
 try rfl

end Go.Proofs.YtipjfckmopekaaaGreatDoor.Va

namespace Go.Proofs.YtipjfckmopekaaaGreatDoor.Va
open Go Am Rc Bt

def UK (k:Int)(b:Nat):Bool :=
 if k=1 then decide ((b:Int)≤1)else if k=2 then decide (IntKind.i64.wrap (b:Int)≥-2147483648)&&decide (IntKind.i64.wrap (b:Int)≤2147483647)
 else if k=4 then decide ((b:Int)<4294967296)else if k=9 then decide ((b:Int)<2147483648)else true

theorem QHG (k:Int)(b:Nat):Qp Tryz.prog 294 [.int .i64 k,.int .u64 (b:Nat)] (.bool (UK k b)):=by
 have e1:decide ((b:Int)≤4294967295)=decide ((b:Int)<4294967296):=by rw[decide_eq_decide];omega
 have e2:decide ((b:Int)≤2147483647)=decide ((b:Int)<2147483648):=by rw[decide_eq_decide];omega
 refine Qkw.fn (by simp) ?_;simp only[Qa,seval];unfold UK;by_cases h1:k=1
 ·subst h1;have b1:((1:Int)==1)=true:=rfl;simp only[b1,Qa,seval]
 ·have b1:(k==1)=false:=by simp[h1]
  by_cases h2:k=2
  ·subst h2;have b2:((2:Int)==2)=true:=rfl;simp only[b1,b2,h1,Qa,seval];cases hd:decide (IntKind.i64.wrap (b:Int)≥-2147483648)<;>simp only[QND,QNw,Qa,seval]
  ·have b2:(k==2)=false:=by simp[h2]
   by_cases h9:k=9
   ·subst h9;have b9:((9:Int)==9)=true:=rfl;simp only[b1,b2,b9,h1,h2,e2,Qa,seval]
   ·have b9:(k==9)=false:=by simp[h9]
    by_cases h4:k=4
    ·subst h4;have b4:((4:Int)==4)=true:=rfl;simp only[b1,b2,b9,b4,h1,h2,e1,Qa,seval]
    ·have b4:(k==4)=false:=by simp[h4]
     simp only[b1,b2,b9,b4,h1,h2,h4,h9,Qa,seval]

end Go.Proofs.YtipjfckmopekaaaGreatDoor.Va

namespace Go.Proofs.YtipjfckmopekaaaGreatDoor.Ev
open Go Am Rc

def tab:D0:=fun k=>match k with
 |9=>some (r9,o9,100)
 |25=>some (r25,o25,34)
 |10=>some (G5,o10,40)
 |24=>some (r24,o24,8)
 |19=>some (r19,o19,16)
 |15=>some (CF,o15,16)
 |12=>some (K7,o12,20)
 |50=>some (r50,o50,10)
 |51=>some (r51,o51,14)
 |26=>some (r26,o26,15)
 |27=>some (r27,o27,19)
 |28=>some (r28,o28,32)
 |29=>some (r29,o29,57)
 |37=>some (r37,o37,30)
 |52=>some (r52,o52,19)
 |53=>some (r53,o53,8)
 |54=>some (r54,o54,24)
 |55=>some (r55,o55,77)
 |56=>some (r56,o56,23)
 |57=>some (r57,o57,86)
 |58=>some (r58,o58,54)
 |72=>some (r72,o72,12)
 |73=>some (r73,o73,14)
 |83=>some (r83,o83,21)
 |84=>some (r84,o84,11)
 |85=>some (r85,o85,23)
 |86=>some (r86,o86,12)
 |87=>some (r87,o87,11)
 |88=>some (r88,o88,12)
 |89=>some (r89,o89,41)
 |90=>some (r90,o90,74)
 |91=>some (r91,o91,69)
 |92=>some (r92,o92,9)
 |95=>some (r95,o95,40)
 |96=>some (Rl,BQ,8)
 |97=>some (r97,o97,40)
 |98=>some (r98,o98,67)
 |99=>some (r99,o99,27)
 |100=>some (Qah,Qai,9)
 |102=>some (Qat,Qau,20)
 |103=>some (QaD,QaE,24)
 |104=>some (QaK,QaL,26)
 |105=>some (QaR,QaS,19)
 |107=>some (QaW,QaX,13)
 |108=>some (Qa6,Qa7,20)
 |109=>some (Qbb,Qbc,14)
 |116=>some (Qbg,Qbh,8)
 |117=>some (Qbo,Qbp,20)
 |119=>some (Qbt,Qbu,21)
 |120=>some (QbH,QbI,47)
 |122=>some (QbM,QbN,15)
 |133=>some (QbR,QbS,8)
 |134=>some (QbW,QbX,7)
 |135=>some (Qb1,Qb2,8)
 |137=>some (Qb6,Qb7,12)
 |138=>some (Qcb,Qcc,11)
 |139=>some (Qcg,Qch,8)
 |140=>some (Qcl,Qcm,7)
 |141=>some (Qcq,Qcr,10)
 |145=>some (QcB,QcC,24)
 |147=>some (QcM,QcN,24)
 |149=>some (QcR,QcS,7)
 |150=>some (Qc2,Qc3,24)
 |151=>some (Qc7,Qc8,10)
 |155=>some (Qdc,Qdd,13)
 |157=>some (Qdo,Qdp,20)
 |158=>some (Qdt,Qdu,5)
 |162=>some (Qdy,Qdz,6)
 |163=>some (QdD,QdE,11)
 |165=>some (QdI,QdJ,13)
 |166=>some (QdW,QdX,47)
 |167=>some (Qd1,Qd2,35)
 |168=>some (Qd6,Qd7,6)
 |169=>some (Qed,Qee,22)
 |170=>some (Qen,Qeo,46)
 |174=>some (Qes,Qet,20)
 |175=>some (Qex,Qey,9)
 |176=>some (QeC,QeD,9)
 |177=>some (QeQ,QeR,59)
 |178=>some (Qe2,Qe3,19)
 |180=>some (NV,Gr,8)
 |181=>some (NW,Gs,8)
 |182=>some (Qe6,Qe7,9)
 |183=>some (Qfa,Qfb,10)
 |184=>some (Qfh,Qfi,17)
 |186=>some (Qfl,Qfm,20)
 |187=>some (QfB,QfC,63)
 |188=>some (QfF,QfG,6)
 |189=>some (QfL,QfM,20)
 |195=>some (QfX,QfY,19)
 |196=>some (Qf2,Qf3,8)
 |197=>some (Qf9,Qga,18)
 |198=>some (Qgl,Qgm,27)
 |203=>some (Qgq,Qgr,9)
 |204=>some (Qgv,Qgw,9)
 |205=>some (QgH,QgI,19)
 |206=>some (QgM,QgN,9)
 |207=>some (QgR,QgS,8)
 |208=>some (Qg4,Qg5,27)
 |209=>some (Qg8,Qg9,9)
 |210=>some (Qhk,Qhl,36)
 |212=>some (Qhp,Qhq,12)
 |216=>some (QhA,QhB,16)
 |217=>some (QhF,QhG,9)
 |219=>some (QhR,QhS,19)
 |220=>some (QhY,QhZ,31)
 |223=>some (Qie,Qif,63)
 |229=>some (Qim,Qin,28)
 |230=>some (Qiy,Qiz,53)
 |241=>some (QiJ,QiK,19)
 |242=>some (QiV,QiW,19)
 |243=>some (Qi9,Qja,66)
 |244=>some (Qjm,Qjn,27)
 |251=>some (Qjz,QjA,49)
 |254=>some (QjL,QjM,53)
 |267=>some (QjP,QjQ,9)
 |274=>some (Qj3,Qj4,34)
 |275=>some (Qj8,Qj9,8)
 |279=>some (Qkf,Qkg,39)
 |292=>some (NX,M8,143)
 |294=>some (Qku,Qkv,28)
 |300=>some (Qkz,QkA,8)
 |_=>none

theorem Qr7:Hp Tryz.prog tab:=by
 intro k c rs N h;unfold tab at h;split at h
 ·cases h;exact k9
 ·cases h;exact k25
 ·cases h;exact Lj
 ·cases h;exact k24
 ·cases h;exact k19
 ·cases h;exact k15
 ·cases h;exact k12
 ·cases h;exact k50
 ·cases h;exact Lk
 ·cases h;exact k26
 ·cases h;exact k27
 ·cases h;exact k28
 ·cases h;exact k29
 ·cases h;exact k37
 ·cases h;exact Lo
 ·cases h;exact k53
 ·cases h;exact k54
 ·cases h;exact LL
 ·cases h;exact k56
 ·cases h;exact k57
 ·cases h;exact k58
 ·cases h;exact k72
 ·cases h;exact k73
 ·cases h;exact k83
 ·cases h;exact k84
 ·cases h;exact k85
 ·cases h;exact k86
 ·cases h;exact k87
 ·cases h;exact k88
 ·cases h;exact k89
 ·cases h;exact k90
 ·cases h;exact k91
 ·cases h;exact k92
 ·cases h;exact k95
 ·cases h;exact L5
 ·cases h;exact k97
 ·cases h;exact Rm
 ·cases h;exact k99
 ·cases h;exact QC3
 ·cases h;exact Qav
 ·cases h;exact QaF
 ·cases h;exact QaM
 ·cases h;exact QaT
 ·cases h;exact QaY
 ·cases h;exact Qa8
 ·cases h;exact Qbd
 ·cases h;exact Qbi
 ·cases h;exact Qbq
 ·cases h;exact Qbv
 ·cases h;exact QbJ
 ·cases h;exact QbO
 ·cases h;exact QbT
 ·cases h;exact QbY
 ·cases h;exact Qb3
 ·cases h;exact Qb8
 ·cases h;exact Qcd
 ·cases h;exact Qci
 ·cases h;exact Qcn
 ·cases h;exact Qcs
 ·cases h;exact QcD
 ·cases h;exact QcO
 ·cases h;exact QcT
 ·cases h;exact Qc4
 ·cases h;exact Qc9
 ·cases h;exact Qde
 ·cases h;exact Qdq
 ·cases h;exact Qdv
 ·cases h;exact QdA
 ·cases h;exact QdF
 ·cases h;exact QdK
 ·cases h;exact QdY
 ·cases h;exact Qd3
 ·cases h;exact Qd8
 ·cases h;exact Qef
 ·cases h;exact Qep
 ·cases h;exact Qeu
 ·cases h;exact Qez
 ·cases h;exact QeE
 ·cases h;exact QeS
 ·cases h;exact Qe4
 ·cases h;exact M2
 ·cases h;exact M3
 ·cases h;exact QC4
 ·cases h;exact Qfc
 ·cases h;exact M4
 ·cases h;exact Qfn
 ·cases h;exact QC5
 ·cases h;exact QfH
 ·cases h;exact QfN
 ·cases h;exact M5
 ·cases h;exact Qf4
 ·cases h;exact M6
 ·cases h;exact Qgn
 ·cases h;exact Qgs
 ·cases h;exact Qgx
 ·cases h;exact QgJ
 ·cases h;exact QgO
 ·cases h;exact QgT
 ·cases h;exact M7
 ·cases h;exact Qha
 ·cases h;exact Qhm
 ·cases h;exact Qhr
 ·cases h;exact QhC
 ·cases h;exact QhH
 ·cases h;exact QhT
 ·cases h;exact Qh0
 ·cases h;exact QC6
 ·cases h;exact Qio
 ·cases h;exact QC7
 ·cases h;exact QiL
 ·cases h;exact QiX
 ·cases h;exact Qjb
 ·cases h;exact Qjo
 ·cases h;exact QjB
 ·cases h;exact QC8
 ·cases h;exact QjR
 ·cases h;exact Qj5
 ·cases h;exact Qka
 ·cases h;exact Qkh
 ·cases h;exact Qkj
 ·cases h;exact Qkw
 ·cases h;exact QkB
 ·cases h

def nat:Kk:=fun _ _ _=>none

theorem nat_ok:Kx Tryz.prog nat:=by
 intro k args m v m' h;cases h

end Go.Proofs.YtipjfckmopekaaaGreatDoor.Ev

namespace Go.Proofs.YtipjfckmopekaaaGreatDoor.Va
open Go Am Rc Bt

def vo (k:Int)(b:Nat)(t:List UInt8)(l p s r:List AV):AV:=.agg [.int .i64 k,.int .u64 (b:Nat),.str t,.list l,.list p,.list s,.list r]

section
variable (k:Int)(b:Nat)(t:List UInt8)(l p s r:List AV)

def Ww:Bool:=(l.length:Int)==0&&(p.length:Int)==0&&(s.length:Int)==0&&(r.length:Int)==0
def zer:Bool:=isk k&&Ww l p s r&&(b:Int)==0&&t==[]
def emp:Bool:=(k==11&&(l.length:Int)==0)||(k==12&&(p.length:Int)==0)||zer k b t l p s r

theorem QHH:Qp Tryz.prog 194 [vo k b t l p s r] (.bool (Ww l p s r)):=by
 refine QEM.fn (by simp) ?_;simp only[vo,Ww,eE,seval];cases h0:((l.length:Int)==0)<;>cases h1:((p.length:Int)==0)<;>cases h2:((s.length:Int)==0)<;>simp only[h1,h2,QND,QNw,eE,seval]

theorem Qr9 (hl:l.length≤140737488351232)(hp:p.length≤140737488351232)(hs:s.length≤140737488351232)(hr:r.length≤140737488351232) :
  Qp Tryz.prog 229 [vo k b t l p s r] (.bool (Ww l p s r&&(if ZN k=true then(b:Int)==0 else t==[]))):=by
 refine Qio.fn (by simp) ?_;have w:IntKind.i64.wrap (IntKind.i64.wrap (IntKind.i64.wrap ((l.length:Int)+(p.length:Int))+(s.length:Int))+(r.length:Int))=(l.length+p.length+s.length+r.length:Nat):=by
  simp only[QF];omega
 simp only[vo,w,eE,seval];by_cases h:l.length+p.length+s.length+r.length=0
 ·have d:decide (((l.length+p.length+s.length+r.length:Nat):Int) > 0)=false:=QNM (by omega);have e:Ww l p s r=true:=by
   unfold Ww;simp only[QMt,QMb];omega
  simp only[d,e,QND,eE,seval];refine Qb (QrT k) rfl rfl rfl (.inl rfl) ?_;cases ZN k
  ·simp only[QMo,QN,eE,seval]
  ·simp only[eE,seval]
 ·have d:decide (((l.length+p.length+s.length+r.length:Nat):Int) > 0)=true:=QNQ (by omega);have e:Ww l p s r=false:=by
   unfold Ww;rw[QNO];simp only[ne_eq,QMt,QMb];omega
  simp only[d,e,QNw,Qa,seval]

end

open Br

def key (o:PO):Bool:=if o.card=5 then decide (o.key≥1)&&decide (o.key≤7)&&o.key != 6 else o.key==0
def HF (P:PL)(o:PO):Bool :=
 if o.kind=10 then decide (o.target≥0)&&decide (o.target<(P.progs.length:Int))&&o.card != 3
 else if o.kind=9 then decide (o.target≥0)&&decide (o.target<(P.enums.length:Int))else isk o.kind&&o.target == -1
def XU (P:PL)(o:PO):Bool:=Uu o.alias&&decide ((o.alias.length:Int)≤4096)&&decide (o.card≥1)&&decide (o.card≤5)&&key o&&HF P o
def XN (o:PO):Bool:=o.union == -1||o.card==2
def ZP:List PO→Int→Int→Option Int
 | [],n,_=>some n
 |o :: l,n,b=>if o.union=n then ZP l (n+1) n else if o.union = -1∨o.union=b then ZP l n o.union else none
def ZB (g:PG):Bool:=match ZP g.ops 0 (-1)with
 |some n=>g.unions==n
 |none=>false
def Xr (k kd:Int)(b:Nat)(t:List UInt8)(l p s r:List AV):Bool :=
 isk k&&kd==k&&Ww l p s r&&(if ZN kd=true then(b:Int)==0 else t==[])&&UK k b&&decide ((t.length:Int)≤4096)&&(k != 7||Uu t)
def alias:List UInt8:=[97,108,105,97,115]
def nok:List AV→Bool
 | [.int _ kd,.int _ b,.str t,.list l,.list p,.list s,.list r]=>Xr 7 kd b.toNat t l p s r
 |_=>false
def ZD (i:PI):Bool:=match i.notes with
 | []=>true
 | [n]=>n.name==alias&&nok n.val
 |_=>false
def ZI (P:PL)(g:PG):Bool:=ZB g&&g.ops.all fun o=>XU P o&&XN o
def JY (x:PE):Bool:=x.notes.isEmpty&&x.items.all ZD
def args (P:PL):Bool:=P.progs.all (ZI P)&&P.enums.all JY

theorem Im {α:Type}(l:List α)(p q:α→Bool):(l.all fun x=>p x&&q x)=(l.all p&&l.all q):=by
 induction l with
 |nil=>rfl
 |cons x l ih=>
  simp only[QNe,ih];cases p x<;>cases q x<;>cases l.all p<;>cases l.all q<;>rfl

theorem Qsb (k kd:Int)(b:Nat)(t:List UInt8)(l p s r:List AV)(hl:l.length≤140737488351232)(hp:p.length≤140737488351232)(hs:s.length≤140737488351232)(hr:r.length≤140737488351232) :
  Qp Tryz.prog 279 [.int .i64 k,vo kd b t l p s r] (.bool (Xr k kd b t l p s r)):=by
 have hle:=Qr9 kd b t l p s r hl hp hs hr;have hw:=QHG k b;simp only[vo]at hle;have n1:(kd != k)=!(kd==k):=rfl;have n2:(k != 7)=!(k==7):=rfl;have n3:decide ((t.length:Int) > 4096)=!decide ((t.length:Int)≤4096):=(by rw[QMY];simp only[QMa,QM2,QNR];omega);refine Qkh.fn (by simp) ?_;simp only[vo,Xr,n2,eE,seval];refine Qb (Fp k) rfl rfl rfl (.inl rfl) ?_;cases isk k
 ·simp only[QNw,QNb,Qa,seval]
 simp only[QND,QNE,n1,eE,seval];cases a1:(kd==k)
 ·simp only[QNw,QNb,Qa,seval]
 simp only[QND,QNE,eE,seval];refine Qb hle rfl rfl rfl (.inl rfl) ?_;cases(Ww l p s r&&(if ZN kd=true then(b:Int)==0 else t==[]))
 ·simp only[QNw,QNb,Qa,seval]
 simp only[QND,QNE,eE,seval];refine Qb hw rfl rfl rfl (.inl rfl) ?_;cases UK k b
 ·simp only[QNw,QNb,Qa,seval]
 simp only[QND,QNE,n3,eE,seval];cases a2:decide ((t.length:Int)≤4096)
 ·simp only[QNw,QNb,Qa,seval]
 simp only[QND,QNE,n2,Qa,seval];cases a3:(k==7)
 ·simp only[QNb,QNG,Qa,seval]
 ·simp only[QNE,QNH,eE,seval];refine Qb (Pt t) rfl rfl rfl (.inl rfl) ?_;simp only[Qa,seval]

theorem QHI (o:PO):Qp Tryz.prog 169 [QA o] (.bool (key o)):=by
 refine Qef.fn (by simp) ?_;simp only[QA,PO.cells,key,eE,seval];by_cases h:o.card=5
 ·have b0:(o.card != 5)=false:=by simp[h]
  simp only[b0,QMy h,eE,seval];cases a1:decide (o.key≥1)<;>cases a2:decide (o.key≤7)<;>simp only[a2,QND,QNw,eE,seval]
 ·have b0:(o.card != 5)=true:=by simp[h]
  simp only[b0,QMj h,eE,seval]

section
variable (P:PL)

theorem QHJ (o:PO):Qp Tryz.prog 170 [P.av,QA o] (.bool (HF P o)):=by
 have e0:P.av=.agg [.list (P.progs.map Qj),.list (P.enums.map Qt)]:=rfl;refine Qep.fn (by simp) ?_;simp only[e0,QA,PO.cells,HF,eE,seval];by_cases h:o.kind=10
 ·have b0:(o.kind==10)=true:=by simp[h]
  simp only[b0,QMy h,eE,seval];cases a1:decide (o.target≥0)<;>cases a2:decide (o.target<(P.progs.length:Int))<;>simp only[a2,QND,QNw,QMZ,eE,seval]
 ·have b0:(o.kind==10)=false:=by simp[h]
  by_cases h9:o.kind=9
  ·have b1:(o.kind==9)=true:=by simp[h9]
   simp only[b0,b1,QMj h,QMy h9,eE,seval];cases a1:decide (o.target≥0)<;>simp only[QND,QNw,QMZ,eE,seval]
  ·have b1:(o.kind==9)=false:=by simp[h9]
   simp only[b0,b1,QMj h,QMj h9,eE,seval];refine Qb (Fp o.kind) rfl rfl rfl (.inl rfl) ?_;cases isk o.kind<;>simp only[QND,QNw,eE,seval]

def UnI (g:PG)(k:Nat)(st:St):Prop :=
 ∃f fr i n b,st=⟨f,[fr],[]⟩∧k=g.ops.length-i∧i≤g.ops.length∧(g.ops.take i).all XN=true∧ZP g.ops 0 (-1)=ZP (g.ops.drop i) n b∧0≤n∧n≤i∧-1≤b∧b<n∧f 1=.ptr 0 1 0∧f 3=.int .i64 (n-1)∧f 4=.int .i64 b∧
  f 8=.list (g.ops.map fun o=>.agg o.cells)∧f 9=.int .i64 (g.ops.length:Nat)∧f 10=.int .i64 (i:Nat)∧fr 1=.cells g.cells∧∀s∈[6],(fr s).isRow=false

theorem HG {l:List PO}{i:Nat}{o:PO}(h:l[i]? = some o)(n b:Int):ZP (l.drop i) n b=if o.union=n then ZP (l.drop (i+1)) (n+1) n else if o.union = -1∨o.union=b then ZP (l.drop (i+1)) n o.union else none:=by
 have hlt:i<l.length:=(QL5.1 h).1;rw[QMN hlt,show l[i]=o from(QL5.1 h).2];rfl

theorem QHK (g:PG)(hl:g.ops.length≤9223372036854775000):Qp Tryz.prog 166 [Qj g] (.bool (g.ops.all XN&&ZB g)):=by
 refine QdY.fn (by simp) ?_;simp only[Qj,PG.cells,QMZ,eE,seval];refine Qf (UnI g) _ ⟨_,_,0,0,-1,rfl,rfl,QMd _,rfl,rfl,by decide,by decide,by decide,by decide,(by rfl),(by rfl),(by rfl),(by rfl),(by rfl),(by rfl),(by rfl),by simp<;>rfl⟩ ?_;rintro _ st ⟨f0,fr0,i,n,b,rfl,rfl,hil,hu,hj,hn0,hni,hb1,hbn,h10,h30,h40,h80,h90,hA0,m10,r6⟩;refine QM (a:=_) [6] r6 ?_;intro f fr hf hm hn6;have h1:f 1=.ptr 0 1 0:=by rw[hf,h10]<;>rfl
 have h3:f 3=.int .i64 (n-1):=by rw[hf,h30]<;>rfl
 have h4:f 4=.int .i64 b:=by rw[hf,h40]<;>rfl
 have h8:f 8=.list (g.ops.map fun o=>.agg o.cells):=by rw[hf,h80]<;>rfl
 have h9:f 9=.int .i64 (g.ops.length:Nat):=by rw[hf,h90]<;>rfl
 have hA:f 10=.int .i64 (i:Nat):=by rw[hf,hA0]<;>rfl
 have m1:fr 1=.cells g.cells:=by rw[hm 1 (by decide),m10]<;>rfl
 have n6:=hn6 6 (by decide);clear hf hm hn6 h10 h30 h40 h80 h90 hA0 m10 r6;simp only[PG.cells]at m1;have w0:IntKind.i64.wrap (n-1+1)=n:=by rw[QF];omega
 simp only[h9,hA,Qa,seval];by_cases hlt:i<g.ops.length
 ·obtain⟨o,hi⟩:∃o,g.ops[i]? = some o:=⟨g.ops[i],QL6 hlt⟩;have hg:(g.ops.map fun o=>AV.agg o.cells)[i]? = some (.agg o.cells):=by simp[hi]
  have e1:=Qq i _ hlt (by simp only[maxLen];omega);have ht:=Q1 (q:=XN) hi;rw[hu,QND]at ht;have hbad:XN o=false→g.ops.all XN=false:=fun h=>by
   rw[QNO];intro h';rw[QMh.1 h' o (QMi hi)]at h;cases h
  rw[HG hi]at hj;have fin:∀(f':Fr) (fr':Nat→Ob) (n':Int),XN o=true→(if o.union=n then n'=n+1 else n'=n)→ZP g.ops 0 (-1)=ZP (g.ops.drop (i+1)) n' o.union→(o.union=n∨o.union = -1∨o.union=b)→f' 1=.ptr 0 1 0→f' 3=.int .i64 (n'-1)→f' 4=.int .i64 o.union→
    f' 8=.list (g.ops.map fun o=>.agg o.cells)→f' 9=.int .i64 (g.ops.length:Nat)→f' 10=.int .i64 ((i+1:Nat):Int)→fr' 1=.cells g.cells→(∀s∈[6],(fr' s).isRow=false)→∃k,k<g.ops.length-i∧UnI g k ⟨f',[fr'],[]⟩:=by
   intro f' fr' n' a b' c d e1 e3 e4 e8 e9 eA em er;refine⟨g.ops.length-(i+1),by omega,f',fr',i+1,n',o.union,rfl,rfl,by omega,by rw[ht,a],c,?_,?_,?_,?_,e1,e3,e4,e8,e9,eA,em,er⟩<;>split at b'<;>omega
  simp only[PO.cells]at hg;simp only[Qo hlt,Qm,QNt,Qd,hg,PO.cells,n6,h8,hA,eE,seval];by_cases a1:o.union = -1
  ·have b1:(o.union != -1)=false:=by simp[a1]
   have hk:XN o=true:=by simp[XN,a1]
   rw[QMj (by omega),QMy (.inl a1)]at hj;have mx:(if n-1<o.union then o.union else n-1)=n-1:=QMj (by omega);simp only[b1,h3,hA,mx,e1,eE,seval];exact fin _ _ n hk (by rw[QMj (by omega)]) hj (.inr (.inl a1)) (by exact h1) (by rfl) (by rfl) (by exact h8) (by exact h9) (by rfl) (by exact m1) (by simp<;>rfl)
  have b1:(o.union != -1)=true:=by simp[a1]
  by_cases a2:o.card=2
  case neg=>
   have b2:(o.card != 2)=true:=by simp[a2]
   have hk:XN o=false:=by simp[XN,a1,a2]
   simp only[b1,b2,hbad hk,QNw,eE,seval]
  have b2:(o.card != 2)=false:=by simp[a2]
  have hk:XN o=true:=by simp[XN,a2]
  by_cases a3:o.union=n
  ·have b3:(o.union != n)=false:=by simp[a3]
   rw[QMy a3,←a3]at hj;have mx:(if n-1<o.union then o.union else n-1)=o.union:=QMy (by omega);simp only[b1,b2,b3,h3,hA,w0,mx,e1,eE,seval];exact fin _ _ (o.union+1) hk (by rw[QMy a3,a3]) hj (.inl a3) (by exact h1) (by simp only[Qa,seval];congr 1;omega) (by rfl) (by exact h8) (by exact h9) (by rfl) (by exact m1) (by simp<;>rfl)
  have b3:(o.union != n)=true:=by simp[a3]
  by_cases a4:o.union=b
  ·have b4:(o.union != b)=false:=by simp[a4]
   rw[QMj a3,QMy (.inr a4)]at hj;have mx:(if n-1<o.union then o.union else n-1)=n-1:=QMj (by omega);simp only[b1,b2,b3,b4,h3,h4,hA,w0,mx,e1,eE,seval];exact fin _ _ n hk (by rw[QMj a3]) hj (.inr (.inr a4)) (by exact h1) (by rfl) (by rfl) (by exact h8) (by exact h9) (by rfl) (by exact m1) (by simp<;>rfl)
  ·have b4:(o.union != b)=true:=by simp[a4]
   rw[QMj a3,QMj (by omega)]at hj;have hun:ZB g=false:=by unfold ZB;rw[hj]
   simp only[b1,b2,b3,b4,hun,QNS,h3,h4,w0,eE,seval]
 ·rw[QMD (by omega)]at hu;rw[QMG (by omega)]at hj;have hun:ZB g=(g.unions==n):=by unfold ZB;rw[hj];rfl
  simp only[QE hlt,h1,h3,m1,w0,hu,hun,QND,eE,seval]

theorem QHL (o:PO)(fr2 fr:Nat→Ob)(h1:fr 1=.cells [.list (P.progs.map Qj),.list (P.enums.map Qt)]):Qh Tryz.prog 167 [QA o,.ptr 7 1 0] [Qc,Qc,Qc,fr2,Qc,Qc,Qc,fr] fun y m1=>y=.bool (!XU P o)∧m1=[Qc,Qc,Qc,fr2,Qc,Qc,Qc,fr]:=by
 have n1:decide ((o.alias.length:Int) > 4096)=!decide ((o.alias.length:Int)≤4096):=(by rw[QMY];simp only[QMa,QM2,QNR];omega);have n2:decide (o.card<1)=!decide (o.card≥1):=(by rw[QMY];simp only[QMa,QM2,QNR];omega);have n3:decide (o.card > 5)=!decide (o.card≤5):=(by rw[QMY];simp only[QMa,QM2,QNR];omega);have hk:=QHI o;have ha:Qp Tryz.prog 170 [.agg [.list (P.progs.map Qj),.list (P.enums.map Qt)],QA o] (.bool (HF P o)):=QHJ P o;simp only[QA,PO.cells]at hk ha;refine Qd3.go (by simp) ?_;simp only[QA,PO.cells,XU,eE,seval];refine Qb (Pt o.alias) rfl rfl rfl (.inl rfl) ?_;cases Uu o.alias
 ·simp only[QNw,QNb,Qa,seval]
 simp only[QND,QNE,n1,eE,seval];cases a1:decide ((o.alias.length:Int)≤4096)
 ·simp only[QNw,QNb,Qa,seval]
 simp only[n2,QND,QNE,eE,seval];cases a2:decide (o.card≥1)
 ·simp only[QNw,QNb,Qa,seval]
 simp only[n3,QND,QNE,eE,seval];cases a3:decide (o.card≤5)
 ·simp only[QNw,QNb,Qa,seval]
 simp only[QND,QNE,eE,seval];refine Qb hk rfl rfl rfl (.inl rfl) ?_;cases key o
 ·simp only[QNw,QNb,Qa,seval]
 simp only[QND,QNE,h1,eE,seval];refine Qb ha rfl rfl rfl (.inl rfl) ?_;simp only[Qa,seval]

theorem QHM (g:PG)(hl:g.ops.length≤9223372036854775000)(fr:Nat→Ob)(h1:fr 1=.cells [.list (P.progs.map Qj),.list (P.enums.map Qt)]) :
  Qh Tryz.prog 165 [Qj g,.ptr 3 1 0] [Qc,Qc,Qc,fr] fun y m1=>y=.bool (!ZI P g)∧m1=[Qc,Qc,Qc,fr]:=by
 have hu:=QHK g hl;have e:ZI P g=((g.ops.all XN&&ZB g)&&g.ops.all (XU P)):=by
  unfold ZI;rw[show(g.ops.all fun o=>XU P o&&XN o)=(g.ops.all (XU P)&&g.ops.all XN)from Im ..];cases ZB g<;>cases g.ops.all (XU P)<;>cases g.ops.all XN<;>rfl
 simp only[Qj,PG.cells]at hu;refine QdK.go (by simp) ?_;simp only[Qj,PG.cells,e,eE,seval];refine Qb hu rfl rfl rfl (.inl rfl) ?_;cases(g.ops.all XN&&ZB g)
 ·simp only[QNw,QNb,Qa,seval]
 simp only[QND,QNE,eE,seval];refine Qi (Fw g.ops (by simp only[maxLen];omega) (fun o=>!XU P o) 167 [.ptr 4 1 0] _ fun o _=>QHL P o _ fr h1) (by simp only[QMB,QM5,Qa,seval]<;>rfl) ?_;simp only[Xe,Qa,seval]

end

def N7:D0:=fun k=>match k with
 |249=>some (Qqt,Qqu,16)
 |_=>none
theorem B1:Hp Tryz.prog N7:=by
 intro k c rs N h;unfold N7 at h;split at h
 ·cases h;exact QFI
 ·cases h
def Ma:Option (AV×Ql)→Bool
 |some (.mp ks vs,_)=>match Jm alias ks vs with
  |some (.agg [.int .i64 a,.int .i64 b])=>a==7&&b==84
  |_=>false
 |_=>false
theorem Mb:Ma (Wt Ev.nat N7 (ZM Ev.nat N7 300) 249 [] [])=true:=by decide +kernel
theorem Qsc:∃ks vs,Qp Tryz.prog 249 [] (.mp ks vs)∧Jm alias ks vs=some (.agg [.int .i64 7,.int .i64 84]):=by
 have h:=Mb;unfold Ma at h;split at h
 ·rename_i ks vs m' h1;split at h
  ·rename_i a b h2;simp only[QMt,QMb]at h;obtain⟨rfl,rfl⟩:=h;exact⟨ks,vs,(K6 Ev.nat_ok B1 (Ci Ev.nat_ok B1 300) _ _ _ _ _ h1).mono fun _ _ e=>e.1,h2⟩
  ·cases h
 ·cases h

theorem QHN:Qp Tryz.prog 278 [.str alias] (.int .i64 7):=by
 obtain⟨ks,vs,h1,h2⟩:=Qsc;have hg:AV.gr (.agg [.int .i64 7,.int .i64 84])=true:=rfl;refine QGc.fn (by simp) ?_;simp only[Qa,seval];refine Qb h1 rfl rfl rfl (.inl rfl) ?_;simp only[KZ,h2,hg,Qa,seval]

section
variable (kd:Int)(b:Nat)(t:List UInt8)(l p s r:List AV)(hl:l.length≤140737488351232)(hp:p.length≤140737488351232)(hs:s.length≤140737488351232)(hr:r.length≤140737488351232)

def nv:AV:=.agg [.str alias,.int .i64 kd,.int .u64 (b:Nat),.str t,.list l,.list p,.list s,.list r]

include hl hp hs hr in
theorem QHO:Qp Tryz.prog 250 [nv kd b t l p s r] (.bool (Xr 7 kd b t l p s r)):=by
 have hf:=Qsb 7 kd b t l p s r hl hp hs hr;have b0:((7:Int) != 0)=true:=rfl;simp only[vo]at hf;refine QFL.fn (by simp) ?_;simp only[nv,eE,seval];refine Qb QHN rfl rfl rfl (.inl rfl) ?_;simp only[b0,eE,seval];refine Qb hf rfl rfl rfl (.inl rfl) ?_;simp only[Qa,seval]

include hl hp hs hr in
theorem QHP (last:List UInt8):Qp Tryz.prog 218 [nv kd b t l p s r,.int .i64 4,.str last,.bool false] (.int .i64 (if Xr 7 kd b t l p s r=true then 0 else 12)):=by
 have hf:=QHO kd b t l p s r hl hp hs hr;obtain⟨ks,vs,h1,h2⟩:=Qsc;have hg:AV.gr (.agg [.int .i64 7,.int .i64 84])=true:=rfl;have b0:decide ((4:Int)<1)=false:=rfl;have b1:decide ((4:Int) > 6)=false:=rfl;have b2:(0≤(4:Int))=True:=by simp
 have b3:(bits .and .i64 (Int.fdiv 84 (2 ^ min 4 64)) 1==0)=false:=by decide
 have b4:(bits .and .i64 ((84:Int).fdiv (2 ^ (min (4:Int).toNat IntKind.i64.bits))) 1==0)=false:=by decide
 simp only[nv]at hf;refine QFc.fn (by simp) ?_;simp only[nv,eE,seval];refine Qb h1 rfl rfl rfl (.inl rfl) ?_;simp only[h2,hg,b2,b3,eE,seval];refine Qb hf rfl rfl rfl (.inl rfl) ?_;cases Xr 7 kd b t l p s r
 ·simp only[QNb,QMo,Qa,seval]
 ·simp only[QNE,Qa,seval]

def NcI (k:Nat)(st:St):Prop :=
 ∃f fr i,st=⟨f,[fr],[]⟩∧k=1-i∧i≤1∧(i=0→∃last,f 5=.str last)∧(i=1→Xr 7 kd b t l p s r=true)∧f 1=.int .i64 4∧f 12=.list [nv kd b t l p s r]∧f 13=.int .i64 1∧f 14=.int .i64 (i:Nat)∧∀s∈[7],(fr s).isRow=false

include hl hp hs hr in
theorem QHQ:Qp Tryz.prog 173 [.list [nv kd b t l p s r],.int .i64 4] (.int .i64 (if Xr 7 kd b t l p s r=true then 0 else 12)):=by
 have b0:decide (((1:Nat):Int) > 8)=false:=rfl;refine QEA.fn (by simp) ?_;simp only[QMk,QM0,QML,Qa,seval];refine Qf (NcI kd b t l p s r) 1 ⟨_,_,0,rfl,rfl,QMd _,fun _=>⟨[],(by rfl)⟩,(fun h=>by cases h),(by rfl),(by rfl),(by rfl),(by rfl),by simp<;>rfl⟩ ?_;rintro _ st ⟨f0,fr0,i,rfl,rfl,hi,hl5,hf,h10,h120,h130,h140,r7⟩;refine QM (a:=_) [7] r7 ?_;intro f fr hff hm hn7;have h1:f 1=.int .i64 4:=by rw[hff,h10]<;>rfl
 have h12:f 12=.list [nv kd b t l p s r]:=by rw[hff,h120]<;>rfl
 have h13:f 13=.int .i64 1:=by rw[hff,h130]<;>rfl
 have h14:f 14=.int .i64 (i:Nat):=by rw[hff,h140]<;>rfl
 have h5:i=0→∃last,f 5=.str last:=fun h=>by
  obtain⟨la,e⟩:=hl5 h;exact⟨la,by rw[hff,e]<;>rfl⟩
 have n7:=hn7 7 (by decide);clear hff hm hn7 h10 h120 h130 h140 r7 hl5;have ho:=fun la=>QHP kd b t l p s r hl hp hs hr la
 simp only[nv]at ho h12;simp only[h13,h14,Qa,seval];rcases Nat.le_one_iff_eq_zero_or_eq_one.1 hi with rfl|rfl
 ·obtain⟨la,h5⟩:=h5 rfl;have c0:decide (((0:Nat):Int)<1)=true:=rfl;have c1:decide (((0:Nat):Int) > 0)=false:=rfl;have e1:IntKind.i64.wrap (((0:Nat):Int)+1)=((1:Nat):Int):=rfl;have z0:(0≤((0:Nat):Int))=True:=by simp
  have z1:Int.toNat ((0:Nat):Int)=0:=rfl;simp only[Qd,n7,h1,h5,h12,h14,eE,seval];refine Qb (ho la) rfl rfl rfl (.inl rfl) ?_;cases hfv:Xr 7 kd b t l p s r
  ·have d0:((12:Int) != 0)=true:=rfl;simp only[d0,QMo,Qa,seval]
  ·have d0:((0:Int) != 0)=false:=rfl;simp only[d0,h14,eE,seval];exact⟨0,by omega,_,_,1,rfl,rfl,QL3 _,(fun h=>by cases h),fun _=>hfv,(by exact h1),(by exact h12),(by exact h13),(by rfl),by simp<;>rfl⟩
 ·have c0:decide (((1:Nat):Int)<1)=false:=rfl;simp only[hf rfl,Qa,seval]

end

theorem N8 {M:Nat}{n:PN}(h:n.ok Tryz.prog M 32)(hM:M≤140737488351232):∃kd b t l p s r,n.val=[.int .i64 kd,.int .u64 ((b:Nat):Int),.str t,.list l,.list p,.list s,.list r]∧t.length≤M∧l.length≤140737488351232∧p.length≤140737488351232∧s.length≤140737488351232∧r.length≤140737488351232:=by
 obtain⟨_,k,hk⟩:=h;obtain⟨k,h⟩:=XX Tryz.underlying32 hk;simp only[Q2.HasL]at h;obtain⟨_,_,e,h0,_,_,rfl,h1,_,_,rfl,h2,_,_,rfl,h3,_,_,rfl,h4,_,_,rfl,h5,_,_,rfl,h6,rfl⟩:=h;obtain⟨a0,rfl,w0⟩:=Xm Tryz.underlying3 h0;obtain⟨a1,rfl,w1⟩:=Xm Tryz.underlying26 h1;obtain⟨a2,rfl,w2⟩:=Z9 Tryz.underlying9 h2;obtain⟨_,l3,rfl,w3,_⟩:=Kz Tryz.underlying27 h3;obtain⟨_,l4,rfl,w4,_⟩:=Kz Tryz.underlying28 h4;obtain⟨_,l5,rfl,w5,_⟩:=Kz Tryz.underlying29 h5;obtain⟨_,l6,rfl,w6,_⟩:=Kz Tryz.underlying30 h6;have hb:0≤a1:=DY w1;obtain⟨b,rfl⟩:=QNF hb;exact⟨a0,b,a2,_,_,_,_,e,w2,by simp;omega,by simp;omega,by simp;omega,by simp;omega⟩

theorem QHR {M:Nat}(hM:M≤140737488351232)(x:PI)(hx:x.ok M)(m:Ql):Qh Tryz.prog 172 [Q0 x] m fun y m1=>y=.bool (!ZD x)∧m1=m:=by
 have z0:(0≤(0:Int))=True:=by simp
 have z1:Int.toNat 0=0:=rfl;refine QEx.go (by simp) ?_;simp only[Q0,PI.cells,QMZ,eE,seval];rcases hn:x.notes with _|⟨n,_|⟨n2,ns⟩⟩
 ·have c0:decide (((0:Nat):Int) > 1)=false:=rfl;have c1:(((0:Nat):Int)==1)=false:=rfl;have e:ZD x=true:=by unfold ZD;rw[hn]
  simp only[QM0,QM5,e,QNE,eE,seval]
 ·obtain⟨kd,b,t,l,p,s,r,hv,ht,h3,h4,h5,h6⟩:=N8 (hx.notes n (by rw[hn];simp)) hM;have c0:decide (((1:Nat):Int) > 1)=false:=rfl;have c1:(((1:Nat):Int)==1)=true:=rfl;have e:ZD x=(n.name==alias&&Xr 7 kd b t l p s r):=by
   unfold ZD;rw[hn];show(n.name==alias&&nok n.val)=_;rw[hv];rfl
  have en:Xk n.cells=.agg [.str n.name,.int .i64 kd,.int .u64 ((b:Nat):Int),.str t,.list l,.list p,.list s,.list r]:=by
   rw[PN.cells,hv];rfl
  have hne:(!(n.name==[97,108,105,97,115]))=!(n.name==alias):=rfl;have hc:=QHQ kd b t l p s r h3 h4 h5 h6;simp only[nv]at hc;simp only[QMk,QM0,QMB,QM5,QML,en,Qd,z0,z1,QM6,QN,hne,e,eE,seval];by_cases ha:n.name=alias
  ·have b0:(n.name==alias)=true:=by simp[ha]
   rw[←ha]at hc;simp only[b0,QNE,QND,eE,seval];refine Qb hc rfl rfl rfl (.inl rfl) ?_;cases Xr 7 kd b t l p s r
   ·have d0:((12:Int) != 0)=true:=rfl;simp only[QMo,d0,QNb,Qa,seval]
   ·have d0:((0:Int) != 0)=false:=rfl;simp only[d0,QNE,Qa,seval]
  ·have b0:(n.name==alias)=false:=by simp[ha]
   simp only[b0,QNb,QNw,Qa,seval]
 ·have c0:decide ((((ns.length+1+1:Nat)):Int) > 1)=true:=QNQ (by omega);have e:ZD x=false:=by unfold ZD;rw[hn]
  simp only[QMk,c0,e,QNb,Qa,seval]

theorem QHS {M:Nat}(hM:M≤140737488351232)(x:PE)(hx:x.ok M)(m:Ql):Qh Tryz.prog 171 [Qt x] m fun y m1=>y=.bool (!JY x)∧m1=m:=by
 have n1:decide ((x.notes.length:Int) > 0)=!x.notes.isEmpty:=by
  cases x.notes with
  |nil=>rfl
  |cons a l=>simp
 refine QEu.go (by simp) ?_;simp only[Qt,PE.cells,QMZ,JY,n1,eE,seval];cases a1:x.notes.isEmpty
 ·simp only[QNb,QNw,Qa,seval]
 simp only[QNE,QND,eE,seval];refine Qi (N2 x.items hx.len1 (fun o=>!ZD o) 172 [] _ fun o ho=>QHR hM o (hx.items o ho) _) (by simp only[QMB,QM5,Qa,seval]<;>rfl) ?_;simp only[Xe,Qa,seval]

theorem z88 {M:Nat}(hM:M≤140737488351232)(P:PL)(hP:P.ok M)(hl:∀g∈P.progs,g.ops.length≤64):Qp Tryz.prog 88 [P.av] (.bool (!args P)):=by
 have e0:P.av=.agg [.list (P.progs.map Qj),.list (P.enums.map Qt)]:=rfl;refine k88.fn (by simp) ?_;simp only[e0,args,eE,seval];refine Qi (Gz P.progs hP.len1 (fun g=>!ZI P g) 165 [.ptr 0 1 0] _ fun o ho=>QHM P o (QL4 (hl o ho) (by decide)) _ (by rfl)) (by simp only[QMB,QM5,Qa,seval]<;>rfl) ?_;simp only[Xe,Qa,seval];cases P.progs.all (ZI P)
 ·simp only[QNb,QNw,Qa,seval]
 simp only[QNE,QND,eE,seval];refine Qi (UI P.enums hP.len2 (fun g=>!JY g) 171 [] _ fun o ho=>QHS hM o (hP.enums o ho) _) (by simp only[QMB,QM5,Qa,seval]<;>rfl) ?_;simp only[Xe,Qa,seval]

def Xs (B:List Bool)(o:PO):Bool:=o.card==1&&o.kind==10 && !(B[o.target.toNat]?.getD false)
def YC (G:List PG)(B:List Bool)(i:Nat):List Bool:=match G[i]? with
 |some g=>B.set i (!g.ops.any (Xs B))
 |none=>B
def ZQ (G:List PG)(B:List Bool):Nat→List Bool
 |0=>B
 |i+1=>YC G (ZQ G B i) i
def Qe (G:List PG):Nat→List Bool
 |0=>List.replicate G.length false
 |c+1=>ZQ G (Qe G c) G.length
def fin (P:PL):Bool:=(Qe P.progs P.progs.length).all id

def Mc (P:PL):Prop:=∀g∈P.progs,∀o∈g.ops,o.kind=10→0≤o.target∧o.target<(P.progs.length:Int)

theorem Io (G:List PG)(B:List Bool)(i:Nat):(YC G B i).length=B.length:=by
 unfold YC;split<;>simp
theorem Y0 (G:List PG)(B:List Bool):∀i,(ZQ G B i).length=B.length
 |0=>rfl
 |i+1=>by rw[ZQ,Io,Y0 G B i]
theorem Y3 (G:List PG):∀c,(Qe G c).length=G.length
 |0=>by simp[Qe]
 |c+1=>by rw[Qe,Y0,Y3 G c]

def B4 (G:List PG)(B:List Bool):Prop:=∀(i:Nat) (g:PG),G[i]? = some g→B[i]? = some true→g.ops.any (Xs B)=false

theorem Md {B B':List Bool}(h:∀k:Nat,B[k]?.getD false=true→B'[k]?.getD false=true){o:PO}(hn:Xs B o=false):Xs B' o=false:=by
 unfold Xs at *;cases hc:(o.card==1&&o.kind==10)
 ·rfl
 ·rw[hc]at hn;simp only[QND,Bool.not_eq_false']at hn ⊢;rw[h _ hn]

theorem Ip {G:List PG}{B:List Bool}(h:B4 G B)(i:Nat):B4 G (YC G B i)∧∀k:Nat,B[k]?.getD false=true→(YC G B i)[k]?.getD false=true:=by
 have mono:∀k:Nat,B[k]?.getD false=true→(YC G B i)[k]?.getD false=true:=by
  intro k hk;unfold YC;split
  ·rename_i g hg;by_cases hki:i=k
   ·subst hki;have hb:B[i]? = some true:=by
     cases hB:B[i]? with
     |none=>rw[hB]at hk;cases hk
     |some b=>rw[hB]at hk;simp at hk;rw[hk]
    have hlt:=(QL5.1 hb).1;rw[List.getElem?_set_self hlt,h i g hg hb];rfl
   ·rw[QNW hki];exact hk
  ·exact hk
 refine⟨fun j g hg hb=>?_,mono⟩;rw[List.any_eq_false];intro o ho;rw[QNX];have hB:B[j]? = some true∨g.ops.any (Xs B)=false:=by
  unfold YC at hb;split at hb
  ·rename_i g' hg';by_cases hij:i=j
   ·subst hij;rw[hg]at hg';cases hg'
    right
    by_cases hlt:i<B.length
    ·rw[List.getElem?_set_self hlt]at hb
     simpa using hb
    ·rw[QNq (by simp;omega)]at hb;cases hb
   ·rw[QNW hij]at hb;exact .inl hb
  ·exact .inl hb
 have ha:g.ops.any (Xs B)=false:=hB.elim (h j g hg) id;rw[List.any_eq_false]at ha;exact Md mono (by simpa using ha o ho)

theorem GB {G:List PG}{B:List Bool}(h:B4 G B):∀i,B4 G (ZQ G B i)
 |0=>h
 |i+1=>(Ip (GB h i) i).1
theorem B5 (G:List PG):∀c,B4 G (Qe G c)
 |0=>by
  intro i g _ hb;rw[Qe,List.getElem?_replicate]at hb;split at hb<;>cases hb
 |c+1=>GB (B5 G c) _

theorem Qsd {G:List PG}{B:List Bool}(h:B4 G B){i:Nat}{g:PG}{b:Bool}(hg:G[i]? = some g)(hb:B[i]? = some b):YC G B i=B.set i (b || !g.ops.any (Xs B)):=by
 unfold YC;rw[hg];cases b with
 |false=>rfl
 |true=>
  show B.set i _=B.set i (true||_);rw[h i g hg hb];rfl

theorem N9 {P:Program}{f:Fr}{d:Nat}{Qe:List Am.Item}{m:Ql}{ds:List DF}{K:St→Prop}{k l s:Nat}{args:List RA}{ys:List AV}{v:AV}(hk:Qh P k ys m fun x m1=>x=v∧m1=m)(hy:args.map (RA.ev f)=ys)(h:QD P Qe ⟨QI f d v,m,ds⟩ K) :
  QD P (⟨some d,.callK l s (.f k) args,none⟩ :: Qe) ⟨f,m,ds⟩ K:=by
 refine⟨k,[],[],v,m,rfl,?_,rfl,h⟩;show Qh P k (args.map (RA.ev f)++[]) m fun x m1=>x=v∧m1=m
 rw[QM7,hy];exact hk

theorem QHT (B:List Bool)(hl:B.length≤maxLen):Qp Tryz.prog 219 [.list (B.map AV.bool),.bool false] (.int .i64 (QW (fun b=>!b) B 0)):=by
 let I:Nat→St→Prop:=fun k st=>∃f i,st=⟨f,[Qc],[]⟩∧k=B.length-i∧QW (fun b=>!b) B 0=QW (fun b=>!b) (B.drop i) i∧f 0=.list (B.map AV.bool)∧f 1=.bool false∧f 7=.int .i64 (B.length:Nat)∧f 8=.int .i64 (i:Nat)
 refine QhT.fn (by simp) ?_;simp only[QMZ,Qa,seval];refine Qf I _ ⟨_,0,rfl,rfl,rfl,(by rfl),(by rfl),(by rfl),(by rfl)⟩ ?_;rintro _ st ⟨f,i,rfl,rfl,hx,h0,h1,h7,h8⟩;simp only[h7,h8,Qa,seval];by_cases hlt:i<B.length
 ·obtain⟨x,hi⟩:∃x,B[i]? = some x:=⟨B[i],QL6 hlt⟩;have hg:(B.map AV.bool)[i]? = some (.bool x):=by simp[hi]
  have e1:=Qq i _ hlt hl;rw[XS _ hi]at hx;cases x
  ·rw[QMy (show(!false)=true from rfl)]at hx;have b0:(false==false)=true:=rfl;simp only[Qo hlt,Qm,QNt,Qd,hg,b0,h0,h1,h8,hx,eE,seval]
  ·rw[QMj (by decide)]at hx;have b0:(false==true)=false:=rfl;simp only[Qo hlt,Qm,QNt,Qd,hg,b0,h0,h1,h8,e1,eE,seval];exact⟨B.length-(i+1),by omega,_,i+1,rfl,rfl,hx,(by exact h0),(by exact h1),(by exact h7),(by rfl)⟩
 ·have hx':QW (fun b=>!b) B 0 = -1:=by rw[hx,QMG (by omega)];rfl
  simp only[QE hlt,hx',Qa,seval]

theorem QHU (B:List Bool)(hl:B.length≤maxLen):Qp Tryz.prog 175 [.list (B.map AV.bool),.bool false] (.bool (!B.all id)):=by
 have e:(!B.all id)=B.any fun b=>!b:=by rw[Xe];rfl
 refine Qez.fn (by simp) ?_;simp only[Qa,seval];refine Qb (QHT B hl) rfl rfl rfl (.inl rfl) ?_;simp only[Jr,e,Qa,seval]

theorem QHV (o:PO)(n:Nat)(B:List Bool)(hB:B.length=n)(ht:o.kind=10→0≤o.target∧o.target<(n:Int))(fr:Nat→Ob)(m:Ql)(h3:fr 3=.cells [.vec 0 9 1 0 n false])(h9:fr 9=.vec 1 1 (B.map AV.bool)) :
  Qh Tryz.prog 174 [QA o,.ptr 3 3 0] (Qc :: Qc :: Qc :: fr :: m) fun y m1=>y=.bool (Xs B o)∧m1=Qc :: Qc :: Qc :: fr :: m:=by
 refine Qeu.go (by simp) ?_;simp only[QA,PO.cells,Xs,eE,seval];cases a1:(o.card==1)
 ·simp only[QNw,Qa,seval]
 cases a2:(o.kind==10)
 ·simp only[a2,QNw,QNS,eE,seval]
 obtain⟨t1,t2⟩:=ht (by simpa using a2);obtain⟨t,hte⟩:=QNF t1;obtain⟨y,hy⟩:∃y,B[t]? = some y:=⟨B[t]'(by omega),QL6 (by omega)⟩;have hg:(B.map AV.bool)[t]? = some (.bool y):=by simp[hy]
 have hlt:(t<n)=True:=eq_true (by omega);simp only[a2,hte,hy,hg,hlt,h3,h9,Qd,Qm,QNt,QNd,QND,QML,eE,seval]

structure En (P:PL)(c:Nat)(B:List Bool)(f:Fr)(fr:Nat→Ob):Prop where
 h1:f 1=.ptr 0 1 0
 m1:fr 1=.cells [.list (P.progs.map Qj),.list (P.enums.map Qt)]
 h3:f 3=.ptr 0 3 0
 m3:fr 3=.cells [.vec 0 9 1 0 P.progs.length false]
 m9:fr 9=.vec 1 1 (B.map AV.bool)
 h12:f 12=.int .i64 (P.progs.length:Nat)
 h13:f 13=.int .i64 (c:Nat)
 r5:∀s∈[5],(fr s).isRow=false

theorem En.drop {P:PL}{c:Nat}{B:List Bool}{f f':Fr}{fr fr':Nat→Ob}(h:En P c B f fr)(hf:∀i,f' i=NO [5] (f i))(hm:∀i,i∉[5]→fr' i=Ho [5] (fr i))(hn:∀i∈[5],fr' i=.none):En P c B f' fr' where
 h1:=by rw[hf,h.h1]<;>rfl
 m1:=by rw[hm 1 (by decide),h.m1]<;>rfl
 h3:=by rw[hf,h.h3]<;>rfl
 m3:=by rw[hm 3 (by decide),h.m3]<;>rfl
 m9:=by rw[hm 9 (by decide),h.m9]<;>rfl
 h12:=by rw[hf,h.h12]<;>rfl
 h13:=by rw[hf,h.h13]<;>rfl
 r5:=fun s hs=>by rw[hn s hs]<;>rfl

def EnA (P:PL)(k:Nat)(st:St):Prop:=∃f fr c,st=⟨f,[fr],[]⟩∧k=P.progs.length-c∧c≤P.progs.length∧En P c (Qe P.progs c) f fr
def EnB (P:PL)(c:Nat)(k:Nat)(st:St):Prop:=∃f fr i,st=⟨f,[fr],[]⟩∧k=P.progs.length-i∧i≤P.progs.length∧En P c (ZQ P.progs (Qe P.progs c) i) f fr∧f 16=.list (P.progs.map Qj)∧f 17=.int .i64 (P.progs.length:Nat)∧f 18=.int .i64 (i:Nat)

theorem z89 {M:Nat}(P:PL)(hP:P.ok M)(hl:P.progs.length≤64)(hT:Mc P):Qp Tryz.prog 89 [P.av] (.bool (!fin P)):=by
 have e0:P.av=.agg [.list (P.progs.map Qj),.list (P.enums.map Qt)]:=rfl;have hmx:P.progs.length≤maxLen:=by simp only[maxLen];omega
 have hz:Jo 1 [AV.bool false]=.bool false:=rfl;have hr0:(List.replicate P.progs.length (AV.bool false))=(Qe P.progs 0).map AV.bool:=by simp[Qe]
 refine k89.fn (by simp) ?_;simp only[e0,QMZ,eE,seval];refine YX (n:=P.progs.length) (k:=P.progs.length) rfl rfl (QL3 _) (by omega) (by omega) rfl ?_;simp only[hz,hr0,QMZ,eE,seval];refine Qf (EnA P) _ ⟨_,_,0,rfl,rfl,QMd _,⟨(by rfl),(by rfl),(by rfl),(by rfl),(by rfl),(by rfl),(by rfl),by simp<;>rfl⟩⟩ ?_;rintro _ st ⟨f0,fr0,c,rfl,rfl,hc,H0⟩;refine QM (a:=_) [5] H0.r5 ?_;intro f fr hf hm hn;have H:=H0.drop hf hm hn;clear hf hm hn;obtain⟨h1,m1,h3,m3,m9,h12,h13,r5⟩:=id H;simp only[h12,h13,Qa,seval];by_cases hlt:c<P.progs.length
 ·have e1:=Qq c _ hlt hmx;simp only[Qo hlt,h1,m1,QMZ,eE,seval];refine Qf (EnB P c) _ ⟨_,_,0,rfl,rfl,QMd _,⟨(by exact h1),(by exact m1),(by exact h3),(by exact m3),(by exact m9),(by exact h12),(by exact h13),r5⟩,(by rfl),(by rfl),(by rfl)⟩ ?_;rintro _ st ⟨f0,fr0,i,rfl,rfl,hi,H0,h160,h170,h180⟩;refine QM (a:=_) [5] H0.r5 ?_;intro f fr hf hm hn;have H:=H0.drop hf hm hn;have h16:f 16=.list (P.progs.map Qj):=by rw[hf,h160]<;>rfl
  have h17:f 17=.int .i64 (P.progs.length:Nat):=by rw[hf,h170]<;>rfl
  have h18:f 18=.int .i64 (i:Nat):=by rw[hf,h180]<;>rfl
  have n5:=hn 5 (by decide);clear hf hm hn;obtain⟨h1,m1,h3,m3,m9,h12,h13,r5⟩:=id H;simp only[h17,h18,Qa,seval];by_cases hli:i<P.progs.length
  ·obtain⟨g,hg⟩:∃g,P.progs[i]? = some g:=⟨P.progs[i],QL6 hli⟩;have hgm:(P.progs.map Qj)[i]? = some (Qj g):=by simp[hg]
   have hBl:(ZQ P.progs (Qe P.progs c) i).length=P.progs.length:=by rw[Y0,Y3]
   obtain⟨b,hb⟩:∃b,(ZQ P.progs (Qe P.progs c) i)[i]? = some b:=⟨_,QL6 (by omega)⟩;have hbm:((ZQ P.progs (Qe P.progs c) i).map AV.bool)[i]? = some (.bool b):=by simp[hb]
   have hst:=Qsd (GB (B5 P.progs c) i) hg hb;have e2:=Qq i _ hli hmx;have s1:(i<P.progs.length)=True:=eq_true hli;have hTg:=hT g (QMi hg);generalize hBB:ZQ P.progs (Qe P.progs c) i=B at *;have fin2:∀(f':Fr) (fr':Nat→Ob) (v:Bool),(b || !g.ops.any (Xs B))=v→f' 1=.ptr 0 1 0→fr' 1=.cells [.list (P.progs.map Qj),.list (P.enums.map Qt)]→f' 3=.ptr 0 3 0→fr' 3=.cells [.vec 0 9 1 0 P.progs.length false]→
     fr' 9=.vec 1 1 ((B.map AV.bool).set i (.bool v))→f' 12=.int .i64 (P.progs.length:Nat)→f' 13=.int .i64 (c:Nat)→(∀s∈[5],(fr' s).isRow=false)→f' 16=.list (P.progs.map Qj)→f' 17=.int .i64 (P.progs.length:Nat)→f' 18=.int .i64 ((i+1:Nat):Int)→∃k,k<P.progs.length-i∧EnB P c k ⟨f',[fr'],[]⟩:=by
    intro f' fr' v hv a1 a2 a3 a4 a5 a6 a7 a8 a9 a10 a11;have hB':ZQ P.progs (Qe P.progs c) (i+1)=B.set i v:=by rw[ZQ,hBB,hst,hv]
    exact⟨P.progs.length-(i+1),by omega,f',fr',i+1,rfl,rfl,by omega,⟨a1,a2,a3,a4,by rw[hB',a5,List.map_set],a6,a7,a8⟩,a9,a10,a11⟩
   have ist:∀(fr':Nat→Ob) (v:Bool),fr' 9=.vec 1 1 (B.map AV.bool)→QU [fr'] (.vptr 0 9 1 i 0) [.bool v]=some [QI fr' 9 (.vec 1 1 ((B.map AV.bool).set i (.bool v)))]:=by
    intro fr' v h9;have e:Am.Qg [fr'] 0 9=.vec 1 1 (B.map AV.bool):=h9;simp only[QU,e,hbm];simp[AV.cells,AV.rfL,AV.rf,Am.put,Zq]
   have ia:∀fr':Nat→Ob,fr' 9=.vec 1 1 (B.map AV.bool)→Qd [fr'] 1 none (.vec 0 9 1 0 P.progs.length false) (i:Int)=some (.vptr 0 9 1 i 0):=by
    intro fr' h9;have e:Am.Qg [fr'] 0 9=.vec 1 1 (B.map AV.bool):=h9;simp only[Qd,e,Qm,if_true,QNt];simp;omega
   have hcl:=fun(fr':Nat→Ob) (h3:fr' 3=.cells [.vec 0 9 1 0 P.progs.length false]) (h9:fr' 9=.vec 1 1 (B.map AV.bool))=>Fw g.ops (hP.progs g (QMi hg)).len (Xs B) 174 [.ptr 0 3 0] [fr'] fun o ho=>QHV o P.progs.length B hBl (hTg o ho) fr' _ h3 h9
   simp only[Qo hli,Qm,QNt,Qd,hgm,Qj,PG.cells,n5,hbm,s1,QML,h3,h16,h18,m3,m9,eE,seval];cases b
   ·simp only[eE,seval];refine N9 (hcl _ (by exact m3) (by exact m9)) (by simp only[QMB,QM5,h3,Qa,seval]<;>rfl) ?_;generalize hav:g.ops.any (Xs B)=av;rw[hav]at fin2;simp only[ia,ist,h18,m9,e2,eE,seval];exact fin2 _ _ _ rfl (by exact h1) (by exact m1) (by exact h3) (by exact m3) (by rfl) (by exact h12) (by exact h13) (by simp<;>rfl) (by exact h16) (by exact h17) (by rfl)
   ·simp only[ia,ist,h18,m9,e2,eE,seval];exact fin2 _ _ _ rfl (by exact h1) (by exact m1) (by exact h3) (by exact m3) (by rfl) (by exact h12) (by exact h13) (by simp<;>rfl) (by exact h16) (by exact h17) (by rfl)
  ·have hii:i=P.progs.length:=by omega
   subst hii;simp only[QE hli,h13,e1,Qa,seval];exact⟨P.progs.length-(c+1),by omega,_,_,c+1,rfl,rfl,by omega,⟨(by exact h1),(by exact m1),(by exact h3),(by exact m3),m9,(by exact h12),(by rfl),r5⟩⟩
 ·have hcc:c=P.progs.length:=by omega
  subst hcc;have hBl:=Y3 P.progs P.progs.length;simp only[QE hlt,h3,m3,eE,seval];refine Qb (QHU (Qe P.progs P.progs.length) (by omega)) ?_ rfl rfl (.inr rfl) ?_
  ·have el:Am.Qg [fr] 0 9=.vec 1 1 ((Qe P.progs P.progs.length).map AV.bool):=m9;simp only[QMB,QM5,AV.stillL,AV.still,el,Qa,seval];have hle:(0+P.progs.length≤((Qe P.progs P.progs.length).map AV.bool).length)=True:=eq_true (by simp;omega);have ht:((Qe P.progs P.progs.length).map AV.bool).take P.progs.length=(Qe P.progs P.progs.length).map AV.bool:=QMD (by simp;omega);simp only[QNw,QMo,if_false,hle,if_true,ht]
  ·simp only[fin,Qa,seval]

def ck (P:PL):Int :=
 if Us P=false then 3 else if Ft P=false then 8 else if Ut P=false then 11 else if Fu P=false then 9 else if Fv P=false then 6 else if args P=false then 1 else if fin P=false then 19 else 0

theorem YD {P:PL}(h:Us P=true):P.progs.length≤64∧P.enums.length≤64∧(∀g∈P.progs,g.ops.length≤64)∧∀e∈P.enums,1≤e.items.length∧e.items.length≤64∧e.free.length≤16:=by
 unfold Us at h;simp only[QMt,QMa,QMh]at h;obtain⟨⟨⟨h1,h2⟩,h3⟩,h4⟩:=h;refine⟨h1,h2,fun g hg=>?_,fun e he=>?_⟩
 ·have:=h3 g hg;unfold ZH at this;exact of_decide_eq_true this
 ·have:=h4 e he;unfold Je at this;simp only[QMt,QMa]at this;exact⟨this.1.1,this.1.2,this.2⟩

theorem FE {P:PL}(h:args P=true):Mc P:=by
 intro g hg o ho hk;unfold args at h;simp only[QMt,QMh]at h;have h1:=h.1 g hg;unfold ZI at h1;simp only[QMt,QMh]at h1;have h2:=(h1.2 o ho).1;unfold XU at h2;simp only[QMt]at h2;have h3:=h2.2;unfold HF at h3;rw[QMy hk]at h3;simp only[QMt,QMa]at h3;exact⟨h3.1.1,h3.1.2⟩

theorem QHW {M:Nat}(P:PL)(hP:P.ok M)(hM:M≤140737488351232)(hN1:∀g∈P.progs,g.name.length≤17592186044000)(hN2:∀g∈P.enums,g.name.length≤17592186044000):Qp Tryz.prog 54 [P.av] (.int .i64 (ck P)):=by
 have e0:P.av=.agg [.list (P.progs.map Qj),.list (P.enums.map Qt)]:=rfl;have c1:=z83 P hP;have c2:=QHc P hP hN1 hN2;have c3:=z85 P hP;have c4:=z86 P hP;refine k54.fn (by simp) ?_;simp only[e0,ck,eE,seval];refine Qb c1 rfl rfl rfl (.inl rfl) ?_;cases hl:Us P
 ·simp only[QNb,Qa,seval]
 obtain⟨l1,l2,l3,l4⟩:=YD hl;have c5:=z87 P hP fun e he h=>by have:=(l4 e he).1;rw[h]at this;simp at this
 have c6:=z88 hM P hP l3;simp only[QNE,QNY,eE,seval];refine Qb c2 rfl rfl rfl (.inl rfl) ?_;cases Ft P
 ·simp only[QNb,Qa,seval]
 simp only[QNE,QNY,eE,seval];refine Qb c3 rfl rfl rfl (.inl rfl) ?_;cases Ut P
 ·simp only[QNb,Qa,seval]
 simp only[QNE,QNY,eE,seval];refine Qb c4 rfl rfl rfl (.inl rfl) ?_;cases Fu P
 ·simp only[QNb,Qa,seval]
 simp only[QNE,QNY,eE,seval];refine Qb c5 rfl rfl rfl (.inl rfl) ?_;cases Fv P
 ·simp only[QNb,Qa,seval]
 simp only[QNE,QNY,eE,seval];refine Qb c6 rfl rfl rfl (.inl rfl) ?_;cases ha:args P
 ·simp only[QNb,Qa,seval]
 have c7:=z89 P hP l1 (FE ha);simp only[QNE,QNY,eE,seval];refine Qb c7 rfl rfl rfl (.inl rfl) ?_;cases fin P
 ·simp only[QNb,Qa,seval]
 ·simp only[QNE,QNY,Qa,seval]

def Pc (P:PL):List AV:=[.list (P.progs.map Qj),.list (P.enums.map Qt)]

theorem Z1 (b:Bool)(q:Nat→Bool)(i:Nat):(b&&Qz q (i+1))=((b&&Qz q i)&&q i):=by rw[Qz,QMP]

section
variable {M:Nat}(P:PL)(hP:P.ok M)(fr:Nat→Ob)(m1:fr 1=.cells (Pc P))(f:Fr)(b:Bool)(h1:f 1=.ptr 0 1 0)(h3:f 3=.bool b)(Q:Exit→St→Prop)
include hP m1 h1 h3

theorem Vb (ha:f 4=.int .i64 0)(hx:∀f,f 1=.ptr 0 1 0→f 3=.bool (b&&P.progs.all ZH)→Q (.exit 0) (⟨f,[fr],[]⟩:St)):QJ Tryz.prog (.loop Rn) ⟨f,[fr],[]⟩ Q:=by
 let I:Nat→St→Prop:=fun k st=>∃f i,st=⟨f,[fr],[]⟩∧k=P.progs.length-i∧i≤P.progs.length∧f 1=.ptr 0 1 0∧f 3=.bool (b&&(P.progs.take i).all ZH)∧f 4=.int .i64 (i:Nat)
 refine Qf I _ ⟨f,0,rfl,rfl,QMd _,h1,by rw[h3];simp,ha⟩ ?_;clear h1 h3 ha;simp only[Pc]at m1;rintro _ st ⟨f,i,rfl,rfl,hi,h1,h3,ha⟩;simp only[QMZ,h1,m1,ha,eE,seval];by_cases hlt:i<P.progs.length
 ·obtain⟨x,hg⟩:∃x,P.progs[i]? = some x:=⟨P.progs[i],QL6 hlt⟩;have hgm:(P.progs.map Qj)[i]? = some (.agg x.cells):=by simp[hg,Qj]
  have e1:=Qq i _ hlt hP.len1;have ht:=Q1 (q:=ZH) hg;have e3:decide ((x.ops.length:Int)≤64)=ZH x:=by unfold ZH ;exact(by rw[QMY];simp only[QMa];omega)
  have fin:∀f':Fr,f' 1=.ptr 0 1 0→f' 3=.bool ((b&&(P.progs.take i).all ZH)&&ZH x)→f' 4=.int .i64 ((i+1:Nat):Int)→∃k,k<P.progs.length-i∧I k ⟨f',[fr],[]⟩:=by
   intro f' a1 a3 a4;exact⟨P.progs.length-(i+1),by omega,f',i+1,rfl,rfl,by omega,a1,by rw[a3,ht,QMP],a4⟩
  simp only[PG.cells]at hgm;cases hb:(b&&(P.progs.take i).all ZH)
  ·rw[hb]at fin h3;simp only[Qo hlt,h3,ha,e1,Qa,seval];exact fin _ (by exact h1) (by rfl) (by rfl)
  ·rw[hb,QND]at fin;rw[hb]at h3
   skip
   all_goals
    try rw[c1]at e3
    try rw[c2]at e3
    simp only[Qo hlt,Qm,QNt,Qd,hgm,QMZ,h1,m1,h3,ha,e1,e3,eE,seval];exact fin _ (by exact h1) (by rw[←e3]<;>first|rfl|simp only[eE,seval]) (by rfl)
 ·have hf:(P.progs.take i).all ZH=P.progs.all ZH:=by rw[QMD (by omega)]
  rw[hf]at h3;simp only[QE hlt,Qa,seval];exact hx _ (by exact h1) (by exact h3)

theorem Vc (ha:f 5=.int .i64 0)(hx:∀f,f 1=.ptr 0 1 0→f 3=.bool (b&&P.enums.all Je)→Q (.exit 2) (⟨f,[fr],[]⟩:St)):QJ Tryz.prog (.loop Ro) ⟨f,[fr],[]⟩ Q:=by
 let I:Nat→St→Prop:=fun k st=>∃f i,st=⟨f,[fr],[]⟩∧k=P.enums.length-i∧i≤P.enums.length∧f 1=.ptr 0 1 0∧f 3=.bool (b&&(P.enums.take i).all Je)∧f 5=.int .i64 (i:Nat)
 refine Qf I _ ⟨f,0,rfl,rfl,QMd _,h1,by rw[h3];simp,ha⟩ ?_;clear h1 h3 ha;simp only[Pc]at m1;rintro _ st ⟨f,i,rfl,rfl,hi,h1,h3,ha⟩;simp only[QMZ,h1,m1,ha,eE,seval];by_cases hlt:i<P.enums.length
 ·obtain⟨x,hg⟩:∃x,P.enums[i]? = some x:=⟨P.enums[i],QL6 hlt⟩;have hgm:(P.enums.map Qt)[i]? = some (.agg x.cells):=by simp[hg,Qt]
  have e1:=Qq i _ hlt hP.len2;have ht:=Q1 (q:=Je) hg;have e3:(decide ((x.items.length:Int)≥1)&&(decide ((x.items.length:Int)≤64)&&decide ((x.free.length:Int)≤16)))=Je x:=by unfold Je ;exact(by rw[QMY];simp only[QMa,QMt];omega)
  have fin:∀f':Fr,f' 1=.ptr 0 1 0→f' 3=.bool ((b&&(P.enums.take i).all Je)&&Je x)→f' 5=.int .i64 ((i+1:Nat):Int)→∃k,k<P.enums.length-i∧I k ⟨f',[fr],[]⟩:=by
   intro f' a1 a3 a4;exact⟨P.enums.length-(i+1),by omega,f',i+1,rfl,rfl,by omega,a1,by rw[a3,ht,QMP],a4⟩
  simp only[PE.cells]at hgm;cases hb:(b&&(P.enums.take i).all Je)
  ·rw[hb]at fin h3;simp only[Qo hlt,Qm,QNt,Qd,hgm,QMZ,h1,m1,h3,ha,e1,eE,seval];exact fin _ (by exact h1) (by rfl) (by rfl)
  ·rw[hb,QND]at fin;rw[hb]at h3
   (cases c1:decide ((x.items.length:Int)≥1)<;>cases c2:decide ((x.items.length:Int)≤64))
   all_goals
    try rw[c1]at e3
    try rw[c2]at e3
    simp only[Qo hlt,Qm,QNt,Qd,hgm,QMZ,h1,m1,h3,ha,e1,c1,c2,eE,seval];exact fin _ (by exact h1) (by rw[←e3]<;>first|rfl|simp only[eE,seval]) (by rfl)
 ·have hf:(P.enums.take i).all Je=P.enums.all Je:=by rw[QMD (by omega)]
  rw[hf]at h3;simp only[QE hlt,Qa,seval];exact hx _ (by exact h1) (by exact h3)

theorem HH (j:Nat)(x:PG)(hj:P.progs[j]? = some x)(ha:f 4=.int .i64 (j:Nat))(hc:f 5=.int .i64 0)(hx:∀f,f 1=.ptr 0 1 0→f 3=.bool (b&&x.ops.all fun o=>Xx o.name)→f 4=.int .i64 (j:Nat)→Q (.exit 2) (⟨f,[fr],[]⟩:St)):QJ Tryz.prog (.loop Rp) ⟨f,[fr],[]⟩ Q:=by
 let I:Nat→St→Prop:=fun k st=>∃f i,st=⟨f,[fr],[]⟩∧k=x.ops.length-i∧i≤x.ops.length∧f 1=.ptr 0 1 0∧f 3=.bool (b&&(x.ops.take i).all fun o=>Xx o.name)∧f 4=.int .i64 (j:Nat)∧f 5=.int .i64 (i:Nat)
 have hjm:(P.progs.map Qj)[j]? = some (.agg x.cells):=by simp[hj,Qj]
 have hsl:x.ops.length≤maxLen:=(hP.progs x (QMi hj)).len;refine Qf I _ ⟨f,0,rfl,rfl,QMd _,h1,by rw[h3];simp,ha,hc⟩ ?_;clear h1 h3 ha hc;simp only[Pc]at m1;simp only[PG.cells]at hjm;rintro _ st ⟨f,i,rfl,rfl,hi,h1,h3,ha,hc⟩;simp only[Qm,QNt,Qd,hjm,QMZ,h1,m1,ha,hc,eE,seval];by_cases hlt:i<x.ops.length
 ·obtain⟨o,hg⟩:∃o,x.ops[i]? = some o:=⟨x.ops[i],QL6 hlt⟩;have hgm:(x.ops.map fun o=>AV.agg o.cells)[i]? = some (.agg o.cells):=by simp[hg]
  have e1:=Qq i _ hlt hsl;have ht:=Q1 (q:=fun o=>Xx o.name) hg;have fin:∀f':Fr,f' 1=.ptr 0 1 0→f' 3=.bool ((b&&(x.ops.take i).all fun o=>Xx o.name)&&Xx o.name)→f' 4=.int .i64 (j:Nat)→f' 5=.int .i64 ((i+1:Nat):Int)→∃k,k<x.ops.length-i∧I k ⟨f',[fr],[]⟩:=by
   intro f' a1 a3 a4 a5;exact⟨x.ops.length-(i+1),by omega,f',i+1,rfl,rfl,by omega,a1,by rw[a3,ht,QMP],a4,a5⟩
  simp only[PO.cells]at hgm;cases hb:(b&&(x.ops.take i).all fun o=>Xx o.name)
  ·rw[hb]at fin h3;simp only[Qo hlt,PO.cells,h3,hc,e1,Qa,seval];exact fin _ (by exact h1) (by rfl) (by exact ha) (by rfl)
  ·rw[hb,QND]at fin;rw[hb]at h3;simp only[Qo hlt,Qm,QNt,Qd,hjm,hgm,PO.cells,h1,m1,h3,ha,hc,eE,seval];refine Qb (z77 o.name) rfl rfl rfl (.inl rfl) ?_;simp only[hc,e1,Qa,seval];exact fin _ (by exact h1) (by rfl) (by exact ha) (by rfl)
 ·have hf:(x.ops.take i).all (fun o=>Xx o.name)=x.ops.all fun o=>Xx o.name:=by rw[QMD (by omega)]
  rw[hf]at h3;simp only[QE hlt,Qa,seval];exact hx _ (by exact h1) (by exact h3) (by exact ha)

theorem Vd (ha:f 4=.int .i64 0)(hx:∀f,f 1=.ptr 0 1 0→f 3=.bool (b&&P.progs.all JW)→Q (.exit 0) (⟨f,[fr],[]⟩:St)):QJ Tryz.prog (.loop Rq) ⟨f,[fr],[]⟩ Q:=by
 let I:Nat→St→Prop:=fun k st=>∃f i,st=⟨f,[fr],[]⟩∧k=P.progs.length-i∧i≤P.progs.length∧f 1=.ptr 0 1 0∧f 3=.bool (b&&(P.progs.take i).all JW)∧f 4=.int .i64 (i:Nat)
 have m1':=m1;refine Qf I _ ⟨f,0,rfl,rfl,QMd _,h1,by rw[h3];simp,ha⟩ ?_;clear h1 h3 ha;simp only[Pc]at m1;rintro _ st ⟨f,i,rfl,rfl,hi,h1,h3,ha⟩;simp only[QMZ,h1,m1,ha,eE,seval];by_cases hlt:i<P.progs.length
 ·obtain⟨x,hg⟩:∃x,P.progs[i]? = some x:=⟨P.progs[i],QL6 hlt⟩;have hgm:(P.progs.map Qj)[i]? = some (.agg x.cells):=by simp[hg,Qj]
  have e1:=Qq i _ hlt hP.len1;have ht:=Q1 (q:=JW) hg;have hq:JW x=(JG x.name&&x.ops.all fun o=>Xx o.name):=rfl;have fin:∀f':Fr,f' 1=.ptr 0 1 0→f' 3=.bool (((b&&(P.progs.take i).all JW)&&JG x.name)&&x.ops.all fun o=>Xx o.name)→f' 4=.int .i64 ((i+1:Nat):Int)→∃k,k<P.progs.length-i∧I k ⟨f',[fr],[]⟩:=by
   intro f' a1 a3 a4;exact⟨P.progs.length-(i+1),by omega,f',i+1,rfl,rfl,by omega,a1,by rw[a3,ht,hq,QMP,QMP],a4⟩
  simp only[PG.cells]at hgm;cases hb:(b&&(P.progs.take i).all JW)
  ·rw[hb,QNw]at fin;rw[hb]at h3;simp only[Qo hlt,h3,Qa,seval];refine HH P hP fr m1' _ false (by exact h1) (by rfl) _ i x hg (by exact ha) (by rfl) (fun f h1 h3 ha=>?_);simp only[ha,e1,Qa,seval];exact fin _ (by exact h1) (by exact h3) (by rfl)
  ·rw[hb,QND]at fin;rw[hb]at h3;simp only[Qo hlt,Qm,QNt,Qd,hgm,h1,m1,h3,ha,eE,seval];refine Qb (z76 x.name) rfl rfl rfl (.inl rfl) ?_;simp only[Qa,seval];refine HH P hP fr m1' _ (JG x.name) (by exact h1) (by rfl) _ i x hg (by exact ha) (by rfl) (fun f h1 h3 ha=>?_);simp only[ha,e1,Qa,seval];exact fin _ (by exact h1) (by exact h3) (by rfl)
 ·have hf:(P.progs.take i).all JW=P.progs.all JW:=by rw[QMD (by omega)]
  rw[hf]at h3;simp only[QE hlt,Qa,seval];exact hx _ (by exact h1) (by exact h3)

theorem HI (j:Nat)(x:PE)(hj:P.enums[j]? = some x)(ha:f 6=.int .i64 (j:Nat))(hc:f 7=.int .i64 0)(hx:∀f,f 1=.ptr 0 1 0→f 3=.bool (b&&x.items.all fun o=>Xx o.name)→f 6=.int .i64 (j:Nat)→Q (.exit 6) (⟨f,[fr],[]⟩:St)):QJ Tryz.prog (.loop Rr) ⟨f,[fr],[]⟩ Q:=by
 let I:Nat→St→Prop:=fun k st=>∃f i,st=⟨f,[fr],[]⟩∧k=x.items.length-i∧i≤x.items.length∧f 1=.ptr 0 1 0∧f 3=.bool (b&&(x.items.take i).all fun o=>Xx o.name)∧f 6=.int .i64 (j:Nat)∧f 7=.int .i64 (i:Nat)
 have hjm:(P.enums.map Qt)[j]? = some (.agg x.cells):=by simp[hj,Qt]
 have hsl:x.items.length≤maxLen:=(hP.enums x (QMi hj)).len1;refine Qf I _ ⟨f,0,rfl,rfl,QMd _,h1,by rw[h3];simp,ha,hc⟩ ?_;clear h1 h3 ha hc;simp only[Pc]at m1;simp only[PE.cells]at hjm;rintro _ st ⟨f,i,rfl,rfl,hi,h1,h3,ha,hc⟩;simp only[Qm,QNt,Qd,hjm,QMZ,h1,m1,ha,hc,eE,seval];by_cases hlt:i<x.items.length
 ·obtain⟨o,hg⟩:∃o,x.items[i]? = some o:=⟨x.items[i],QL6 hlt⟩;have hgm:(x.items.map fun o=>AV.agg o.cells)[i]? = some (.agg o.cells):=by simp[hg]
  have e1:=Qq i _ hlt hsl;have ht:=Q1 (q:=fun o=>Xx o.name) hg;have fin:∀f':Fr,f' 1=.ptr 0 1 0→f' 3=.bool ((b&&(x.items.take i).all fun o=>Xx o.name)&&Xx o.name)→f' 6=.int .i64 (j:Nat)→f' 7=.int .i64 ((i+1:Nat):Int)→∃k,k<x.items.length-i∧I k ⟨f',[fr],[]⟩:=by
   intro f' a1 a3 a4 a5;exact⟨x.items.length-(i+1),by omega,f',i+1,rfl,rfl,by omega,a1,by rw[a3,ht,QMP],a4,a5⟩
  simp only[PI.cells]at hgm;cases hb:(b&&(x.items.take i).all fun o=>Xx o.name)
  ·rw[hb]at fin h3;simp only[Qo hlt,PI.cells,h3,hc,e1,Qa,seval];exact fin _ (by exact h1) (by rfl) (by exact ha) (by rfl)
  ·rw[hb,QND]at fin;rw[hb]at h3;simp only[Qo hlt,Qm,QNt,Qd,hjm,hgm,PI.cells,h1,m1,h3,ha,hc,eE,seval];refine Qb (z77 o.name) rfl rfl rfl (.inl rfl) ?_;simp only[hc,e1,Qa,seval];exact fin _ (by exact h1) (by rfl) (by exact ha) (by rfl)
 ·have hf:(x.items.take i).all (fun o=>Xx o.name)=x.items.all fun o=>Xx o.name:=by rw[QMD (by omega)]
  rw[hf]at h3;simp only[QE hlt,Qa,seval];exact hx _ (by exact h1) (by exact h3) (by exact ha)

theorem Ve (ha:f 6=.int .i64 0)(hx:∀f,f 1=.ptr 0 1 0→f 3=.bool (b&&P.enums.all Kh)→Q (.exit 4) (⟨f,[fr],[]⟩:St)):QJ Tryz.prog (.loop Rs) ⟨f,[fr],[]⟩ Q:=by
 let I:Nat→St→Prop:=fun k st=>∃f i,st=⟨f,[fr],[]⟩∧k=P.enums.length-i∧i≤P.enums.length∧f 1=.ptr 0 1 0∧f 3=.bool (b&&(P.enums.take i).all Kh)∧f 6=.int .i64 (i:Nat)
 have m1':=m1;refine Qf I _ ⟨f,0,rfl,rfl,QMd _,h1,by rw[h3];simp,ha⟩ ?_;clear h1 h3 ha;simp only[Pc]at m1;rintro _ st ⟨f,i,rfl,rfl,hi,h1,h3,ha⟩;simp only[QMZ,h1,m1,ha,eE,seval];by_cases hlt:i<P.enums.length
 ·obtain⟨x,hg⟩:∃x,P.enums[i]? = some x:=⟨P.enums[i],QL6 hlt⟩;have hgm:(P.enums.map Qt)[i]? = some (.agg x.cells):=by simp[hg,Qt]
  have e1:=Qq i _ hlt hP.len2;have ht:=Q1 (q:=Kh) hg;have hq:Kh x=(JG x.name&&x.items.all fun o=>Xx o.name):=rfl;have fin:∀f':Fr,f' 1=.ptr 0 1 0→f' 3=.bool (((b&&(P.enums.take i).all Kh)&&JG x.name)&&x.items.all fun o=>Xx o.name)→f' 6=.int .i64 ((i+1:Nat):Int)→∃k,k<P.enums.length-i∧I k ⟨f',[fr],[]⟩:=by
   intro f' a1 a3 a4;exact⟨P.enums.length-(i+1),by omega,f',i+1,rfl,rfl,by omega,a1,by rw[a3,ht,hq,QMP,QMP],a4⟩
  simp only[PE.cells]at hgm;cases hb:(b&&(P.enums.take i).all Kh)
  ·rw[hb,QNw]at fin;rw[hb]at h3;simp only[Qo hlt,h3,Qa,seval];refine HI P hP fr m1' _ false (by exact h1) (by rfl) _ i x hg (by exact ha) (by rfl) (fun f h1 h3 ha=>?_);simp only[ha,e1,Qa,seval];exact fin _ (by exact h1) (by exact h3) (by rfl)
  ·rw[hb,QND]at fin;rw[hb]at h3;simp only[Qo hlt,Qm,QNt,Qd,hgm,h1,m1,h3,ha,eE,seval];refine Qb (z76 x.name) rfl rfl rfl (.inl rfl) ?_;simp only[Qa,seval];refine HI P hP fr m1' _ (JG x.name) (by exact h1) (by rfl) _ i x hg (by exact ha) (by rfl) (fun f h1 h3 ha=>?_);simp only[ha,e1,Qa,seval];exact fin _ (by exact h1) (by exact h3) (by rfl)
 ·have hf:(P.enums.take i).all Kh=P.enums.all Kh:=by rw[QMD (by omega)]
  rw[hf]at h3;simp only[QE hlt,Qa,seval];exact hx _ (by exact h1) (by exact h3)

theorem WW (j:Nat)(x:PG)(hj:P.progs[j]? = some x)(ha:f 4=.int .i64 (j:Nat))(hc:f 5=.int .i64 1)(hx:∀f,f 1=.ptr 0 1 0→f 3=.bool (b&&ZZ x)→f 4=.int .i64 (j:Nat)→Q (.exit 2) (⟨f,[fr],[]⟩:St)):QJ Tryz.prog (.loop Rt) ⟨f,[fr],[]⟩ Q:=by
 let I:Nat→St→Prop:=fun k st=>∃f i,st=⟨f,[fr],[]⟩∧k=x.ops.length-i∧f 1=.ptr 0 1 0∧f 3=.bool (b&&Qz (Q7 x.ops (XY PO.num)) (i+1))∧f 4=.int .i64 (j:Nat)∧f 5=.int .i64 ((i+1:Nat):Int)∧(i+1≤x.ops.length∨i=0)
 have hjm:(P.progs.map Qj)[j]? = some (.agg x.cells):=by simp[hj,Qj]
 have hsl:x.ops.length≤maxLen:=(hP.progs x (QMi hj)).len;refine Qf I _ ⟨f,0,rfl,rfl,h1,by rw[h3];simp[Qz,Q7],ha,hc,.inr rfl⟩ ?_;clear h1 h3 ha hc;simp only[Pc]at m1;simp only[PG.cells]at hjm;rintro _ st ⟨f,i,rfl,rfl,h1,h3,ha,hc,hi⟩;simp only[Qm,QNt,Qd,hjm,QMZ,h1,m1,ha,hc,eE,seval];by_cases hlt:i+1<x.ops.length
 ·obtain⟨o,hg⟩:∃o,x.ops[i]? = some o:=⟨x.ops[i]'(by omega),QL6 (by omega)⟩;obtain⟨o2,hg2⟩:∃o,x.ops[i+1]? = some o:=⟨x.ops[i+1],QL6 hlt⟩;have hgm:(x.ops.map fun o=>AV.agg o.cells)[i]? = some (.agg o.cells):=by simp[hg]
  have hgm2:(x.ops.map fun o=>AV.agg o.cells)[i+1]? = some (.agg o2.cells):=by simp[hg2]
  have e1:=Qq (i+1) _ hlt hsl;have e2:=KP i _ hlt hsl;have ht:=Z1 b (Q7 x.ops (XY PO.num)) (i+1);rw[ZY hg hg2]at ht;have hq:(XY PO.num) o o2=decide (o.num<o2.num):=rfl;rw[hq]at ht;have fin:∀f':Fr,f' 1=.ptr 0 1 0→f' 3=.bool ((b&&Qz (Q7 x.ops (XY PO.num)) (i+1))&&decide (o.num<o2.num))→f' 4=.int .i64 (j:Nat)→f' 5=.int .i64 ((i+1+1:Nat):Int)→∃k,k<x.ops.length-i∧I k ⟨f',[fr],[]⟩:=by
   intro f' a1 a3 a4 a5;exact⟨x.ops.length-(i+1),by omega,f',i+1,rfl,rfl,a1,by rw[a3,ht],a4,a5,.inl (by omega)⟩
  simp only[PO.cells]at hgm hgm2;cases hb:(b&&Qz (Q7 x.ops (XY PO.num)) (i+1))
  ·rw[hb]at fin h3;simp only[Qo hlt,PO.cells,h3,hc,e1,Qa,seval];exact fin _ (by exact h1) (by rfl) (by exact ha) (by rfl)
  ·rw[hb,QND]at fin;rw[hb]at h3;simp only[Qo hlt,Qm,QNt,Qd,hjm,hgm,hgm2,PO.cells,h1,m1,h3,ha,hc,e1,e2,eE,seval];exact fin _ (by exact h1) (by rfl) (by exact ha) (by rfl)
 ·have hf:Qz (Q7 x.ops (XY PO.num)) (i+1)=ZZ x:=by
   show _=Qz (Q7 x.ops (XY PO.num)) x.ops.length;rcases hi with h|h
   ·rw[show i+1=x.ops.length by omega]
   ·subst h;rcases QMT x.ops.length with h0|h0
    ·rw[h0];rfl
    ·rw[show x.ops.length=1 by omega]
  rw[hf]at h3;simp only[QE hlt,Qa,seval];exact hx _ (by exact h1) (by exact h3) (by exact ha)

theorem Vf (ha:f 4=.int .i64 0)(hx:∀f,f 1=.ptr 0 1 0→f 3=.bool (b&&(XH P.progs (Xy PG.name)&&P.progs.all ZZ))→Q (.exit 0) (⟨f,[fr],[]⟩:St)):QJ Tryz.prog (.loop Ru) ⟨f,[fr],[]⟩ Q:=by
 let q:Nat→Bool:=fun i=>Q7 P.progs (Xy PG.name) i&&Ur P.progs ZZ i
 let I:Nat→St→Prop:=fun k st=>∃f i,st=⟨f,[fr],[]⟩∧k=P.progs.length-i∧i≤P.progs.length∧f 1=.ptr 0 1 0∧f 3=.bool (b&&Qz q i)∧f 4=.int .i64 (i:Nat)
 have m1':=m1;have hqa:Qz q P.progs.length=(XH P.progs (Xy PG.name)&&P.progs.all ZZ):=by
  show Qz (fun i=>Q7 P.progs (Xy PG.name) i&&Ur P.progs ZZ i) _=_;rw[UG,UH];rfl
 refine Qf I _ ⟨f,0,rfl,rfl,QMd _,h1,by rw[h3];simp[Qz],ha⟩ ?_;clear h1 h3 ha;simp only[Pc]at m1;rintro _ st ⟨f,i,rfl,rfl,hi,h1,h3,ha⟩;simp only[QMZ,h1,m1,ha,eE,seval];by_cases hlt:i<P.progs.length
 ·obtain⟨x,hg⟩:∃x,P.progs[i]? = some x:=⟨P.progs[i],QL6 hlt⟩;have hgm:(P.progs.map Qj)[i]? = some (.agg x.cells):=by simp[hg,Qj]
  have e1:=Qq i _ hlt hP.len1;have ht:=Z1 b q i;have hq:q i=(Q7 P.progs (Xy PG.name) i&&ZZ x):=by show(_&&Ur P.progs ZZ i)=_;rw[Wv hg]
  rw[hq,←QMP]at ht;have fin:∀f':Fr,f' 1=.ptr 0 1 0→f' 3=.bool (((b&&Qz q i)&&Q7 P.progs (Xy PG.name) i)&&ZZ x)→f' 4=.int .i64 ((i+1:Nat):Int)→∃k,k<P.progs.length-i∧I k ⟨f',[fr],[]⟩:=by
   intro f' a1 a3 a4;exact⟨P.progs.length-(i+1),by omega,f',i+1,rfl,rfl,by omega,a1,by rw[a3,ht],a4⟩
  simp only[PG.cells]at hgm;cases hb:(b&&Qz q i)
  ·rw[hb,QNw]at fin;rw[hb]at h3;simp only[Qo hlt,h3,Qa,seval];refine WW P hP fr m1' _ false (by exact h1) (by rfl) _ i x hg (by exact ha) (by rfl) (fun f h1 h3 ha=>?_);simp only[ha,e1,Qa,seval];exact fin _ (by exact h1) (by exact h3) (by rfl)
  ·rw[hb,QND]at fin;rw[hb]at h3;cases i with
   |zero=>
    have b0:(((0:Nat):Int)==0)=true:=rfl;rw[WU]at fin;simp only[Qo hlt,b0,h3,ha,Qa,Nat.reduceBEq,↓reduceIte];refine WW P hP fr m1' _ true (by exact h1) (by rfl) _ 0 x hg (by exact ha) (by rfl) (fun f h1 h3 ha=>?_);simp only[ha,e1,Qa,Nat.reduceBEq,↓reduceIte,Nat.reduceAdd];exact fin _ (by exact h1) (by exact h3) (by rfl)
   |succ j=>
    obtain⟨y,hgj⟩:∃y,P.progs[j]? = some y:=⟨P.progs[j]'(by omega),QL6 (by omega)⟩;have hgjm:(P.progs.map Qj)[j]? = some (.agg y.cells):=by simp[hgj,Qj]
    have b0:(((j+1:Nat):Int)==0)=false:=by rw[QNI];omega
    have e2:=KP j _ hlt hP.len1;rw[ZY hgj hg]at fin;have hq2:(Xy PG.name) y x=Op.bytesLess y.name x.name:=rfl;rw[hq2]at fin;simp only[PG.cells]at hgjm;simp only[Qo hlt,Qm,QNt,Qd,hgm,hgjm,b0,e2,QN,h1,m1,h3,ha,eE,seval];refine WW P hP fr m1' _ (Op.bytesLess y.name x.name) (by exact h1) (by rfl) _ (j+1) x hg (by exact ha) (by rfl) (fun f h1 h3 ha=>?_);simp only[ha,e1,Qa,seval];exact fin _ (by exact h1) (by exact h3) (by rfl)
 ·have hf:Qz q i=(XH P.progs (Xy PG.name)&&P.progs.all ZZ):=by rw[show i=P.progs.length by omega,hqa]
  rw[hf]at h3;simp only[QE hlt,Qa,seval];exact hx _ (by exact h1) (by exact h3)

theorem WX (j:Nat)(x:PE)(hj:P.enums[j]? = some x)(ha:f 6=.int .i64 (j:Nat))(hc:f 7=.int .i64 1)(hx:∀f,f 1=.ptr 0 1 0→f 3=.bool (b&&Jq x)→f 6=.int .i64 (j:Nat)→Q (.exit 6) (⟨f,[fr],[]⟩:St)):QJ Tryz.prog (.loop Rv) ⟨f,[fr],[]⟩ Q:=by
 let I:Nat→St→Prop:=fun k st=>∃f i,st=⟨f,[fr],[]⟩∧k=x.items.length-i∧f 1=.ptr 0 1 0∧f 3=.bool (b&&Qz (Q7 x.items (XY PI.num)) (i+1))∧f 6=.int .i64 (j:Nat)∧f 7=.int .i64 ((i+1:Nat):Int)∧(i+1≤x.items.length∨i=0)
 have hjm:(P.enums.map Qt)[j]? = some (.agg x.cells):=by simp[hj,Qt]
 have hsl:x.items.length≤maxLen:=(hP.enums x (QMi hj)).len1;refine Qf I _ ⟨f,0,rfl,rfl,h1,by rw[h3];simp[Qz,Q7],ha,hc,.inr rfl⟩ ?_;clear h1 h3 ha hc;simp only[Pc]at m1;simp only[PE.cells]at hjm;rintro _ st ⟨f,i,rfl,rfl,h1,h3,ha,hc,hi⟩;simp only[Qm,QNt,Qd,hjm,QMZ,h1,m1,ha,hc,eE,seval];by_cases hlt:i+1<x.items.length
 ·obtain⟨o,hg⟩:∃o,x.items[i]? = some o:=⟨x.items[i]'(by omega),QL6 (by omega)⟩;obtain⟨o2,hg2⟩:∃o,x.items[i+1]? = some o:=⟨x.items[i+1],QL6 hlt⟩;have hgm:(x.items.map fun o=>AV.agg o.cells)[i]? = some (.agg o.cells):=by simp[hg]
  have hgm2:(x.items.map fun o=>AV.agg o.cells)[i+1]? = some (.agg o2.cells):=by simp[hg2]
  have e1:=Qq (i+1) _ hlt hsl;have e2:=KP i _ hlt hsl;have ht:=Z1 b (Q7 x.items (XY PI.num)) (i+1);rw[ZY hg hg2]at ht;have hq:(XY PI.num) o o2=decide (o.num<o2.num):=rfl;rw[hq]at ht;have fin:∀f':Fr,f' 1=.ptr 0 1 0→f' 3=.bool ((b&&Qz (Q7 x.items (XY PI.num)) (i+1))&&decide (o.num<o2.num))→f' 6=.int .i64 (j:Nat)→f' 7=.int .i64 ((i+1+1:Nat):Int)→∃k,k<x.items.length-i∧I k ⟨f',[fr],[]⟩:=by
   intro f' a1 a3 a4 a5;exact⟨x.items.length-(i+1),by omega,f',i+1,rfl,rfl,a1,by rw[a3,ht],a4,a5,.inl (by omega)⟩
  simp only[PI.cells]at hgm hgm2;cases hb:(b&&Qz (Q7 x.items (XY PI.num)) (i+1))
  ·rw[hb]at fin h3;simp only[Qo hlt,PI.cells,h3,hc,e1,Qa,seval];exact fin _ (by exact h1) (by rfl) (by exact ha) (by rfl)
  ·rw[hb,QND]at fin;rw[hb]at h3;simp only[Qo hlt,Qm,QNt,Qd,hjm,hgm,hgm2,PI.cells,h1,m1,h3,ha,hc,e1,e2,eE,seval];exact fin _ (by exact h1) (by rfl) (by exact ha) (by rfl)
 ·have hf:Qz (Q7 x.items (XY PI.num)) (i+1)=Jq x:=by
   show _=Qz (Q7 x.items (XY PI.num)) x.items.length;rcases hi with h|h
   ·rw[show i+1=x.items.length by omega]
   ·subst h;rcases QMT x.items.length with h0|h0
    ·rw[h0];rfl
    ·rw[show x.items.length=1 by omega]
  rw[hf]at h3;simp only[QE hlt,Qa,seval];exact hx _ (by exact h1) (by exact h3) (by exact ha)

theorem Vg (ha:f 6=.int .i64 0)(hx:∀f,f 1=.ptr 0 1 0→f 3=.bool (b&&(XH P.enums (Xy PE.name)&&P.enums.all Jq))→Q (.exit 4) (⟨f,[fr],[]⟩:St)):QJ Tryz.prog (.loop Rw) ⟨f,[fr],[]⟩ Q:=by
 let q:Nat→Bool:=fun i=>Q7 P.enums (Xy PE.name) i&&Ur P.enums Jq i
 let I:Nat→St→Prop:=fun k st=>∃f i,st=⟨f,[fr],[]⟩∧k=P.enums.length-i∧i≤P.enums.length∧f 1=.ptr 0 1 0∧f 3=.bool (b&&Qz q i)∧f 6=.int .i64 (i:Nat)
 have m1':=m1;have hqa:Qz q P.enums.length=(XH P.enums (Xy PE.name)&&P.enums.all Jq):=by
  show Qz (fun i=>Q7 P.enums (Xy PE.name) i&&Ur P.enums Jq i) _=_;rw[UG,UH];rfl
 refine Qf I _ ⟨f,0,rfl,rfl,QMd _,h1,by rw[h3];simp[Qz],ha⟩ ?_;clear h1 h3 ha;simp only[Pc]at m1;rintro _ st ⟨f,i,rfl,rfl,hi,h1,h3,ha⟩;simp only[QMZ,h1,m1,ha,eE,seval];by_cases hlt:i<P.enums.length
 ·obtain⟨x,hg⟩:∃x,P.enums[i]? = some x:=⟨P.enums[i],QL6 hlt⟩;have hgm:(P.enums.map Qt)[i]? = some (.agg x.cells):=by simp[hg,Qt]
  have e1:=Qq i _ hlt hP.len2;have ht:=Z1 b q i;have hq:q i=(Q7 P.enums (Xy PE.name) i&&Jq x):=by show(_&&Ur P.enums Jq i)=_;rw[Wv hg]
  rw[hq,←QMP]at ht;have fin:∀f':Fr,f' 1=.ptr 0 1 0→f' 3=.bool (((b&&Qz q i)&&Q7 P.enums (Xy PE.name) i)&&Jq x)→f' 6=.int .i64 ((i+1:Nat):Int)→∃k,k<P.enums.length-i∧I k ⟨f',[fr],[]⟩:=by
   intro f' a1 a3 a4;exact⟨P.enums.length-(i+1),by omega,f',i+1,rfl,rfl,by omega,a1,by rw[a3,ht],a4⟩
  simp only[PE.cells]at hgm;cases hb:(b&&Qz q i)
  ·rw[hb,QNw]at fin;rw[hb]at h3;simp only[Qo hlt,h3,Qa,seval];refine WX P hP fr m1' _ false (by exact h1) (by rfl) _ i x hg (by exact ha) (by rfl) (fun f h1 h3 ha=>?_);simp only[ha,e1,Qa,seval];exact fin _ (by exact h1) (by exact h3) (by rfl)
  ·rw[hb,QND]at fin;rw[hb]at h3;cases i with
   |zero=>
    have b0:(((0:Nat):Int)==0)=true:=rfl;rw[WU]at fin;simp only[Qo hlt,b0,h3,ha,Qa,Nat.reduceBEq,↓reduceIte];refine WX P hP fr m1' _ true (by exact h1) (by rfl) _ 0 x hg (by exact ha) (by rfl) (fun f h1 h3 ha=>?_);simp only[ha,e1,Qa,Nat.reduceBEq,↓reduceIte,Nat.reduceAdd];exact fin _ (by exact h1) (by exact h3) (by rfl)
   |succ j=>
    obtain⟨y,hgj⟩:∃y,P.enums[j]? = some y:=⟨P.enums[j]'(by omega),QL6 (by omega)⟩;have hgjm:(P.enums.map Qt)[j]? = some (.agg y.cells):=by simp[hgj,Qt]
    have b0:(((j+1:Nat):Int)==0)=false:=by rw[QNI];omega
    have e2:=KP j _ hlt hP.len2;rw[ZY hgj hg]at fin;have hq2:(Xy PE.name) y x=Op.bytesLess y.name x.name:=rfl;rw[hq2]at fin;simp only[PE.cells]at hgjm;simp only[Qo hlt,Qm,QNt,Qd,hgm,hgjm,b0,e2,QN,h1,m1,h3,ha,eE,seval];refine WX P hP fr m1' _ (Op.bytesLess y.name x.name) (by exact h1) (by rfl) _ (j+1) x hg (by exact ha) (by rfl) (fun f h1 h3 ha=>?_);simp only[ha,e1,Qa,seval];exact fin _ (by exact h1) (by exact h3) (by rfl)
 ·have hf:Qz q i=(XH P.enums (Xy PE.name)&&P.enums.all Jq):=by rw[show i=P.enums.length by omega,hqa]
  rw[hf]at h3;simp only[QE hlt,Qa,seval];exact hx _ (by exact h1) (by exact h3)

end

section
variable {M:Nat}(P:PL)(hP:P.ok M)
include hP

theorem z43:Qp Tryz.prog 43 [P.av] (.bool (Us P)):=by
 have e0:P.av=.agg [.list (P.progs.map Qj),.list (P.enums.map Qt)]:=rfl;have e1:decide ((P.progs.length:Int)≤64)=decide (P.progs.length≤64):=by rw[decide_eq_decide];omega
 have e2:decide ((P.enums.length:Int)≤64)=decide (P.enums.length≤64):=by rw[decide_eq_decide];omega
 refine k43.fn (by simp) ?_;simp only[e0,QMZ,e1,eE,seval];have hl:Us P=((decide (P.progs.length≤64)&&decide (P.enums.length≤64)&&P.progs.all ZH)&&P.enums.all Je):=rfl;cases a1:decide (P.progs.length≤64)<;>simp only[e2,QMZ,eE,seval]
 all_goals
  refine Vb P hP _ (by rfl) _ _ (by rfl) (by rfl) _ (by rfl) (fun f h1 h3=>?_);simp only[Qa,seval];refine Vc P hP _ (by rfl) _ _ (by exact h1) (by exact h3) _ (by rfl) (fun f h1 h3=>?_);simp only[h3,hl,a1,QNw,QND,Qa,seval]

theorem z44:Qp Tryz.prog 44 [P.av] (.bool (Ft P)):=by
 have e0:P.av=.agg [.list (P.progs.map Qj),.list (P.enums.map Qt)]:=rfl;refine k44.fn (by simp) ?_;simp only[e0,eE,seval];refine Vd P hP _ (by rfl) _ true (by rfl) (by rfl) _ (by rfl) (fun f h1 h3=>?_);simp only[Qa,seval];refine Ve P hP _ (by rfl) _ _ (by exact h1) (by exact h3) _ (by rfl) (fun f h1 h3=>?_);simp only[h3,Ft,QND,Qa,seval]

theorem z45:Qp Tryz.prog 45 [P.av] (.bool (Ut P)):=by
 have e0:P.av=.agg [.list (P.progs.map Qj),.list (P.enums.map Qt)]:=rfl;have e:Ut P=((XH P.progs (Xy PG.name)&&P.progs.all ZZ)&&(XH P.enums (Xy PE.name)&&P.enums.all Jq)):=by
  unfold Ut;cases XH P.progs (Xy PG.name)<;>cases P.progs.all ZZ<;>cases XH P.enums (Xy PE.name)<;>rfl
 refine k45.fn (by simp) ?_;simp only[e0,eE,seval];refine Vf P hP _ (by rfl) _ true (by rfl) (by rfl) _ (by rfl) (fun f h1 h3=>?_);simp only[Qa,seval];refine Vg P hP _ (by rfl) _ _ (by exact h1) (by exact h3) _ (by rfl) (fun f h1 h3=>?_);simp only[h3,e,QND,Qa,seval]

end

theorem z78 (L:List PS)(hl:L.length≤maxLen)(n:Int):Qp Tryz.prog 78 [.list (L.map XT),.int .i64 n] (.bool (kept L n)):=by
 let I:Nat→St→Prop:=fun k st=>∃f i,st=⟨f,[Qc],[]⟩∧k=L.length-i∧kept L n=kept (L.drop i) n∧f 0=.list (L.map XT)∧f 1=.int .i64 n∧f 5=.int .i64 (i:Nat)
 refine k78.fn (by simp) ?_;simp only[Qa,seval];refine Qf I _ ⟨_,0,rfl,rfl,rfl,(by rfl),(by rfl),(by rfl)⟩ ?_;rintro _ st ⟨f,i,rfl,rfl,hx,h0,h1,h5⟩;simp only[QMZ,h0,h5,Qa,seval];by_cases hlt:i<L.length
 ·obtain⟨x,hi⟩:∃x,L[i]? = some x:=⟨L[i],QL6 hlt⟩;have hg:(L.map XT)[i]? = some (XT x):=by simp[hi]
  have e1:=Qq i _ hlt hl;have hd:kept (L.drop i) n=((decide (x.lo≤n)&&decide (n≤x.hi))||kept (L.drop (i+1)) n):=by
   unfold kept;rw[QMN hlt,show L[i]=x from(QL5.1 hi).2];rfl
  rw[hd]at hx;simp only[Qo hlt,Qm,QNt,Qd,hg,XT,PS.cells,h0,h1,h5,eE,seval];cases a1:decide (x.lo≤n)
  ·rw[a1,QNw,QNH]at hx;simp only[h5,e1,Qa,seval];exact⟨L.length-(i+1),by omega,_,i+1,rfl,rfl,hx,(by exact h0),(by exact h1),(by rfl)⟩
  ·cases a2:decide (n≤x.hi)
   ·rw[a1,a2,QNS,QNH]at hx;simp only[a2,Qm,QNt,Qd,hg,XT,PS.cells,h0,h1,h5,e1,eE,seval];exact⟨L.length-(i+1),by omega,_,i+1,rfl,rfl,hx,(by exact h0),(by exact h1),(by rfl)⟩
   ·rw[a1,a2,QNf,QNG]at hx;simp only[a2,Qm,QNt,Qd,hg,XT,PS.cells,h0,h1,h5,hx,eE,seval]
 ·have hx':kept L n=false:=by rw[hx,QMG (by omega)];rfl
  simp only[QE hlt,hx',Qa,seval]

section
variable {M:Nat}(P:PL)(hP:P.ok M)(fr:Nat→Ob)(m1:fr 1=.cells (Pc P))(f:Fr)(b:Bool)(h1:f 1=.ptr 0 1 0)(h3:f 3=.bool b)(Q:Exit→St→Prop)

include h1 h3 in
theorem Pu (L:List PO)(hl:L.length≤maxLen)(j:Nat)(x:PO)(hj:L[j]? = some x)(n:Nat)(hr:f 4=.int .i64 (n:Nat))(hL:f 6=.list (L.map fun o=>.agg o.cells))(hc:f 7=.int .i64 (j:Nat))(hd:f 8=.int .i64 0)
  (hx:∀f,f 1=.ptr 0 1 0→f 3=.bool (b&&(L.take j).all fun y=>!(y.name==x.name))→f 4=.int .i64 (n:Nat)→f 6=.list (L.map fun o=>.agg o.cells)→f 7=.int .i64 (j:Nat)→Q (.exit 6) (⟨f,[fr],[]⟩:St)) :
  QJ Tryz.prog (.loop Ry) ⟨f,[fr],[]⟩ Q:=by
 let I:Nat→St→Prop:=fun k st=>∃f i,st=⟨f,[fr],[]⟩∧k=j-i∧i≤j∧f 1=.ptr 0 1 0∧f 3=.bool (b&&(L.take i).all fun y=>!(y.name==x.name))∧f 4=.int .i64 (n:Nat)∧f 6=.list (L.map fun o=>.agg o.cells)∧f 7=.int .i64 (j:Nat)∧f 8=.int .i64 (i:Nat)
 have hjl:j<L.length:=(QL5.1 hj).1;have hjm:(L.map fun o=>AV.agg o.cells)[j]? = some (.agg x.cells):=by simp[hj]
 refine Qf I _ ⟨f,0,rfl,rfl,QMd _,h1,by rw[h3];simp,hr,hL,hc,hd⟩ ?_;clear h1 h3 hr hL hc hd;simp only[PO.cells]at hjm;rintro _ st ⟨f,i,rfl,rfl,hi,h1,h3,hr,hL,hc,hd⟩;simp only[hc,hd,Qa,seval];by_cases hlt:i<j
 ·obtain⟨o,hg⟩:∃o,L[i]? = some o:=⟨L[i]'(by omega),QL6 (by omega)⟩;have hgm:(L.map fun o=>AV.agg o.cells)[i]? = some (.agg o.cells):=by simp[hg]
  have e1:=Qq i _ (show i<L.length by omega) hl;have ht:=Q1 (q:=fun y:PO=>!(y.name==x.name)) hg;have fin:∀f':Fr,f' 1=.ptr 0 1 0→f' 3=.bool ((b&&(L.take i).all fun y=>!(y.name==x.name)) && !(o.name==x.name))→f' 4=.int .i64 (n:Nat)→f' 6=.list (L.map fun o=>.agg o.cells)→f' 7=.int .i64 (j:Nat)→f' 8=.int .i64 ((i+1:Nat):Int)→∃k,k<j-i∧I k ⟨f',[fr],[]⟩:=by
   intro f' a1 a3 a4 a5 a6 a7;exact⟨j-(i+1),by omega,f',i+1,rfl,rfl,by omega,a1,by rw[a3,ht,QMP],a4,a5,a6,a7⟩
  simp only[PO.cells]at hgm;cases hb:(b&&(L.take i).all fun y=>!(y.name==x.name))
  ·rw[hb]at fin h3;simp only[Qo hlt,h3,hd,e1,Qa,seval];exact fin _ (by exact h1) (by rfl) (by exact hr) (by exact hL) (by exact hc) (by rfl)
  ·rw[hb,QND]at fin;rw[hb]at h3;simp only[Qo hlt,Qm,QNt,Qd,hgm,hjm,PO.cells,QN,h3,hL,hc,hd,e1,eE,seval];exact fin _ (by exact h1) (by rfl) (by exact hr) (by exact hL) (by exact hc) (by rfl)
 ·rw[show i=j by omega]at h3;simp only[QE hlt,Qa,seval];exact hx _ (by exact h1) (by exact h3) (by exact hr) (by exact hL) (by exact hc)

include h1 h3 in
theorem Pv (L:List PO)(hl:L.length≤maxLen)(n:Nat)(hr:f 4=.int .i64 (n:Nat))(hL:f 6=.list (L.map fun o=>.agg o.cells))(hc:f 7=.int .i64 0)
  (hx:∀f,f 1=.ptr 0 1 0→f 3=.bool (b&&JU L PO.name)→f 4=.int .i64 (n:Nat)→Q (.exit 4) (⟨f,[fr],[]⟩:St)) :
  QJ Tryz.prog (.loop Rz) ⟨f,[fr],[]⟩ Q:=by
 let I:Nat→St→Prop:=fun k st=>∃f i,st=⟨f,[fr],[]⟩∧k=L.length-i∧i≤L.length∧f 1=.ptr 0 1 0∧f 3=.bool (b&&Qz (uniq L PO.name) i)∧f 4=.int .i64 (n:Nat)∧f 6=.list (L.map fun o=>.agg o.cells)∧f 7=.int .i64 (i:Nat)
 refine Qf I _ ⟨f,0,rfl,rfl,QMd _,h1,by rw[h3];simp[Qz],hr,hL,hc⟩ ?_;clear h1 h3 hr hL hc;rintro _ st ⟨f,i,rfl,rfl,hi,h1,h3,hr,hL,hc⟩;simp only[QMZ,hL,hc,Qa,seval];by_cases hlt:i<L.length
 ·obtain⟨o,hg⟩:∃o,L[i]? = some o:=⟨L[i],QL6 hlt⟩;have e1:=Qq i _ hlt hl;have ht:=Z1 b (uniq L PO.name) i;rw[YZ hg]at ht;simp only[Qo hlt,Qa,seval];refine Pu fr _ (b&&Qz (uniq L PO.name) i) (by exact h1) (by exact h3) _ L hl i o hg n (by exact hr) (by exact hL) (by exact hc) (by rfl) (fun f h1 h3 hr hL hc=>?_);simp only[hc,e1,Qa,seval];exact⟨L.length-(i+1),by omega,_,i+1,rfl,rfl,by omega,(by exact h1),by rw[ht]<;>first|exact h3|simp only[h3,eE,seval],(by exact hr),(by exact hL),(by rfl)⟩
 ·rw[show i=L.length by omega]at h3;simp only[QE hlt,Qa,seval];exact hx _ (by exact h1) (by exact h3) (by exact hr)

include h1 h3 in
theorem Vh (L:List PI)(hl:L.length≤maxLen)(j:Nat)(x:PI)(hj:L[j]? = some x)(n:Nat)(hr:f 9=.int .i64 (n:Nat))(hL:f 10=.list (L.map fun o=>.agg o.cells))(hc:f 11=.int .i64 (j:Nat))(hd:f 12=.int .i64 0)
  (hx:∀f,f 1=.ptr 0 1 0→f 3=.bool (b&&(L.take j).all fun y=>!(y.name==x.name))→f 9=.int .i64 (n:Nat)→f 10=.list (L.map fun o=>.agg o.cells)→f 11=.int .i64 (j:Nat)→Q (.exit 12) (⟨f,[fr],[]⟩:St)) :
  QJ Tryz.prog (.loop RE) ⟨f,[fr],[]⟩ Q:=by
 let I:Nat→St→Prop:=fun k st=>∃f i,st=⟨f,[fr],[]⟩∧k=j-i∧i≤j∧f 1=.ptr 0 1 0∧f 3=.bool (b&&(L.take i).all fun y=>!(y.name==x.name))∧f 9=.int .i64 (n:Nat)∧f 10=.list (L.map fun o=>.agg o.cells)∧f 11=.int .i64 (j:Nat)∧f 12=.int .i64 (i:Nat)
 have hjl:j<L.length:=(QL5.1 hj).1;have hjm:(L.map fun o=>AV.agg o.cells)[j]? = some (.agg x.cells):=by simp[hj]
 refine Qf I _ ⟨f,0,rfl,rfl,QMd _,h1,by rw[h3];simp,hr,hL,hc,hd⟩ ?_;clear h1 h3 hr hL hc hd;simp only[PI.cells]at hjm;rintro _ st ⟨f,i,rfl,rfl,hi,h1,h3,hr,hL,hc,hd⟩;simp only[hc,hd,Qa,seval];by_cases hlt:i<j
 ·obtain⟨o,hg⟩:∃o,L[i]? = some o:=⟨L[i]'(by omega),QL6 (by omega)⟩;have hgm:(L.map fun o=>AV.agg o.cells)[i]? = some (.agg o.cells):=by simp[hg]
  have e1:=Qq i _ (show i<L.length by omega) hl;have ht:=Q1 (q:=fun y:PI=>!(y.name==x.name)) hg;have fin:∀f':Fr,f' 1=.ptr 0 1 0→f' 3=.bool ((b&&(L.take i).all fun y=>!(y.name==x.name)) && !(o.name==x.name))→f' 9=.int .i64 (n:Nat)→f' 10=.list (L.map fun o=>.agg o.cells)→f' 11=.int .i64 (j:Nat)→f' 12=.int .i64 ((i+1:Nat):Int)→∃k,k<j-i∧I k ⟨f',[fr],[]⟩:=by
   intro f' a1 a3 a4 a5 a6 a7;exact⟨j-(i+1),by omega,f',i+1,rfl,rfl,by omega,a1,by rw[a3,ht,QMP],a4,a5,a6,a7⟩
  simp only[PI.cells]at hgm;cases hb:(b&&(L.take i).all fun y=>!(y.name==x.name))
  ·rw[hb]at fin h3;simp only[Qo hlt,h3,hd,e1,Qa,seval];exact fin _ (by exact h1) (by rfl) (by exact hr) (by exact hL) (by exact hc) (by rfl)
  ·rw[hb,QND]at fin;rw[hb]at h3;simp only[Qo hlt,Qm,QNt,Qd,hgm,hjm,PI.cells,QN,h3,hL,hc,hd,e1,eE,seval];exact fin _ (by exact h1) (by rfl) (by exact hr) (by exact hL) (by exact hc) (by rfl)
 ·rw[show i=j by omega]at h3;simp only[QE hlt,Qa,seval];exact hx _ (by exact h1) (by exact h3) (by exact hr) (by exact hL) (by exact hc)

include h1 h3 in
theorem Vi (L:List PI)(hl:L.length≤maxLen)(n:Nat)(hr:f 9=.int .i64 (n:Nat))(hL:f 10=.list (L.map fun o=>.agg o.cells))(hc:f 11=.int .i64 0)
  (hx:∀f,f 1=.ptr 0 1 0→f 3=.bool (b&&JU L PI.name)→f 9=.int .i64 (n:Nat)→Q (.exit 10) (⟨f,[fr],[]⟩:St)) :
  QJ Tryz.prog (.loop RF) ⟨f,[fr],[]⟩ Q:=by
 let I:Nat→St→Prop:=fun k st=>∃f i,st=⟨f,[fr],[]⟩∧k=L.length-i∧i≤L.length∧f 1=.ptr 0 1 0∧f 3=.bool (b&&Qz (uniq L PI.name) i)∧f 9=.int .i64 (n:Nat)∧f 10=.list (L.map fun o=>.agg o.cells)∧f 11=.int .i64 (i:Nat)
 refine Qf I _ ⟨f,0,rfl,rfl,QMd _,h1,by rw[h3];simp[Qz],hr,hL,hc⟩ ?_;clear h1 h3 hr hL hc;rintro _ st ⟨f,i,rfl,rfl,hi,h1,h3,hr,hL,hc⟩;simp only[QMZ,hL,hc,Qa,seval];by_cases hlt:i<L.length
 ·obtain⟨o,hg⟩:∃o,L[i]? = some o:=⟨L[i],QL6 hlt⟩;have e1:=Qq i _ hlt hl;have ht:=Z1 b (uniq L PI.name) i;rw[YZ hg]at ht;simp only[Qo hlt,Qa,seval];refine Vh fr _ (b&&Qz (uniq L PI.name) i) (by exact h1) (by exact h3) _ L hl i o hg n (by exact hr) (by exact hL) (by exact hc) (by rfl) (fun f h1 h3 hr hL hc=>?_);simp only[hc,e1,Qa,seval];exact⟨L.length-(i+1),by omega,_,i+1,rfl,rfl,by omega,(by exact h1),by rw[ht]<;>first|exact h3|simp only[h3,eE,seval],(by exact hr),(by exact hL),(by rfl)⟩
 ·rw[show i=L.length by omega]at h3;simp only[QE hlt,Qa,seval];exact hx _ (by exact h1) (by exact h3) (by exact hr)

include hP m1 h1 h3

theorem QHX (j:Nat)(x:PG)(hj:P.progs[j]? = some x)(ha:f 4=.int .i64 (j:Nat))(hc:f 5=.int .i64 0)(hx:∀f,f 1=.ptr 0 1 0→f 3=.bool (b&&P.enums.all fun e=>!(e.name==x.name))→f 4=.int .i64 (j:Nat)→Q (.exit 2) (⟨f,[fr],[]⟩:St)):QJ Tryz.prog (.loop Rx) ⟨f,[fr],[]⟩ Q:=by
 let I:Nat→St→Prop:=fun k st=>∃f i,st=⟨f,[fr],[]⟩∧k=P.enums.length-i∧i≤P.enums.length∧f 1=.ptr 0 1 0∧f 3=.bool (b&&(P.enums.take i).all fun e=>!(e.name==x.name))∧f 4=.int .i64 (j:Nat)∧f 5=.int .i64 (i:Nat)
 have hjm:(P.progs.map Qj)[j]? = some (.agg x.cells):=by simp[hj,Qj]
 refine Qf I _ ⟨f,0,rfl,rfl,QMd _,h1,by rw[h3];simp,ha,hc⟩ ?_;clear h1 h3 ha hc;simp only[Pc]at m1;simp only[PG.cells]at hjm;rintro _ st ⟨f,i,rfl,rfl,hi,h1,h3,ha,hc⟩;simp only[QMZ,h1,m1,hc,eE,seval];by_cases hlt:i<P.enums.length
 ·obtain⟨o,hg⟩:∃o,P.enums[i]? = some o:=⟨P.enums[i],QL6 hlt⟩;have hgm:(P.enums.map Qt)[i]? = some (.agg o.cells):=by simp[hg,Qt]
  have e1:=Qq i _ hlt hP.len2;have ht:=Q1 (q:=fun y:PE=>!(y.name==x.name)) hg;have hcm:(x.name==o.name)=(o.name==x.name):=by rw[QMY,QMb,QMb];exact⟨Eq.symm,Eq.symm⟩
  have fin:∀f':Fr,f' 1=.ptr 0 1 0→f' 3=.bool ((b&&(P.enums.take i).all fun y=>!(y.name==x.name)) && !(o.name==x.name))→f' 4=.int .i64 (j:Nat)→f' 5=.int .i64 ((i+1:Nat):Int)→∃k,k<P.enums.length-i∧I k ⟨f',[fr],[]⟩:=by
   intro f' a1 a3 a4 a5;exact⟨P.enums.length-(i+1),by omega,f',i+1,rfl,rfl,by omega,a1,by rw[a3,ht,QMP],a4,a5⟩
  simp only[PE.cells]at hgm;cases hb:(b&&(P.enums.take i).all fun y=>!(y.name==x.name))
  ·rw[hb]at fin h3;simp only[Qo hlt,h3,hc,e1,Qa,seval];exact fin _ (by exact h1) (by rfl) (by exact ha) (by rfl)
  ·rw[hb,QND]at fin;rw[hb]at h3;simp only[Qo hlt,Qm,QNt,Qd,hjm,hgm,QN,hcm,h1,m1,h3,ha,hc,e1,eE,seval];exact fin _ (by exact h1) (by rfl) (by exact ha) (by rfl)
 ·have hf:(P.enums.take i).all (fun e=>!(e.name==x.name))=P.enums.all fun e=>!(e.name==x.name):=by rw[QMD (by omega)]
  rw[hf]at h3;simp only[QE hlt,Qa,seval];exact hx _ (by exact h1) (by exact h3) (by exact ha)

theorem QHY (ha:f 4=.int .i64 0)(hx:∀f,f 1=.ptr 0 1 0→f 3=.bool (b&&P.progs.all (JX P))→Q (.exit 0) (⟨f,[fr],[]⟩:St)):QJ Tryz.prog (.loop RD) ⟨f,[fr],[]⟩ Q:=by
 let I:Nat→St→Prop:=fun k st=>∃f i,st=⟨f,[fr],[]⟩∧k=P.progs.length-i∧i≤P.progs.length∧f 1=.ptr 0 1 0∧f 3=.bool (b&&(P.progs.take i).all (JX P))∧f 4=.int .i64 (i:Nat)
 have m1':=m1;refine Qf I _ ⟨f,0,rfl,rfl,QMd _,h1,by rw[h3];simp,ha⟩ ?_;clear h1 h3 ha;simp only[Pc]at m1;rintro _ st ⟨f,i,rfl,rfl,hi,h1,h3,ha⟩;simp only[QMZ,h1,m1,ha,eE,seval];by_cases hlt:i<P.progs.length
 ·obtain⟨x,hg⟩:∃x,P.progs[i]? = some x:=⟨P.progs[i],QL6 hlt⟩;have hgm:(P.progs.map Qj)[i]? = some (.agg x.cells):=by simp[hg,Qj]
  have e1:=Qq i _ hlt hP.len1;have ht:=Q1 (q:=JX P) hg;have hq:JX P x=((P.enums.all fun e=>!(e.name==x.name))&&JU x.ops PO.name):=rfl;simp only[PG.cells]at hgm;simp only[Qo hlt,Qa,seval];refine QHX P hP fr m1' _ (b&&(P.progs.take i).all (JX P)) (by exact h1) (by exact h3) _ i x hg (by exact ha) (by rfl) (fun f h1 h3 ha=>?_);simp only[Qm,QNt,Qd,hgm,h1,m1,ha,eE,seval];refine Pv fr _ _ (by exact h1) (by exact h3) _ x.ops (hP.progs x (QMi hg)).len i (by exact ha) (by rfl) (by rfl) (fun f h1 h3 ha=>?_);simp only[ha,e1,Qa,seval];exact⟨P.progs.length-(i+1),by omega,_,i+1,rfl,rfl,by omega,(by exact h1),by rw[ht,hq,←QMP,←QMP]<;>first|exact h3|simp only[h3,eE,seval],(by rfl)⟩
 ·have hf:(P.progs.take i).all (JX P)=P.progs.all (JX P):=by rw[QMD (by omega)]
  rw[hf]at h3;simp only[QE hlt,Qa,seval];exact hx _ (by exact h1) (by exact h3)

theorem QHZ (ha:f 9=.int .i64 0)(hx:∀f,f 1=.ptr 0 1 0→f 3=.bool (b&&P.enums.all KO)→Q (.exit 8) (⟨f,[fr],[]⟩:St)):QJ Tryz.prog (.loop RG) ⟨f,[fr],[]⟩ Q:=by
 let I:Nat→St→Prop:=fun k st=>∃f i,st=⟨f,[fr],[]⟩∧k=P.enums.length-i∧i≤P.enums.length∧f 1=.ptr 0 1 0∧f 3=.bool (b&&(P.enums.take i).all KO)∧f 9=.int .i64 (i:Nat)
 refine Qf I _ ⟨f,0,rfl,rfl,QMd _,h1,by rw[h3];simp,ha⟩ ?_;clear h1 h3 ha;simp only[Pc]at m1;rintro _ st ⟨f,i,rfl,rfl,hi,h1,h3,ha⟩;simp only[QMZ,h1,m1,ha,eE,seval];by_cases hlt:i<P.enums.length
 ·obtain⟨x,hg⟩:∃x,P.enums[i]? = some x:=⟨P.enums[i],QL6 hlt⟩;have hgm:(P.enums.map Qt)[i]? = some (.agg x.cells):=by simp[hg,Qt]
  have e1:=Qq i _ hlt hP.len2;have ht:=Q1 (q:=KO) hg;have hq:KO x=JU x.items PI.name:=rfl;simp only[PE.cells]at hgm;simp only[Qo hlt,Qm,QNt,Qd,hgm,h1,m1,ha,eE,seval];refine Vi fr _ (b&&(P.enums.take i).all KO) (by exact h1) (by exact h3) _ x.items (hP.enums x (QMi hg)).len1 i (by exact ha) (by rfl) (by rfl) (fun f h1 h3 ha=>?_);simp only[ha,e1,Qa,seval];exact⟨P.enums.length-(i+1),by omega,_,i+1,rfl,rfl,by omega,(by exact h1),by rw[ht,hq,←QMP]<;>first|exact h3|simp only[h3,eE,seval],(by rfl)⟩
 ·have hf:(P.enums.take i).all KO=P.enums.all KO:=by rw[QMD (by omega)]
  rw[hf]at h3;simp only[QE hlt,Qa,seval];exact hx _ (by exact h1) (by exact h3)

end

theorem z46 {M:Nat}(P:PL)(hP:P.ok M):Qp Tryz.prog 46 [P.av] (.bool (Fu P)):=by
 have e0:P.av=.agg [.list (P.progs.map Qj),.list (P.enums.map Qt)]:=rfl;refine k46.fn (by simp) ?_;simp only[e0,eE,seval];refine QHY P hP _ (by rfl) _ true (by rfl) (by rfl) _ (by rfl) (fun f h1 h3=>?_);simp only[Qa,seval];refine QHZ P hP _ (by rfl) _ _ (by exact h1) (by exact h3) _ (by rfl) (fun f h1 h3=>?_);simp only[h3,Fu,QND,Qa,seval]

end Go.Proofs.YtipjfckmopekaaaGreatDoor.Va

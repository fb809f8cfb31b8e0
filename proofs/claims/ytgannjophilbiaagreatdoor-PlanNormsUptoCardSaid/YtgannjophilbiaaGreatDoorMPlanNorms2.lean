/- Parts of the proof, in order. -/
import Derived.Test.YtgannjophilbiaaGreatDoorProg
import Derived.WalkKit
import Derived.Lib.SmallJoins
import Derived.Deep.Slices
import Derived.DataShut
import Derived.Test.YtgannjophilbiaaGreatDoorRows
import Derived.Lib.IndexLaws
import Derived.Test.YtgannjophilbiaaGreatDoorMPlanNorms1

namespace Go.Proofs.YtgannjophilbiaaGreatDoor.Rc
open Go Am
abbrev ja (a b : Nat) : Am.Item:=⟨some a,.val (.mov (.t b)),none⟩
abbrev jb (a b c : Nat) : Am.Item:=⟨some a,.val (.faddr b (.t c)),none⟩
abbrev jc (a b : Nat) : Am.Item:=⟨some a,.val (.load none (.t b)),none⟩
abbrev jd (a : Nat) (b : Int) : Am.Item:=⟨some a,.val (.mov (.c (.int .i64 b))),none⟩
abbrev je (a b c : Nat) : Am.Item:=⟨some a,.val (.load (some b) (.t c)),none⟩
abbrev jf (a b c : Nat) : Am.Item:=⟨some a,.val (.mov (.t b)),some (c,true)⟩
abbrev jg (a b c : Nat) : Am.Item:=⟨some a,.boxN b (.t c),none⟩
abbrev jh (a b c d : Nat) : Am.Item:=⟨some a,.val (.faddr b (.t c)),some (d,true)⟩
abbrev ji (a b c : Nat) : Am.Item:=⟨some a,.val (.pick (.t b) (.t c) (.c (.bool false))),none⟩
abbrev jj (a b c : Nat) : Am.Item:=⟨some a,.val (.len b (.t c)),none⟩
abbrev jk (a : Nat) : Am.Item:=⟨some a,.val (.mov (.c (.bool false))),none⟩
abbrev jl (a b c d : Nat) : Am.Item:=⟨some a,.val (.iaddr b none (.t c) (.t d)),none⟩
abbrev jm (a b : Nat) (c : Int) : Am.Item:=⟨some a,.val (.bin .num .add (.t b) (.c (.int .i64 c))),none⟩
abbrev jn (a b c : Nat) : Am.Item:=⟨some a,.val (.bin .num .lss (.t b) (.t c)),none⟩
abbrev jo (a b c : Nat) : Am.Item:=⟨some a,.val (.load none (.t b)),some (c,true)⟩
abbrev jp (a b c : Nat) : Am.Item:=⟨none,.store a (.t b) (.t c),none⟩
abbrev jq (a b : Nat) (c : Int) : Am.Item:=⟨some a,.val (.bin .num .eql (.t b) (.c (.int .i64 c))),none⟩
abbrev jr (a b c : Nat) : Am.Item:=⟨some a,.call (.f b) [(.t c)],none⟩
abbrev js (a b c d : Nat) : Am.Item:=⟨some a,.val (.faddr b (.t c)),some (d,false)⟩
abbrev jt (a b c : Nat) : Am.Item:=⟨some a,.val (.pick (.t b) (.c (.bool true)) (.t c)),none⟩
abbrev ju (a b c d : Nat) : Am.Item:=⟨some a,.call (.f b) [(.t c),(.t d)],none⟩
abbrev jv (a b c : Nat) : Am.Item:=⟨some a,.val (.mov (.t b)),some (c,false)⟩
abbrev jw (a b c : Nat) : Am.Item:=⟨some a,.val (.load none (.t b)),some (c,false)⟩
abbrev jx (a b c d e : Nat) : Am.Item:=⟨some a,.val (.loadv b c (some d) (.t e)),none⟩
abbrev jy (a b c : Nat) : Am.Item:=⟨some a,.val (.ext (.t b) c),none⟩
abbrev jz (a b c d e : Nat) : Am.Item:=⟨some a,.val (.iaddr b none (.t c) (.t d)),some (e,true)⟩
abbrev ya (a b : Nat) (c : Int) : Am.Item:=⟨some a,.val (.bin .num .neq (.t b) (.c (.int .i64 c))),none⟩
abbrev yb (a b : Nat) : Am.Item:=⟨some a,.val (.un .not (.t b)),none⟩
abbrev yc (a b c d : Nat) : Am.Item:=⟨some a,.val (.len b (.t c)),some (d,true)⟩
abbrev yd (a b c d e f : Nat) : Am.Item:=⟨some a,.app b c d (.t e) (.t f),none⟩
abbrev ye (a b c d : Nat) : Am.Item:=⟨some a,.val (.loadv b c none (.t d)),none⟩
abbrev yf (a : Nat) : Am.Item:=⟨some a,.val (.mov (.c (.bool true))),none⟩
abbrev yg (a b c : Nat) : Am.Item:=⟨some a,.val (.loadr (some b) (.t c)),none⟩
abbrev yh (a b : Nat) (c : Int) (d : Nat) : Am.Item:=⟨some a,.val (.bin .num .eql (.t b) (.c (.int .i64 c))),some (d,true)⟩
abbrev yi (a : Nat) : Am.Item:=⟨some a,.val (.mov (.c (.nils))),none⟩
abbrev yj (a b : Nat) (c : Int) (d : Nat) : Am.Item:=⟨some a,.val (.bin .num .leq (.t b) (.c (.int .i64 c))),some (d,true)⟩
abbrev yk (a b : Nat) : Am.Item:=⟨some a,.allocN b [.int .i64 0,.int .u64 0,.str [],.nils,.nils,.nils,.nils],none⟩
abbrev yl (a b c : Nat) : Am.Item:=⟨some a,.val (.loadr none (.t b)),some (c,true)⟩
abbrev ym (a b c : Nat) : Am.Item:=⟨some a,.val (.un .not (.t b)),some (c,true)⟩
abbrev yn (a b : Nat) (c : Int) : Am.Item:=⟨some a,.val (.bin .num .geq (.t b) (.c (.int .i64 c))),none⟩
abbrev yo (a b : Nat) (c : Int) (d : Nat) : Am.Item:=⟨some a,.val (.bin .num .eql (.t b) (.c (.int .i64 c))),some (d,false)⟩
abbrev yp (a b c d : Nat) (e : Int) : Am.Item:=⟨some a,.callF (.f b) [(.t c),(.t d),(.c (.int .i64 e))],none⟩
abbrev yq (a b c d : Nat) : Am.Item:=⟨some a,.callF (.f b) [(.t c),(.t d)],none⟩
abbrev yr (a b c d : Nat) : Am.Item:=⟨some a,.call (.f b) [(.t c)],some (d,false)⟩
abbrev ys (a b : Nat) (c : Int) : Am.Item:=⟨some a,.val (.bin .num .lss (.t b) (.c (.int .i64 c))),none⟩
abbrev yt (a b c d e : Nat) : Am.Item:=⟨some a,.call (.f b) [(.t c),(.t d),(.t e)],none⟩
abbrev yu (a b c d : Nat) : Am.Item:=⟨some a,.val (.pick (.t b) (.t c) (.c (.bool false))),some (d,false)⟩
abbrev yv (a b c d : Nat) : Am.Item:=⟨some a,.call (.f b) [(.t c)],some (d,true)⟩
abbrev yw (a b c d : Nat) : Am.Item:=⟨some a,.val (.pick (.t b) (.c (.bool true)) (.t c)),some (d,true)⟩
abbrev yx (a b c d : Nat) : Am.Item:=⟨some a,.val (.load (some b) (.t c)),some (d,false)⟩
abbrev yy (a b c d : Nat) : Am.Item:=⟨some a,.val (.len b (.t c)),some (d,false)⟩
abbrev yz (a b : Nat) (c : Int) : Am.Item:=⟨some a,.val (.bin .num .gtr (.t b) (.c (.int .i64 c))),none⟩
abbrev za (a b : Nat) : Am.Item:=⟨some a,.allocN b [.int .i64 0,.str [],.str [],.int .i64 0,.int .i64 0,.int .i64 0,.int .i64 0,.int .i64 0],none⟩
abbrev zb (a b c d e : Nat) : Am.Item:=⟨some a,.val (.loadv b c none (.t d)),some (e,false)⟩
abbrev zc (a b c d e f : Nat) : Am.Item:=⟨some a,.call (.f b) [(.t c),(.t d),(.t e),(.t f)],none⟩
abbrev zd (a b : Nat) : Am.Item:=⟨some a,.val (.nilck (.t b)),none⟩
abbrev ze (a b c d e : Nat) : Am.Item:=⟨some a,.val (.iaddr b none (.t c) (.t d)),some (e,false)⟩
abbrev zf (a b : Nat) (c : Int) (d : Nat) : Am.Item:=⟨some a,.val (.bin .num .gtr (.t b) (.c (.int .i64 c))),some (d,false)⟩
abbrev zg (a b c d : Nat) : Am.Item:=⟨some a,.val (.load (some b) (.t c)),some (d,true)⟩
abbrev zh (a b c d e : Nat) : Am.Item:=⟨none,.storev a b c (.t d) (.t e),none⟩
abbrev zi (a b c : Nat) : Am.Item:=⟨some a,.val (.bin .num .add (.t b) (.t c)),none⟩
abbrev zj (a b : Nat) : Am.Item:=⟨some a,.val (.loadr none (.t b)),none⟩
abbrev zk (a b c d e : Nat) : Am.Item:=⟨some a,.val (.loadv b c none (.t d)),some (e,true)⟩
abbrev zl (a b : Nat) (c : Int) (d : Nat) : Am.Item:=⟨some a,.val (.bin .num .neq (.t b) (.c (.int .i64 c))),some (d,true)⟩
abbrev zm (a b c : Nat) : Am.Item:=⟨some a,.val (.un .not (.t b)),some (c,false)⟩
abbrev zn (a b : Nat) (c : Int) (d : Nat) : Am.Item:=⟨some a,.val (.bin .num .add (.t b) (.c (.int .i64 c))),some (d,true)⟩
abbrev zo (a b c : Nat) : Am.Item:=⟨some a,.val (.bin .num .eql (.t b) (.t c)),none⟩
abbrev zp (a b c d e : Nat) : Am.Item:=⟨some a,.call (.f b) [(.t c),(.t d)],some (e,true)⟩
abbrev zq (a b c : Nat) : Am.Item:=⟨some a,.val (.bin .num .neq (.t b) (.t c)),none⟩
abbrev zr (a b c : Nat) : Am.Item:=⟨some a,.val (.mkfn (.func b) [] [(.t c)]),none⟩
abbrev zs (a b c : Nat) : Am.Item:=⟨some a,.callF (.t b) [(.t c)],none⟩
abbrev zt (a b c : Nat) : Am.Item:=⟨some a,.val (.loadr none (.t b)),some (c,false)⟩
abbrev zu (a b : Nat) (c : Int) : Am.Item:=⟨some a,.val (.bin .num .leq (.t b) (.c (.int .i64 c))),none⟩
abbrev zv (a b c d : Nat) : Am.Item:=⟨some a,.val (.slc (some b) (.t c) none (some (.t d)) none),none⟩
abbrev zw (a b : Nat) (c : Int) : Am.Item:=⟨some a,.val (.bin .num .eql (.t b) (.c (.int .u64 c))),none⟩
abbrev zx (a b c d : Nat) : Am.Item:=⟨some a,.val (.bin .num .lss (.t b) (.t c)),some (d,true)⟩
abbrev zy (a b : Nat) : Am.Item:=⟨some a,.allocN b [.str [],.nils,.nils,.nils,.nils],none⟩
abbrev zz (a b : Nat) : Am.Item:=⟨some a,.allocN b [.str [],.bool false,.nils,.nils,.nils],none⟩
abbrev jaa (a : Nat) : Am.Item:=⟨some a,.val (.mov (.c (.str []))),none⟩
abbrev jab (a b : Nat) (c : Int) (d : Nat) : Am.Item:=⟨some a,.val (.bin .num .sub (.t b) (.c (.int .i64 c))),some (d,false)⟩
abbrev jac (a b c d : Nat) (e : Int) (f : Nat) : Am.Item:=⟨some a,.call (.f b) [(.t c),(.t d),(.c (.int .i64 e))],some (f,true)⟩
abbrev jad (a b c d e f : Nat) : Am.Item:=⟨some a,.val (.loadv b c (some d) (.t e)),some (f,true)⟩
abbrev jae (a b c d : Nat) : Am.Item:=⟨some a,.val (.bin .num .geq (.t b) (.t c)),some (d,false)⟩
abbrev jaf (a b : Nat) (c : Int) (d : Nat) : Am.Item:=⟨some a,.val (.bin .num .gtr (.t b) (.c (.int .i64 c))),some (d,true)⟩
abbrev jag (a b c d : Nat) (e : Int) : Am.Item:=⟨some a,.val (.iaddr b (some c) (.t d) (.c (.int .i64 e))),none⟩
abbrev jah (a b c d e f : Nat) : Am.Item:=⟨some a,.call (.f b) [(.t c),(.t d),(.t e)],some (f,true)⟩
abbrev jai (a b c : Nat) : Am.Item:=⟨some a,.val (.bin .num .gtr (.t b) (.t c)),none⟩
abbrev jaj (a b : Nat) : Am.Item:=⟨some a,.allocN b [.int .i64 0,.str [],.int .i64 0,.int .i64 0,.int .i64 0,.str [],.str [],.bool false,.int .i64 0,.int .u64 0,.str [],.nils,.nils,.nils,.nils,.nils],none⟩
abbrev jak (a b : Nat) : Am.Item:=⟨some a,.allocN b [.nils,.nils],none⟩
abbrev jal (a b c d e f : Nat) : Am.Item:=⟨some a,.bsl b c [.str []] [(d,e,(.t f))],none⟩
abbrev jam (a b : Nat) (c : Int) (d : Nat) : Am.Item:=⟨some a,.val (.bin .num .neq (.t b) (.c (.int .i64 c))),some (d,false)⟩
abbrev jan (a b : Nat) (c : Int) : Am.Item:=⟨some a,.val (.bin .num .sub (.t b) (.c (.int .i64 c))),none⟩
abbrev jao (a b c d : Nat) : Am.Item:=⟨some a,.val (.bin .num .leq (.t b) (.t c)),some (d,true)⟩
abbrev jap (a b c d : Nat) : Am.Item:=⟨some a,.val (.bin .num .neq (.t b) (.t c)),some (d,false)⟩
abbrev jaq (a b : Nat) (c : Int) : Am.Item:=⟨some a,.val (.bin .num .geq (.t b) (.c (.int .u8 c))),none⟩
abbrev jar (a b : Nat) (c : Int) (d : Nat) : Am.Item:=⟨some a,.val (.bin .num .leq (.t b) (.c (.int .u8 c))),some (d,true)⟩
abbrev jas (a b : Nat) (c : Int) : Am.Item:=⟨some a,.val (.bin .num .eql (.t b) (.c (.int .u8 c))),none⟩
abbrev jat (a b c d : Nat) : Am.Item:=⟨some a,.val (.idx (.t b) (.t c)),some (d,true)⟩
abbrev jau (a b : Nat) (c : Int) (d : Nat) : Am.Item:=⟨some a,.val (.bin .num .sub (.t b) (.c (.int .i64 c))),some (d,true)⟩
abbrev jav (a b c d : Nat) : Am.Item:=⟨some a,.val (.loadr (some b) (.t c)),some (d,true)⟩
abbrev jQ (g : List Am.Item) (c : RC) : RC:=.seq (.reg g) c
abbrev jD (g : List Am.Item) (c : RC) : RC:=.seq (.draw g) c
abbrev jX (a b : Nat) : RC:=.cond (.t a) .skip (.exit b)
abbrev IL:=List Am.Item
abbrev CT (k n : Nat) (r : RC) (o : List RR) : Prop:=CK Tryz.prog k n r o
abbrev g30_0 : IL:=[jg 1 1 0,jd 2 0]
abbrev g30_1 : IL:=[jb 4 3 1,jc 5 4,jq 6 5 5,ja 3 6]
abbrev g30_2 : IL:=[jd 2 6]
abbrev g30_3 : IL:=[je 8 8 1,jr 9 69 8,ja 7 9]
abbrev g30_4 : IL:=[jd 2 5]
abbrev g30_5 : IL:=[jb 10 5 1,jc 11 10]
abbrev g30_6 : IL:=[jq 13 11 1,ja 12 13]
abbrev g30_7 : IL:=[jq 14 11 4,ja 12 14]
abbrev g30_8 : IL:=[jq 15 11 5,ja 12 15]
abbrev g30_9 : IL:=[jq 16 11 9,ja 12 16]
abbrev g30_10 : IL:=[jd 2 0]
abbrev g30_11 : IL:=[jq 18 11 2,ja 17 18]
abbrev g30_12 : IL:=[jq 19 11 3,ja 17 19]
abbrev g30_13 : IL:=[jd 2 1]
abbrev g30_14 : IL:=[jq 21 11 6,ja 20 21]
abbrev g30_15 : IL:=[jd 2 2]
abbrev g30_16 : IL:=[jq 23 11 7,ja 22 23]
abbrev g30_17 : IL:=[jq 24 11 8,ja 22 24]
abbrev g30_18 : IL:=[jd 2 3]
abbrev g30_19 : IL:=[jq 26 11 10,ja 25 26]
abbrev g30_20 : IL:=[jd 2 4]
abbrev g30_21 : IL:=[jd 2 (-1)]
abbrev r30 : RC:=jQ g30_0 (.seq (.block 0 (jQ g30_1 (.cond (.t 3) (jQ g30_2 (.ret)) (jQ g30_3 (.cond (.t 7) (jQ g30_4 (.ret)) (.skip)))))) (.seq (jQ g30_5 (.block 1 (.seq (jQ g30_6 (.cond (.t 12) (.skip) (jQ g30_7 (.cond (.t 12) (.skip) (jQ g30_8 (.cond (.t 12) (.skip) (.reg g30_9))))))) (.cond (.t 12) (jQ g30_10 (.ret)) (.seq (jQ g30_11 (.cond (.t 17) (.skip) (.reg g30_12))) (.cond (.t 17) (jQ g30_13 (.ret)) (jQ g30_14 (.cond (.t 20) (jQ g30_15 (.ret)) (.seq (jQ g30_16 (.cond (.t 22) (.skip) (.reg g30_17))) (.cond (.t 22) (jQ g30_18 (.ret)) (jQ g30_19 (.cond (.t 25) (jQ g30_20 (.ret)) (.skip))))))))))))) (jQ g30_21 (.ret))))
abbrev o30 : List RR:=[.tmp 2]
theorem k30 : CT 30 27 r30 o30:=ck Tryz.func30 Tryz.ntmps30 (by decide +kernel)
abbrev g69_0 : IL:=[jg 1 1 0,jk 2]
abbrev g69_1 : IL:=[jb 3 3 1,jc 4 3,jq 5 4 4,ja 6 5,jh 7 5 1 6,jo 8 7 6,⟨some 9,.val (.bin .num .geq (.t 8) (.c (.int .i64 1))),(some (6,true))⟩,jf 10 9 6,jh 11 5 1 10,jo 12 11 10,yj 13 12 6 10,⟨some 14,.val (.pick (.t 10) (.t 13) (.c (.bool false))),(some (6,true))⟩,jf 15 14 6,js 16 5 1 15,jw 17 16 15,yo 18 17 9 15,yw 19 15 18 6,ji 20 6 19,ja 2 20]
abbrev r69 : RC:=jQ g69_0 (jQ g69_1 (.ret))
abbrev o69 : List RR:=[.tmp 2]
theorem k69 : CT 69 21 r69 o69:=ck Tryz.func69 Tryz.ntmps69 (by decide +kernel)
abbrev g11_0 : IL:=[jk 0]
abbrev g11_1 : IL:=[⟨some 4,.val (.build [.int .i64 0,.str []] [(0,1,(.c (.int .i64 2)))]),none⟩,⟨some 5,.val (.build [.int .i64 0,.str [],.int .i64 0,.int .i64 0,.int .i64 0,.str [],.str [],.bool false,.int .i64 0,.int .u64 0,.str [],.nils,.nils,.nils,.nils,.nils] [(0,1,(.c (.int .i64 3))),(1,1,(.c (.str [97]))),(2,1,(.c (.int .i64 1))),(4,2,(.t 4))]),none⟩,jaj 1 1,jp 16 1 5]
abbrev g11_2 : IL:=[je 7 16 1,⟨some 8,.bsl 16 1 [.int .i64 0,.str [],.int .i64 0,.int .i64 0,.int .i64 0,.str [],.str [],.bool false,.int .i64 0,.int .u64 0,.str [],.nils,.nils,.nils,.nils,.nils] [(0,16,(.t 7))],none⟩,⟨some 9,.val (.build [.str [],.nils,.nils,.nils,.nils] [(0,1,(.c (.str [77]))),(1,1,(.t 8))]),none⟩,⟨some 10,.bsl 5 1 [.str [],.nils,.nils,.nils,.nils] [(0,5,(.t 9))],none⟩,⟨some 11,.val (.build [.nils,.nils,.nils] [(0,1,(.t 10))]),none⟩,jr 12 29 11,ja 6 12,jy 13 6 0,jy 14 6 1,jak 2 2,jp 2 2 13,ja 3 14]
abbrev g11_3 : IL:=[ja 15 3,jq 16 15 0,ja 17 16,jh 18 0 2 17,jo 19 18 17,yc 20 1 19 17,yh 21 20 1 17,ji 22 17 21,ja 23 22,zg 24 2 2 23,⟨some 25,.val (.build [.int .i64 0,.int .u64 0,.str [],.nils,.nils,.nils,.nils] [(0,1,(.c (.int .i64 10)))]),(some (23,true))⟩,⟨some 26,.call (.f 10) [(.t 24),(.c (.int .i64 0)),(.t 25)],(some (23,true))⟩,yh 27 26 14 23,ji 28 23 27,ja 29 28,jh 30 0 2 29,jo 31 30 29,⟨some 32,.val (.iaddr 3 none (.t 31) (.c (.int .i64 0))),(some (29,true))⟩,jh 33 1 32 29,jo 34 33 29,⟨some 35,.val (.iaddr 8 none (.t 34) (.c (.int .i64 0))),(some (29,true))⟩,zg 36 8 35 29,yv 37 30 36 29,yh 38 37 1 29,ji 39 29 38,ja 0 39]
abbrev r11 : RC:=jQ g11_0 (jQ g11_1 (jQ g11_2 (jQ g11_3 (.ret))))
abbrev o11 : List RR:=[.tmp 0]
theorem k11 : CT 11 40 r11 o11:=ck Tryz.func11 Tryz.ntmps11 (by decide +kernel)
abbrev g29_0 : IL:=[jg 1 1 0,jak 2 2,jd 3 0]
abbrev g29_1 : IL:=[je 9 3 1,jr 10 66 9,yb 11 10]
abbrev g29_2 : IL:=[⟨some 12,.val (.build [.nils,.nils] []),none⟩,jp 2 2 12,jd 3 1]
abbrev g29_3 : IL:=[jak 4 4]
abbrev g29_4 : IL:=[jb 13 0 1,jc 14 13,jj 15 1 14,jd 16 0]
abbrev g29_5 : IL:=[jn 17 16 15]
abbrev g29_6 : IL:=[jl 18 5 14 16,je 19 5 18,zy 6 6,jp 5 6 19]
abbrev g29_7 : IL:=[jb 20 0 4,ye 21 0 4 20,jx 22 0 1 3 1,jx 23 0 6 5 6,ju 24 67 22 23,⟨some 25,.bsl 3 1 [.str [],.nils,.int .i64 0] [(0,3,(.t 24))],none⟩,yd 26 3 48 56 21 25,jb 27 0 4,zh 0 4 1 27 26]
abbrev g29_8 : IL:=[jm 28 16 1,ja 16 28]
abbrev l29_0 : RC:=.gho (.drop 6) (jQ g29_5 (.seq (jX 17 0) (.seq (.block 1 (jQ g29_6 (.draw g29_7))) (.reg g29_8))))
abbrev g29_9 : IL:=[jb 29 1 1,jc 30 29,jj 31 1 30,jd 32 0]
abbrev g29_10 : IL:=[jn 33 32 31]
abbrev g29_11 : IL:=[jl 34 5 30 32,je 35 5 34,zz 8 8,jp 5 8 35]
abbrev g29_12 : IL:=[jb 36 1 4,ye 37 0 4 36,jx 38 0 8 5 8,jr 39 68 38,⟨some 40,.bsl 5 1 [.str [],.bool false,.nils,.nils,.nils] [(0,5,(.t 39))],none⟩,yd 41 5 96 107 37 40,jb 42 1 4,zh 0 4 1 42 41]
abbrev g29_13 : IL:=[jm 43 32 1,ja 32 43]
abbrev l29_1 : RC:=.gho (.drop 8) (jQ g29_10 (.seq (jX 33 2) (.seq (.block 3 (jQ g29_11 (.draw g29_12))) (.reg g29_13))))
abbrev g29_14 : IL:=[je 44 2 4,jp 2 2 44,jd 3 0]
abbrev r29 : RC:=jQ g29_0 (.seq (jQ g29_1 (.cond (.t 11) (jQ g29_2 (.ret)) (.skip))) (jQ g29_3 (.gho (.vecc 4 0 1100 3) (.gho (.vecc 4 1 1101 5) (.seq (jQ g29_4 (.block 0 (.loop l29_0))) (.seq (jQ g29_9 (.block 2 (.loop l29_1))) (jQ g29_14 (.ret))))))))
abbrev o29 : List RR:=[.cell 2 (some 2),.tmp 3]
theorem k29 : CT 29 45 r29 o29:=ck Tryz.func29 Tryz.ntmps29 (by decide +kernel)
abbrev g10_0 : IL:=[jg 3 3 0,jg 5 5 2,jd 6 0]
abbrev g10_1 : IL:=[ja 8 1,ys 9 8 0,ja 10 9,jv 11 1 10,js 12 0 3 10,jw 13 12 10,yy 14 1 13 10,jae 15 11 14 10,jt 16 10 15]
abbrev g10_2 : IL:=[jd 6 10]
abbrev g10_3 : IL:=[jx 17 0 3 2 3,⟨some 18,.val (.build [.nils,.nils] [(0,2,(.t 17))]),none⟩,jb 19 0 3,ye 20 0 3 19,ja 21 1,jl 22 3 20 21,yg 23 3 22,jx 24 0 5 7 5,⟨some 25,.call (.f 27) [(.t 18),(.t 23),(.t 24),(.c (.int .i64 1))],none⟩,ja 7 25]
abbrev g10_4 : IL:=[ja 26 7,ya 27 26 0]
abbrev g10_5 : IL:=[ja 28 7,ja 6 28]
abbrev g10_6 : IL:=[je 29 7 5,jr 30 28 29,yz 31 30 4096]
abbrev g10_7 : IL:=[jd 6 3]
abbrev g10_8 : IL:=[jd 6 0]
abbrev r10 : RC:=jQ g10_0 (.seq (jQ g10_1 (.cond (.t 16) (jQ g10_2 (.ret)) (.skip))) (.seq (jD g10_3 (jQ g10_4 (.cond (.t 27) (jQ g10_5 (.ret)) (.skip)))) (.seq (jQ g10_6 (.cond (.t 31) (jQ g10_7 (.ret)) (.skip))) (jQ g10_8 (.ret)))))
abbrev o10 : List RR:=[.tmp 6]
theorem k10 : CT 10 32 r10 o10:=ck Tryz.func10 Tryz.ntmps10 (by decide +kernel)
abbrev g66_0 : IL:=[jg 1 1 0,jk 2]
abbrev g66_1 : IL:=[je 3 3 1,jr 4 105 3,jj 5 1 4,jq 6 5 0,ja 2 6]
abbrev r66 : RC:=jQ g66_0 (jQ g66_1 (.ret))
abbrev o66 : List RR:=[.tmp 2]
theorem k66 : CT 66 7 r66 o66:=ck Tryz.func66 Tryz.ntmps66 (by decide +kernel)
abbrev g67_0 : IL:=[jg 2 2 0,jg 3 3 1,⟨some 4,.allocN 4 [.str [],.nils,.int .i64 0],none⟩]
abbrev g67_1 : IL:=[jb 10 0 3,jc 11 10,⟨some 12,.val (.build [.str [],.nils,.int .i64 0] [(0,1,(.t 11))]),none⟩,⟨some 5,.allocN 5 [.str [],.nils,.int .i64 0],none⟩,jp 3 5 12]
abbrev g67_2 : IL:=[yi 6]
abbrev g67_3 : IL:=[jb 13 1 3,jc 14 13,jj 15 1 14,jd 16 0]
abbrev g67_4 : IL:=[jn 17 16 15]
abbrev g67_5 : IL:=[jl 18 16 14 16,je 19 16 18,jaj 8 8,jp 16 8 19]
abbrev g67_6 : IL:=[jb 20 0 8,ye 21 0 8 20,jb 22 1 8,ye 23 0 8 22,jb 24 15 8,ye 25 0 8 24,jr 26 106 25,jb 27 2 8,ye 28 0 8 27,jb 29 3 8,ye 30 0 8 29,jb 31 4 8,jb 32 0 31,ye 33 0 8 32,jx 34 0 2 3 2,jb 35 4 8,jx 36 0 8 2 35,ju 37 107 34 36,⟨some 38,.val (.build [.int .i64 0,.str [],.str [],.int .i64 0,.int .i64 0,.int .i64 0,.int .i64 0,.int .i64 0] [(0,1,(.t 21)),(1,1,(.t 23)),(2,1,(.t 26)),(3,1,(.t 28)),(4,1,(.t 30)),(5,1,(.t 33)),(6,1,(.t 37)),(7,1,(.c (.int .i64 (-1))))]),none⟩,za 9 9,zh 0 9 8 9 38]
abbrev g67_7 : IL:=[jb 39 6 8,jc 40 39,⟨some 41,.val (.bin .str .neq (.t 40) (.c (.str []))),none⟩]
abbrev g67_8 : IL:=[ja 42 6,jb 43 6 8,jc 44 43,ju 45 108 42 44,yb 46 45]
abbrev g67_9 : IL:=[ja 47 6,jb 48 6 8,jc 49 48,jal 50 1 1 0 1 49,yd 51 1 16 9 47 50,ja 6 51]
abbrev g67_10 : IL:=[ja 52 6,jb 53 6 8,jc 54 53,ju 55 109 52 54,jb 56 7 9,jp 1 56 55]
abbrev g67_11 : IL:=[jb 57 1 5,jc 58 57,je 59 8 9,⟨some 60,.bsl 8 1 [.int .i64 0,.str [],.str [],.int .i64 0,.int .i64 0,.int .i64 0,.int .i64 0,.int .i64 0] [(0,8,(.t 59))],none⟩,yd 61 8 80 51 58 60,jb 62 1 5,jp 1 62 61]
abbrev g67_12 : IL:=[jm 63 16 1,ja 16 63]
abbrev l67_0 : RC:=.gho (.drop 9) (.gho (.drop 8) (jQ g67_4 (.seq (jX 17 0) (.seq (.block 1 (jQ g67_5 (jD g67_6 (.seq (jQ g67_7 (.cond (.t 41) (.seq (jQ g67_8 (.cond (.t 46) (.reg g67_9) (.skip))) (.reg g67_10)) (.skip))) (.reg g67_11))))) (.reg g67_12)))))
abbrev g67_13 : IL:=[ja 64 6,jj 65 1 64,jb 66 2 5,jp 1 66 65]
abbrev g67_14 : IL:=[je 67 3 5,jp 3 4 67]
abbrev r67 : RC:=jQ g67_0 (jQ g67_1 (.gho (.vecc 5 1 1100 8) (jQ g67_2 (.gho (.vec 6 6 1) (.seq (jQ g67_3 (.block 0 (.loop l67_0))) (jQ g67_13 (jQ g67_14 (.ret))))))))
abbrev o67 : List RR:=[.cell 4 (some 3)]
theorem k67 : CT 67 68 r67 o67:=ck Tryz.func67 Tryz.ntmps67 (by decide +kernel)
abbrev g27_0 : IL:=[jg 4 4 0,jg 5 5 1,jg 6 6 2,jd 8 0]
abbrev g27_1 : IL:=[jb 17 0 6,jc 18 17,ya 19 18 10,ja 20 19,yx 21 7 6 20,yr 22 60 21 20,jt 23 20 22,ja 16 23]
abbrev g27_2 : IL:=[jd 8 12]
abbrev g27_3 : IL:=[ja 25 3,yz 26 25 16,ja 24 26]
abbrev g27_4 : IL:=[jd 8 17]
abbrev g27_5 : IL:=[jb 27 5 6,jc 28 27,jj 29 1 28,jd 30 0]
abbrev g27_6 : IL:=[jn 31 30 29]
abbrev g27_7 : IL:=[ja 32 30,ja 9 32]
abbrev g27_8 : IL:=[je 33 2 4,je 34 3 5,jb 35 5 6,jc 36 35,ja 37 9,ja 38 3,⟨some 39,.call (.f 61) [(.t 33),(.t 34),(.t 36),(.t 37),(.t 38)],none⟩,ja 10 39]
abbrev g27_9 : IL:=[ja 40 10,ya 41 40 0]
abbrev g27_10 : IL:=[ja 42 10,ja 8 42]
abbrev g27_11 : IL:=[jm 43 30 1,ja 30 43]
abbrev l27_0 : RC:=jQ g27_6 (.seq (jX 31 1) (.seq (.block 2 (jQ g27_7 (jQ g27_8 (jQ g27_9 (.cond (.t 41) (jQ g27_10 (.ret)) (.skip)))))) (.reg g27_11)))
abbrev g27_12 : IL:=[jb 44 1 5,jc 45 44,jj 46 1 45,jd 47 0]
abbrev g27_13 : IL:=[jn 48 47 46]
abbrev g27_14 : IL:=[jl 49 8 45 47,je 50 8 49,za 12 12,jp 8 12 50]
abbrev g27_15 : IL:=[jb 51 3 12,jc 52 51,jq 53 52 1,ja 54 53,jh 55 5 6 54,jo 56 55 54,⟨some 57,.val (.mkfn (.func 63) [] [(.t 12)]),(some (54,true))⟩,⟨some 58,.callF (.f 62) [(.t 56),(.t 57)],(some (54,true))⟩,ym 59 58 54,ji 60 54 59]
abbrev g27_16 : IL:=[jd 8 14]
abbrev g27_17 : IL:=[jm 61 47 1,ja 47 61]
abbrev l27_1 : RC:=.gho (.drop 12) (jQ g27_13 (.seq (jX 48 3) (.seq (.block 4 (jQ g27_14 (jQ g27_15 (.cond (.t 60) (jQ g27_16 (.ret)) (.skip))))) (.reg g27_17))))
abbrev g27_18 : IL:=[jb 62 6 6,jc 63 62,jj 64 1 63,jd 65 0]
abbrev g27_19 : IL:=[jn 66 65 64]
abbrev g27_20 : IL:=[jl 67 4 63 65,je 68 4 67,⟨some 14,.allocN 14 [.int .i64 0,.int .i64 0,.int .u64 0,.str []],none⟩,jp 4 14 68]
abbrev g27_21 : IL:=[je 69 2 4,je 70 3 5,je 71 4 14,yt 72 64 69 70 71,ja 15 72]
abbrev g27_22 : IL:=[ja 73 15,ya 74 73 0]
abbrev g27_23 : IL:=[ja 75 15,ja 8 75]
abbrev g27_24 : IL:=[jm 76 65 1,ja 65 76]
abbrev l27_2 : RC:=.gho (.drop 14) (jQ g27_19 (.seq (jX 66 5) (.seq (.block 6 (jQ g27_20 (jQ g27_21 (jQ g27_22 (.cond (.t 74) (jQ g27_23 (.ret)) (.skip)))))) (.reg g27_24))))
abbrev g27_25 : IL:=[jd 8 0]
abbrev r27 : RC:=jQ g27_0 (.seq (.block 0 (jQ g27_1 (.cond (.t 16) (jQ g27_2 (.ret)) (jQ g27_3 (.cond (.t 24) (jQ g27_4 (.ret)) (.skip)))))) (.seq (jQ g27_5 (.block 1 (.loop l27_0))) (.seq (jQ g27_12 (.block 3 (.loop l27_1))) (.seq (jQ g27_18 (.block 5 (.loop l27_2))) (jQ g27_25 (.ret))))))
abbrev o27 : List RR:=[.tmp 8]
theorem k27 : CT 27 77 r27 o27:=ck Tryz.func27 Tryz.ntmps27 (by decide +kernel)
abbrev g105_0 : IL:=[jg 1 1 0,yi 2]
abbrev g105_1 : IL:=[⟨some 14,.val (.build [.str [],.int .i64 0,.nils] [(1,1,(.c (.int .i64 (-1))))]),none⟩,jg 15 15 14,ja 3 15]
abbrev g105_2 : IL:=[je 16 3 1,jr 17 144 16,⟨some 4,.allocN 4 [.nils,.nils,.nils],none⟩,jp 3 4 17]
abbrev g105_3 : IL:=[je 18 3 4,jd 19 0]
abbrev g105_4 : IL:=[ys 20 19 3]
abbrev g105_5 : IL:=[⟨some 21,.val (.aidx 3 1 none (.t 18) (.t 19)),none⟩,ja 6 21]
abbrev g105_6 : IL:=[ja 22 3,ja 23 6,jj 24 1 23,zu 25 24 64,yp 26 145 22 25 3]
abbrev g105_7 : IL:=[ja 27 3,ja 28 6,jr 29 146 28,yp 30 145 27 29 11]
abbrev g105_8 : IL:=[jm 31 19 1,ja 19 31]
abbrev l105_0 : RC:=jQ g105_4 (.seq (jX 20 0) (.seq (.block 1 (jQ g105_5 (jQ g105_6 (.reg g105_7)))) (.reg g105_8)))
abbrev g105_9 : IL:=[ja 32 3,je 33 3 4,jr 34 147 33,yp 35 145 32 34 9]
abbrev g105_10 : IL:=[je 36 3 1,jr 37 148 36,ja 7 37]
abbrev g105_11 : IL:=[jb 38 0 1,jc 39 38,jj 40 1 39,jd 41 0]
abbrev g105_12 : IL:=[jn 42 41 40]
abbrev g105_13 : IL:=[jl 43 5 39 41,je 44 5 43,zy 9 9,jp 5 9 44]
abbrev g105_14 : IL:=[ja 45 3,ja 46 3,zd 47 46,jb 48 2 47,jc 49 48,jx 50 0 1 3 1,jx 51 0 9 5 9,ja 52 7,yt 53 149 50 51 52,yd 54 3 32 205 49 53,zd 55 45,jb 56 2 55,jp 1 56 54]
abbrev g105_15 : IL:=[jm 57 41 1,ja 41 57]
abbrev l105_1 : RC:=.gho (.drop 9) (jQ g105_12 (.seq (jX 42 2) (.seq (.block 3 (jQ g105_13 (.draw g105_14))) (.reg g105_15))))
abbrev g105_16 : IL:=[jb 58 1 1,jc 59 58,jj 60 1 59,jd 61 0]
abbrev g105_17 : IL:=[jn 62 61 60]
abbrev g105_18 : IL:=[jl 63 5 59 61,je 64 5 63,zz 11 11,jp 5 11 64]
abbrev g105_19 : IL:=[ja 65 3,ja 66 3,zd 67 66,jb 68 2 67,jc 69 68,jx 70 0 11 5 11,jr 71 150 70,yd 72 3 32 205 69 71,zd 73 65,jb 74 2 73,jp 1 74 72]
abbrev g105_20 : IL:=[jm 75 61 1,ja 61 75]
abbrev l105_2 : RC:=.gho (.drop 11) (jQ g105_17 (.seq (jX 62 4) (.seq (.block 5 (jQ g105_18 (.draw g105_19))) (.reg g105_20))))
abbrev g105_21 : IL:=[jb 76 2 1,jc 77 76,jj 78 1 77,jd 79 0]
abbrev g105_22 : IL:=[jn 80 79 78]
abbrev g105_23 : IL:=[jl 81 3 77 79,je 82 3 81,⟨some 13,.allocN 13 [.str [],.nils,.nils],none⟩,jp 3 13 82]
abbrev g105_24 : IL:=[ja 83 3,ja 84 3,zd 85 84,jb 86 2 85,jc 87 86,jx 88 0 1 3 1,jx 89 0 13 3 13,ju 90 151 88 89,yd 91 3 32 205 87 90,zd 92 83,jb 93 2 92,jp 1 93 91]
abbrev g105_25 : IL:=[jm 94 79 1,ja 79 94]
abbrev l105_3 : RC:=.gho (.drop 13) (jQ g105_22 (.seq (jX 80 6) (.seq (.block 7 (jQ g105_23 (.draw g105_24))) (.reg g105_25))))
abbrev g105_26 : IL:=[ja 95 3,zd 96 95,jb 97 2 96,jc 98 97,ja 2 98]
abbrev r105 : RC:=jQ g105_0 (jQ g105_1 (.gho (.vecc 15 2 1100 3) (jQ g105_2 (.seq (jQ g105_3 (.block 0 (.loop l105_0))) (jQ g105_9 (jQ g105_10 (.seq (jQ g105_11 (.block 2 (.loop l105_1))) (.seq (jQ g105_16 (.block 4 (.loop l105_2))) (.seq (jQ g105_21 (.block 6 (.loop l105_3))) (jQ g105_26 (.ret)))))))))))
abbrev o105 : List RR:=[.tmp 2]
theorem k105 : CT 105 99 r105 o105:=ck Tryz.func105 Tryz.ntmps105 (by decide +kernel)
abbrev g106_0 : IL:=[jaa 2]
abbrev g106_1 : IL:=[ja 6 0,⟨some 7,.call (.f 111) [(.t 6),(.c (.str [97,108,105,97,115]))],none⟩,ja 5 7,jy 8 5 0,jy 9 5 1,yk 3 3,jp 7 3 8,ja 4 9]
abbrev g106_2 : IL:=[jb 10 2 3,jc 11 10,ja 2 11]
abbrev r106 : RC:=jQ g106_0 (jQ g106_1 (jQ g106_2 (.ret)))
abbrev o106 : List RR:=[.tmp 2]
theorem k106 : CT 106 12 r106 o106:=ck Tryz.func106 Tryz.ntmps106 (by decide +kernel)
abbrev g107_0 : IL:=[jg 2 2 0,jg 3 3 1,jd 4 0]
abbrev g107_1 : IL:=[jb 5 0 3,jc 6 5]
abbrev g107_2 : IL:=[jq 8 6 10,ja 7 8]
abbrev g107_3 : IL:=[jb 9 0 2,jc 10 9,zr 11 153 3,yq 12 152 10 11,ja 4 12]
abbrev g107_4 : IL:=[jq 14 6 9,ja 13 14]
abbrev g107_5 : IL:=[jb 15 1 2,jc 16 15,zr 17 155 3,yq 18 154 16 17,ja 4 18]
abbrev g107_6 : IL:=[jd 4 (-1)]
abbrev r107 : RC:=jQ g107_0 (.seq (jQ g107_1 (.block 0 (jQ g107_2 (.cond (.t 7) (jQ g107_3 (.ret)) (jQ g107_4 (.cond (.t 13) (jQ g107_5 (.ret)) (.skip))))))) (jQ g107_6 (.ret)))
abbrev o107 : List RR:=[.tmp 4]
theorem k107 : CT 107 19 r107 o107:=ck Tryz.func107 Tryz.ntmps107 (by decide +kernel)
abbrev g108_0 : IL:=[jk 4]
abbrev g108_1 : IL:=[ja 5 0,ja 6 1,ju 7 109 5 6,yn 8 7 0,ja 4 8]
abbrev r108 : RC:=jQ g108_0 (jQ g108_1 (.ret))
abbrev o108 : List RR:=[.tmp 4]
theorem k108 : CT 108 9 r108 o108:=ck Tryz.func108 Tryz.ntmps108 (by decide +kernel)
abbrev g109_0 : IL:=[jd 4 0]
abbrev g109_1 : IL:=[ja 6 0,jj 7 1 6,jd 8 0]
abbrev g109_2 : IL:=[jn 9 8 7]
abbrev g109_3 : IL:=[ja 10 8,ja 5 10]
abbrev g109_4 : IL:=[ja 11 1,ja 12 0,ja 13 5,jl 14 1 12 13,jc 15 14,⟨some 16,.val (.bin .str .eql (.t 11) (.t 15)),none⟩]
abbrev g109_5 : IL:=[ja 17 5,ja 4 17]
abbrev g109_6 : IL:=[jm 18 8 1,ja 8 18]
abbrev l109_0 : RC:=jQ g109_2 (.seq (jX 9 0) (.seq (.block 1 (jQ g109_3 (jQ g109_4 (.cond (.t 16) (jQ g109_5 (.ret)) (.skip))))) (.reg g109_6)))
abbrev g109_7 : IL:=[jd 4 (-1)]
abbrev r109 : RC:=jQ g109_0 (.seq (jQ g109_1 (.block 0 (.loop l109_0))) (jQ g109_7 (.ret)))
abbrev o109 : List RR:=[.tmp 4]
theorem k109 : CT 109 19 r109 o109:=ck Tryz.func109 Tryz.ntmps109 (by decide +kernel)
abbrev g111_0 : IL:=[yk 4 4,jk 5]
abbrev g111_1 : IL:=[ja 7 0,ja 8 1,ju 9 156 7 8,ja 6 9]
abbrev g111_2 : IL:=[ja 10 6,ys 11 10 0]
abbrev g111_3 : IL:=[⟨some 12,.val (.build [.int .i64 0,.int .u64 0,.str [],.nils,.nils,.nils,.nils] []),none⟩,jp 7 4 12,jk 5]
abbrev g111_4 : IL:=[ja 13 0,ja 14 6,jl 15 8 13 14,jb 16 1 15,je 17 7 16,jp 7 4 17,yf 5]
abbrev r111 : RC:=jQ g111_0 (jQ g111_1 (.seq (jQ g111_2 (.cond (.t 11) (jQ g111_3 (.ret)) (.skip))) (jQ g111_4 (.ret))))
abbrev o111 : List RR:=[.cell 4 (some 7),.tmp 5]
theorem k111 : CT 111 18 r111 o111:=ck Tryz.func111 Tryz.ntmps111 (by decide +kernel)
abbrev g60_0 : IL:=[jg 1 1 0,jk 2]
abbrev g60_1 : IL:=[jb 4 0 1,jc 5 4,jq 6 5 7,ja 7 6,js 8 0 1 7,jw 9 8 7,yo 10 9 8 7,jt 11 7 10,ja 3 11]
abbrev g60_2 : IL:=[jb 12 0 1,jc 13 12,ya 14 13 11,ja 15 14,jh 16 3 1 15,jo 17 16 15,yc 18 1 17 15,jaf 19 18 0 15,ji 20 15 19,ja 21 20,js 22 0 1 21,jw 23 22 21,jam 24 23 12 21,jv 25 24 21,jh 26 4 1 25,jo 27 26 25,yc 28 1 27 25,jaf 29 28 0 25,yu 30 25 29 21,jt 31 21 30,ja 32 31,js 33 0 1 32,jw 34 33 32,jam 35 34 10 32,jv 36 35 32,jh 37 5 1 36,jo 38 37 36,yc 39 1 38 36,jh 40 6 1 36,jo 41 40 36,yc 42 1 41 36,⟨some 43,.val (.bin .num .add (.t 39) (.t 42)),(some (36,true))⟩,jaf 44 43 0 36,yu 45 36 44 32,jt 46 32 45,ja 47 46,js 48 1 1 47,jw 49 48 47,⟨some 50,.val (.bin .num .neq (.t 49) (.c (.int .u64 0))),(some (47,false))⟩,jv 51 50 47,jf 52 3 51,jf 53 52 51,js 54 0 1 53,jw 55 54 53,⟨some 56,.val (.bin .num .geq (.t 55) (.c (.int .i64 10))),(some (53,false))⟩,jv 57 56 53,jh 58 0 1 57,jo 59 58 57,yj 60 59 12 57,yu 61 57 60 53,yw 62 53 61 51,yu 63 51 62 47,jt 64 47 63,ja 65 64,js 66 2 1 65,jw 67 66 65,⟨some 68,.val (.bin .str .neq (.t 67) (.c (.str []))),(some (65,false))⟩,jv 69 68 65,jf 70 3 69,ym 71 70 69,yu 72 69 71 65,jt 73 65 72,ja 2 73]
abbrev r60 : RC:=jQ g60_0 (jQ g60_1 (jQ g60_2 (.ret)))
abbrev o60 : List RR:=[.tmp 2]
theorem k60 : CT 60 74 r60 o60:=ck Tryz.func60 Tryz.ntmps60 (by decide +kernel)
abbrev g62_0 : IL:=[jk 4]
abbrev g62_1 : IL:=[ja 5 0,ja 6 1,yq 7 102 5 6,yn 8 7 0,ja 4 8]
abbrev r62 : RC:=jQ g62_0 (jQ g62_1 (.ret))
abbrev o62 : List RR:=[.tmp 4]
theorem k62 : CT 62 9 r62 o62:=ck Tryz.func62 Tryz.ntmps62 (by decide +kernel)
abbrev g144_0 : IL:=[jg 1 1 0,⟨some 2,.allocN 2 [.nils,.nils,.nils],none⟩]
abbrev g144_1 : IL:=[⟨some 3,.allocN 3 [.nils,.nils,.nils],none⟩]
abbrev g144_2 : IL:=[jb 10 0 1,jc 11 10,jj 12 1 11,jd 13 0]
abbrev g144_3 : IL:=[jn 14 13 12]
abbrev g144_4 : IL:=[jl 15 5 11 13,je 16 5 15,zy 5 5,jp 5 5 16]
abbrev g144_5 : IL:=[jag 17 1 3 3 0,jc 18 17,jb 19 0 5,jc 20 19,jal 21 1 1 0 1 20,yd 22 1 16 9 18 21,jag 23 1 3 3 0,jp 1 23 22]
abbrev g144_6 : IL:=[jm 24 13 1,ja 13 24]
abbrev l144_0 : RC:=.gho (.drop 5) (jQ g144_3 (.seq (jX 14 0) (.seq (.block 1 (jQ g144_4 (.reg g144_5))) (.reg g144_6))))
abbrev g144_7 : IL:=[jb 25 1 1,jc 26 25,jj 27 1 26,jd 28 0]
abbrev g144_8 : IL:=[jn 29 28 27]
abbrev g144_9 : IL:=[jl 30 5 26 28,je 31 5 30,zz 7 7,jp 5 7 31]
abbrev g144_10 : IL:=[jag 32 1 3 3 1,jc 33 32,jb 34 0 7,jc 35 34,jal 36 1 1 0 1 35,yd 37 1 16 9 33 36,jag 38 1 3 3 1,jp 1 38 37]
abbrev g144_11 : IL:=[jm 39 28 1,ja 28 39]
abbrev l144_1 : RC:=.gho (.drop 7) (jQ g144_8 (.seq (jX 29 2) (.seq (.block 3 (jQ g144_9 (.reg g144_10))) (.reg g144_11))))
abbrev g144_12 : IL:=[jb 40 2 1,jc 41 40,jj 42 1 41,jd 43 0]
abbrev g144_13 : IL:=[jn 44 43 42]
abbrev g144_14 : IL:=[jl 45 3 41 43,je 46 3 45,⟨some 9,.allocN 9 [.str [],.nils,.nils],none⟩,jp 3 9 46]
abbrev g144_15 : IL:=[jag 47 1 3 3 2,jc 48 47,jb 49 0 9,jc 50 49,jal 51 1 1 0 1 50,yd 52 1 16 9 48 51,jag 53 1 3 3 2,jp 1 53 52]
abbrev g144_16 : IL:=[jm 54 43 1,ja 43 54]
abbrev l144_2 : RC:=.gho (.drop 9) (jQ g144_13 (.seq (jX 44 4) (.seq (.block 5 (jQ g144_14 (.reg g144_15))) (.reg g144_16))))
abbrev g144_17 : IL:=[je 55 3 3,jp 3 2 55]
abbrev r144 : RC:=jQ g144_0 (jQ g144_1 (.gho (.vecc 3 0 1100 1) (.gho (.vecc 3 1 1101 1) (.gho (.vecc 3 2 1102 1) (.seq (jQ g144_2 (.block 0 (.loop l144_0))) (.seq (jQ g144_7 (.block 2 (.loop l144_1))) (.seq (jQ g144_12 (.block 4 (.loop l144_2))) (jQ g144_17 (.ret)))))))))
abbrev o144 : List RR:=[.cell 2 (some 3)]
theorem k144 : CT 144 56 r144 o144:=ck Tryz.func144 Tryz.ntmps144 (by decide +kernel)
abbrev g145_0 : IL:=[ja 6 1,yb 7 6]
abbrev g145_1 : IL:=[ja 8 0,ja 9 0,zd 10 9,jb 11 2 10,⟨some 12,.val (.loado none (.t 11)),none⟩,ja 13 0,zd 14 13,jb 15 0 14,⟨some 16,.val (.loado none (.t 15)),none⟩,ja 17 0,zd 18 17,jb 19 1 18,⟨some 20,.val (.loado none (.t 19)),none⟩,ja 21 2,⟨some 22,.val (.build [.str [],.int .i64 0,.int .i64 0] [(0,1,(.t 16)),(1,1,(.t 20)),(2,1,(.t 21))]),none⟩,⟨some 23,.bsl 3 1 [.str [],.int .i64 0,.int .i64 0] [(0,3,(.t 22))],none⟩,yd 24 3 32 205 12 23,zd 25 8,jb 26 2 25,jp 1 26 24]
abbrev r145 : RC:=jQ g145_0 (.cond (.t 7) (.draw g145_1) (.skip))
abbrev o145 : List RR:=[]
theorem k145 : CT 145 27 r145 o145:=ck Tryz.func145 Tryz.ntmps145 (by decide +kernel)
abbrev g146_0 : IL:=[jk 2]
abbrev g146_1 : IL:=[jd 3 1]
abbrev g146_2 : IL:=[ja 4 3,ja 5 0,jj 6 1 5,jn 7 4 6]
abbrev g146_4 : IL:=[ja 10 0,ja 11 3,jl 12 1 10 11,zj 13 12,ja 14 0,ja 15 3,jan 16 15 1,jl 17 1 14 16,zj 18 17,⟨some 19,.val (.bin .str .leq (.t 13) (.t 18)),none⟩]
abbrev g146_5 : IL:=[jk 2]
abbrev g146_3 : IL:=[ja 8 3,jm 9 8 1,ja 3 9]
abbrev l146_0 : RC:=.seq (jQ g146_2 (jX 7 0)) (.seq (.block 1 (jD g146_4 (.cond (.t 19) (jQ g146_5 (.ret)) (.skip)))) (.reg g146_3))
abbrev g146_6 : IL:=[yf 2]
abbrev r146 : RC:=jQ g146_0 (.seq (jQ g146_1 (.block 0 (.loop l146_0))) (jQ g146_6 (.ret)))
abbrev o146 : List RR:=[.tmp 2]
theorem k146 : CT 146 20 r146 o146:=ck Tryz.func146 Tryz.ntmps146 (by decide +kernel)
abbrev g147_0 : IL:=[jg 1 1 0,jk 2]
abbrev g147_1 : IL:=[jd 5 0]
abbrev g147_2 : IL:=[ys 6 5 3]
abbrev g147_3 : IL:=[ja 7 5,ja 3 7]
abbrev g147_4 : IL:=[ja 8 3,jd 9 0]
abbrev g147_5 : IL:=[jn 10 9 8]
abbrev g147_6 : IL:=[ja 11 9,⟨some 4,.allocN 4 [.int .i64 0],none⟩,jp 1 4 11]
abbrev g147_7 : IL:=[ja 12 3,⟨some 13,.val (.iaddr 1 (some 3) (.t 1) (.t 12)),none⟩,jc 14 13,⟨some 15,.val (.mkfn (.func 174) [] [(.t 1),(.t 4)]),none⟩,yq 16 173 14 15]
abbrev g147_8 : IL:=[jk 2]
abbrev g147_9 : IL:=[jm 17 9 1,ja 9 17]
abbrev l147_0 : RC:=.gho (.drop 4) (jQ g147_5 (.seq (jX 10 2) (.seq (.block 3 (jQ g147_6 (jQ g147_7 (.cond (.t 16) (jQ g147_8 (.ret)) (.skip))))) (.reg g147_9))))
abbrev g147_10 : IL:=[jm 18 5 1,ja 5 18]
abbrev l147_1 : RC:=.gho (.drop 4) (jQ g147_2 (.seq (jX 6 0) (.seq (.block 1 (jQ g147_3 (jQ g147_4 (.block 2 (.loop l147_0))))) (.reg g147_10))))
abbrev g147_11 : IL:=[yf 2]
abbrev r147 : RC:=jQ g147_0 (.seq (jQ g147_1 (.block 0 (.loop l147_1))) (jQ g147_11 (.ret)))
abbrev o147 : List RR:=[.tmp 2]
theorem k147 : CT 147 19 r147 o147:=ck Tryz.func147 Tryz.ntmps147 (by decide +kernel)
abbrev g148_0 : IL:=[jg 1 1 0,⟨some 2,.val (.mov (.c (.nilm))),none⟩]
abbrev g148_1 : IL:=[⟨some 9,.mkm 9,none⟩,⟨some 3,.allocN 3 [.nilm],none⟩,jp 1 3 9]
abbrev g148_2 : IL:=[jb 10 0 1,jc 11 10,jj 12 1 11,jm 13 12 1,jd 14 0]
abbrev g148_3 : IL:=[jn 15 14 13]
abbrev g148_4 : IL:=[jb 16 0 1,jc 17 16,jj 18 1 17,jd 19 0]
abbrev g148_5 : IL:=[jn 20 19 18]
abbrev g148_6 : IL:=[jl 21 5 17 19,je 22 5 21,zy 5 5,jp 5 5 22]
abbrev g148_7 : IL:=[je 24 3 1,jb 25 0 5,jc 26 25,ju 27 175 24 26,ja 23 27,jy 28 23 0,jy 29 23 1,zy 6 6,jp 5 6 28,ja 7 29]
abbrev g148_8 : IL:=[je 30 5 6,jr 31 176 30,⟨some 32,.val (.mkfn (.func 177) [] [(.t 1),(.t 3)]),none⟩,yq 33 173 31 32,ja 8 33]
abbrev g148_9 : IL:=[ja 34 8,yb 35 34]
abbrev g148_10 : IL:=[jc 36 3,jb 37 0 5,jc 38 37,⟨none,.mput (.t 36) (.t 38) (.c (.bool true)),none⟩]
abbrev g148_11 : IL:=[jm 39 19 1,ja 19 39]
abbrev l148_0 : RC:=.gho (.drop 6) (.gho (.drop 5) (jQ g148_5 (.seq (jX 20 2) (.seq (.block 3 (jQ g148_6 (jQ g148_7 (jQ g148_8 (jQ g148_9 (.cond (.t 35) (.reg g148_10) (.skip))))))) (.reg g148_11)))))
abbrev g148_12 : IL:=[jm 40 14 1,ja 14 40]
abbrev l148_1 : RC:=.gho (.drop 6) (.gho (.drop 5) (jQ g148_3 (.seq (jX 15 0) (.seq (.block 1 (jQ g148_4 (.block 2 (.loop l148_0)))) (.reg g148_12)))))
abbrev g148_13 : IL:=[jc 41 3,ja 2 41]
abbrev r148 : RC:=jQ g148_0 (jQ g148_1 (.seq (jQ g148_2 (.block 0 (.loop l148_1))) (jQ g148_13 (.ret))))
abbrev o148 : List RR:=[.tmp 2]
theorem k148 : CT 148 42 r148 o148:=ck Tryz.func148 Tryz.ntmps148 (by decide +kernel)
abbrev g149_0 : IL:=[jg 3 3 0,jg 4 4 1,yi 6]
abbrev g149_1 : IL:=[jb 11 0 4,jc 12 11,⟨some 13,.val (.build [.str [],.int .i64 0,.nils] [(0,1,(.t 12)),(1,1,(.c (.int .i64 (-1))))]),none⟩,jg 14 14 13,ja 7 14]
abbrev g149_2 : IL:=[ja 15 7,jb 16 0 4,jc 17 16,jr 18 178 17,yp 19 145 15 18 8]
abbrev g149_3 : IL:=[ja 20 7,jb 21 1 4,jc 22 21,jj 23 1 22,zu 24 23 64,ja 25 24,jh 26 2 4 25,jo 27 26 25,yc 28 1 27 25,jh 29 3 4 25,jo 30 29 25,yc 31 1 30 25,⟨some 32,.val (.mnx true (.t 28) (.t 31)),(some (25,true))⟩,yj 33 32 16 25,ji 34 25 33,yp 35 145 20 34 3]
abbrev g149_4 : IL:=[jb 36 1 4,jc 37 36,jj 38 1 37,jd 39 0]
abbrev g149_5 : IL:=[jn 40 39 38]
abbrev g149_6 : IL:=[ja 41 39,ja 8 41]
abbrev g149_7 : IL:=[ja 42 7,je 43 3 3,je 44 5 4,ja 45 8,⟨some 46,.callF (.f 179) [(.t 42),(.t 43),(.t 44),(.t 45)],none⟩]
abbrev g149_8 : IL:=[jm 47 39 1,ja 39 47]
abbrev l149_0 : RC:=jQ g149_5 (.seq (jX 40 0) (.seq (.block 1 (jQ g149_6 (.reg g149_7))) (.reg g149_8)))
abbrev g149_9 : IL:=[ja 48 7,jb 49 2 4,jc 50 49,⟨some 51,.callF (.f 180) [(.t 48),(.t 50),(.c (.int .i64 1)),(.c (.int .i64 65535))],none⟩]
abbrev g149_10 : IL:=[jb 52 3 4,jc 53 52,jj 54 1 53,jd 55 0]
abbrev g149_11 : IL:=[jn 56 55 54]
abbrev g149_12 : IL:=[jl 57 1 53 55,jc 58 57,ja 10 58]
abbrev g149_13 : IL:=[ja 59 7,ja 60 10,jr 61 181 60,yp 62 145 59 61 7]
abbrev g149_14 : IL:=[jm 63 55 1,ja 55 63]
abbrev l149_1 : RC:=jQ g149_11 (.seq (jX 56 2) (.seq (.block 3 (jQ g149_12 (.reg g149_13))) (.reg g149_14)))
abbrev g149_15 : IL:=[ja 64 7,jb 65 4 4,jc 66 65,yp 67 182 64 66 1]
abbrev g149_16 : IL:=[ja 68 7,je 69 3 3,je 70 5 4,ja 71 2,yt 72 183 69 70 71,yb 73 72,yp 74 145 68 73 19]
abbrev g149_17 : IL:=[ja 75 7,zd 76 75,jb 77 2 76,jc 78 77,ja 6 78]
abbrev r149 : RC:=jQ g149_0 (jQ g149_1 (jQ g149_2 (jQ g149_3 (.seq (jQ g149_4 (.block 0 (.loop l149_0))) (jQ g149_9 (.seq (jQ g149_10 (.block 2 (.loop l149_1))) (jQ g149_15 (jQ g149_16 (jQ g149_17 (.ret))))))))))
abbrev o149 : List RR:=[.tmp 6]
theorem k149 : CT 149 79 r149 o149:=ck Tryz.func149 Tryz.ntmps149 (by decide +kernel)
abbrev g152_0 : IL:=[jd 4 0]
abbrev g152_1 : IL:=[ja 6 0,jj 7 1 6,jd 8 0]
abbrev g152_2 : IL:=[jn 9 8 7]
abbrev g152_3 : IL:=[ja 10 8,ja 5 10]
abbrev g152_4 : IL:=[ja 11 1,ja 12 0,ja 13 5,jl 14 5 12 13,je 15 5 14,zs 16 11 15]
abbrev g152_5 : IL:=[ja 17 5,ja 4 17]
abbrev g152_6 : IL:=[jm 18 8 1,ja 8 18]
abbrev l152_0 : RC:=jQ g152_2 (.seq (jX 9 0) (.seq (.block 1 (jQ g152_3 (jQ g152_4 (.cond (.t 16) (jQ g152_5 (.ret)) (.skip))))) (.reg g152_6)))
abbrev g152_7 : IL:=[jd 4 (-1)]
abbrev r152 : RC:=jQ g152_0 (.seq (jQ g152_1 (.block 0 (.loop l152_0))) (jQ g152_7 (.ret)))
abbrev o152 : List RR:=[.tmp 4]
theorem k152 : CT 152 19 r152 o152:=ck Tryz.func152 Tryz.ntmps152 (by decide +kernel)
abbrev g156_0 : IL:=[jg 3 3 1,jd 4 0]
abbrev g156_1 : IL:=[ja 5 0,zr 6 189 3,yq 7 188 5 6,ja 4 7]
abbrev r156 : RC:=jQ g156_0 (jQ g156_1 (.ret))
abbrev o156 : List RR:=[.tmp 4]
theorem k156 : CT 156 8 r156 o156:=ck Tryz.func156 Tryz.ntmps156 (by decide +kernel)
abbrev g102_0 : IL:=[jd 4 0]
abbrev g102_1 : IL:=[ja 6 0,jj 7 1 6,jd 8 0]
abbrev g102_2 : IL:=[jn 9 8 7]
abbrev g102_3 : IL:=[ja 10 8,ja 5 10]
abbrev g102_4 : IL:=[ja 11 1,ja 12 0,ja 13 5,jl 14 8 12 13,je 15 8 14,zs 16 11 15]
abbrev g102_5 : IL:=[ja 17 5,ja 4 17]
abbrev g102_6 : IL:=[jm 18 8 1,ja 8 18]
abbrev l102_0 : RC:=jQ g102_2 (.seq (jX 9 0) (.seq (.block 1 (jQ g102_3 (jQ g102_4 (.cond (.t 16) (jQ g102_5 (.ret)) (.skip))))) (.reg g102_6)))
abbrev g102_7 : IL:=[jd 4 (-1)]
abbrev r102 : RC:=jQ g102_0 (.seq (jQ g102_1 (.block 0 (.loop l102_0))) (jQ g102_7 (.ret)))
abbrev o102 : List RR:=[.tmp 4]
theorem k102 : CT 102 19 r102 o102:=ck Tryz.func102 Tryz.ntmps102 (by decide +kernel)
abbrev g173_0 : IL:=[jk 4]
abbrev g173_1 : IL:=[ja 5 0,ja 6 1,yq 7 197 5 6,yn 8 7 0,ja 4 8]
abbrev r173 : RC:=jQ g173_0 (jQ g173_1 (.ret))
abbrev o173 : List RR:=[.tmp 4]
theorem k173 : CT 173 9 r173 o173:=ck Tryz.func173 Tryz.ntmps173 (by decide +kernel)
abbrev g175_0 : IL:=[jg 2 2 0,jg 3 3 1,zy 4 4,jk 5]
abbrev g175_1 : IL:=[jb 7 0 2,jc 8 7,zr 9 198 3,yq 10 152 8 9,ja 6 10]
abbrev g175_2 : IL:=[ja 11 6,ys 12 11 0]
abbrev g175_3 : IL:=[⟨some 13,.val (.build [.str [],.nils,.nils,.nils,.nils] []),none⟩,jp 5 4 13,jk 5]
abbrev g175_4 : IL:=[jb 14 0 2,jc 15 14,ja 16 6,jl 17 5 15 16,je 18 5 17,jp 5 4 18,yf 5]
abbrev r175 : RC:=jQ g175_0 (jQ g175_1 (.seq (jQ g175_2 (.cond (.t 12) (jQ g175_3 (.ret)) (.skip))) (jQ g175_4 (.ret))))
abbrev o175 : List RR:=[.cell 4 (some 5),.tmp 5]
theorem k175 : CT 175 19 r175 o175:=ck Tryz.func175 Tryz.ntmps175 (by decide +kernel)
abbrev g176_0 : IL:=[jg 1 1 0,yi 2]
abbrev g176_1 : IL:=[yi 3]
abbrev g176_2 : IL:=[jb 6 1 1,jc 7 6,jj 8 1 7,jd 9 0]
abbrev g176_3 : IL:=[jn 10 9 8]
abbrev g176_4 : IL:=[jl 11 16 7 9,je 12 16 11,jaj 5 5,jp 16 5 12]
abbrev g176_5 : IL:=[jb 13 2 5,jc 14 13,jq 15 14 1,ja 16 15,jh 17 4 5 16,jh 18 0 17 16,jo 19 18 16,yh 20 19 10 16,ji 21 16 20]
abbrev g176_6 : IL:=[ja 22 3,jb 23 4 5,jb 24 1 23,jc 25 24,jal 26 1 1 0 1 25,yd 27 1 16 9 22 26,ja 3 27]
abbrev g176_7 : IL:=[jm 28 9 1,ja 9 28]
abbrev l176_0 : RC:=.gho (.drop 5) (jQ g176_3 (.seq (jX 10 0) (.seq (.block 1 (jQ g176_4 (jQ g176_5 (.cond (.t 21) (.reg g176_6) (.skip))))) (.reg g176_7))))
abbrev g176_8 : IL:=[ja 29 3,ja 2 29]
abbrev r176 : RC:=jQ g176_0 (jQ g176_1 (.gho (.vec 3 3 1) (.seq (jQ g176_2 (.block 0 (.loop l176_0))) (jQ g176_8 (.ret)))))
abbrev o176 : List RR:=[.tmp 2]
theorem k176 : CT 176 30 r176 o176:=ck Tryz.func176 Tryz.ntmps176 (by decide +kernel)
abbrev g178_0 : IL:=[jk 2]
abbrev g178_1 : IL:=[ja 3 0,jr 4 199 3,ja 5 4,jf 6 0 5,⟨some 7,.call (.f 200) [(.t 6),(.c (.str [46]))],(some (5,true))⟩,⟨some 8,.callF (.f 173) [(.t 7),(.f 201)],(some (5,true))⟩,ym 9 8 5,ji 10 5 9,ja 2 10]
abbrev r178 : RC:=jQ g178_0 (jQ g178_1 (.ret))
abbrev o178 : List RR:=[.tmp 2]
theorem k178 : CT 178 11 r178 o178:=ck Tryz.func178 Tryz.ntmps178 (by decide +kernel)
abbrev g179_0 : IL:=[jg 5 5 1,jg 6 6 2]
abbrev g179_1 : IL:=[jb 9 1 6,jc 10 9,ja 11 3,jl 12 16 10 11,je 13 16 12,jaj 8 8,jp 16 8 13]
abbrev g179_2 : IL:=[ja 14 0,jb 15 0 8,jc 16 15,zd 17 14,jb 18 1 17,jp 1 18 16]
abbrev g179_3 : IL:=[ja 19 0,jb 20 0 8,jc 21 20,yn 22 21 1,ja 23 22,jh 24 0 8 23,jo 25 24 23,yj 26 25 65535 23,ji 27 23 26,yp 28 145 19 27 6]
abbrev g179_4 : IL:=[ja 29 0,ja 30 3,jq 31 30 0,ja 32 31,js 33 0 8 32,zb 34 0 8 33 32,js 35 1 6 32,zb 36 0 6 35 32,jv 37 3 32,jab 38 37 1 32,ze 39 16 36 38 32,js 40 0 39 32,zt 41 40 32,⟨some 42,.val (.bin .num .gtr (.t 34) (.t 41)),(some (32,false))⟩,jt 43 32 42,yp 44 145 29 43 11]
abbrev g179_5 : IL:=[ja 45 0,jb 46 1 8,jc 47 46,jr 48 184 47,yp 49 145 45 48 8]
abbrev g179_6 : IL:=[ja 50 0,jb 51 1 6,jc 52 51,ja 53 3,⟨some 54,.callF (.f 202) [(.t 52),(.t 53),(.f 203)],none⟩,yb 55 54,yp 56 145 50 55 9]
abbrev g179_7 : IL:=[ja 57 0,jb 58 2 6,jc 59 58,jb 60 0 8,jc 61 60,ju 62 187 59 61,yb 63 62,ja 64 63,jh 65 3 6 64,jo 66 65 64,jh 67 1 8 64,jo 68 67 64,zp 69 108 66 68 64,ym 70 69 64,ji 71 64 70,yp 72 145 57 71 21]
abbrev g179_8 : IL:=[ja 73 0,jb 74 2 8,jc 75 74,yn 76 75 1,ja 77 76,jh 78 2 8 77,jo 79 78 77,yj 80 79 5 77,ji 81 77 80,ja 82 81,jh 83 2 8 82,jo 84 83 82,jh 85 3 8 82,jo 86 85 82,zp 87 204 84 86 82,ji 88 82 87,yp 89 145 73 88 1]
abbrev g179_9 : IL:=[ja 90 0,je 91 3 5,je 92 16 8,ju 93 205 91 92,yp 94 145 90 93 12]
abbrev g179_10 : IL:=[ja 95 0,je 96 5 6,ja 97 3,ju 98 206 96 97,yp 99 145 95 98 15]
abbrev g179_11 : IL:=[ja 100 0,je 101 3 5,je 102 16 8,ju 103 207 101 102,yp 104 145 100 103 1]
abbrev g179_12 : IL:=[ja 105 0,jb 106 15 8,jc 107 106,yp 108 182 105 107 2]
abbrev g179_13 : IL:=[ja 109 0,zd 110 109,jb 111 1 110,⟨none,.store 1 (.t 111) (.c (.int .i64 (-1))),none⟩]
abbrev r179 : RC:=jQ g179_0 (jQ g179_1 (jQ g179_2 (jQ g179_3 (jD g179_4 (jQ g179_5 (jQ g179_6 (jQ g179_7 (jQ g179_8 (jQ g179_9 (jQ g179_10 (jQ g179_11 (jQ g179_12 (.reg g179_13)))))))))))))
abbrev o179 : List RR:=[]
theorem k179 : CT 179 112 r179 o179:=ck Tryz.func179 Tryz.ntmps179 (by decide +kernel)
abbrev g180_0 : IL:=[ja 10 1,jj 11 1 10,jd 12 0]
abbrev g180_1 : IL:=[jn 13 12 11]
abbrev g180_2 : IL:=[ja 14 12,jl 15 2 10 12,je 16 2 15,⟨some 9,.allocN 9 [.int .i64 0,.int .i64 0],none⟩,ja 8 14,jp 2 9 16]
abbrev g180_3 : IL:=[ja 17 0,jb 18 0 9,jc 19 18,ja 20 2,⟨some 21,.val (.bin .num .geq (.t 19) (.t 20)),none⟩,ja 22 21,jh 23 1 9 22,jo 24 23 22,jf 25 3 22,jao 26 24 25 22,ji 27 22 26,ja 28 27,jh 29 0 9 28,jo 30 29 28,jh 31 1 9 28,jo 32 31 28,jao 33 30 32 28,ji 34 28 33,yp 35 145 17 34 6]
abbrev g180_4 : IL:=[ja 36 0,ja 37 8,jq 38 37 0,ja 39 38,js 40 0 9 39,zb 41 0 9 40 39,jv 42 1 39,jv 43 8 39,jab 44 43 1 39,ze 45 2 42 44 39,js 46 1 45 39,zt 47 46 39,⟨some 48,.val (.bin .num .gtr (.t 41) (.t 47)),(some (39,false))⟩,jt 49 39 48,yp 50 145 36 49 11]
abbrev g180_5 : IL:=[jm 51 12 1,ja 12 51]
abbrev l180_0 : RC:=.gho (.drop 9) (jQ g180_1 (.seq (jX 13 0) (.seq (.block 1 (jQ g180_2 (jQ g180_3 (.draw g180_4)))) (.reg g180_5))))
abbrev r180 : RC:=jQ g180_0 (.block 0 (.loop l180_0))
abbrev o180 : List RR:=[]
theorem k180 : CT 180 52 r180 o180:=ck Tryz.func180 Tryz.ntmps180 (by decide +kernel)
abbrev g182_0 : IL:=[ja 7 1,ja 8 2,ju 9 209 7 8,ja 6 9]
abbrev g182_1 : IL:=[ja 10 0,ja 11 6,jq 12 11 0,ja 13 6,⟨some 14,.callF (.f 145) [(.t 10),(.t 12),(.t 13)],none⟩]
abbrev r182 : RC:=jQ g182_0 (.reg g182_1)
abbrev o182 : List RR:=[]
theorem k182 : CT 182 15 r182 o182:=ck Tryz.func182 Tryz.ntmps182 (by decide +kernel)
abbrev g183_0 : IL:=[jg 3 3 0,jg 4 4 1,jg 5 5 2,jk 6]
abbrev g183_1 : IL:=[je 7 5 4,jr 8 176 7,⟨some 9,.val (.mkfn (.func 210) [] [(.t 3),(.t 5)]),none⟩,yq 10 173 8 9,ja 6 10]
abbrev r183 : RC:=jQ g183_0 (jQ g183_1 (.ret))
abbrev o183 : List RR:=[.tmp 6]
theorem k183 : CT 183 11 r183 o183:=ck Tryz.func183 Tryz.ntmps183 (by decide +kernel)
abbrev g184_0 : IL:=[jk 2]
abbrev g184_1 : IL:=[ja 3 0,jr 4 211 3,ja 5 4,jf 6 0 5,yv 7 201 6 5,ym 8 7 5,ji 9 5 8,ja 2 9]
abbrev r184 : RC:=jQ g184_0 (jQ g184_1 (.ret))
abbrev o184 : List RR:=[.tmp 2]
theorem k184 : CT 184 10 r184 o184:=ck Tryz.func184 Tryz.ntmps184 (by decide +kernel)
abbrev g187_0 : IL:=[jg 3 3 1,jk 4]
abbrev g187_1 : IL:=[ja 5 0,zr 6 214 3,yq 7 213 5 6,ja 4 7]
abbrev r187 : RC:=jQ g187_0 (jQ g187_1 (.ret))
abbrev o187 : List RR:=[.tmp 4]
theorem k187 : CT 187 8 r187 o187:=ck Tryz.func187 Tryz.ntmps187 (by decide +kernel)
abbrev g188_0 : IL:=[jd 4 0]
abbrev g188_1 : IL:=[ja 6 0,jj 7 1 6,jd 8 0]
abbrev g188_2 : IL:=[jn 9 8 7]
abbrev g188_3 : IL:=[ja 10 8,ja 5 10]
abbrev g188_4 : IL:=[ja 11 1,ja 12 0,ja 13 5,jl 14 8 12 13,je 15 8 14,zs 16 11 15]
abbrev g188_5 : IL:=[ja 17 5,ja 4 17]
abbrev g188_6 : IL:=[jm 18 8 1,ja 8 18]
abbrev l188_0 : RC:=jQ g188_2 (.seq (jX 9 0) (.seq (.block 1 (jQ g188_3 (jQ g188_4 (.cond (.t 16) (jQ g188_5 (.ret)) (.skip))))) (.reg g188_6)))
abbrev g188_7 : IL:=[jd 4 (-1)]
abbrev r188 : RC:=jQ g188_0 (.seq (jQ g188_1 (.block 0 (.loop l188_0))) (jQ g188_7 (.ret)))
abbrev o188 : List RR:=[.tmp 4]
theorem k188 : CT 188 19 r188 o188:=ck Tryz.func188 Tryz.ntmps188 (by decide +kernel)
abbrev g197_0 : IL:=[jd 4 0]
abbrev g197_1 : IL:=[ja 6 0,jj 7 1 6,jd 8 0]
abbrev g197_2 : IL:=[jn 9 8 7]
abbrev g197_3 : IL:=[ja 10 8,ja 5 10]
abbrev g197_4 : IL:=[ja 11 1,ja 12 0,ja 13 5,jl 14 1 12 13,jc 15 14,zs 16 11 15]
abbrev g197_5 : IL:=[ja 17 5,ja 4 17]
abbrev g197_6 : IL:=[jm 18 8 1,ja 8 18]
abbrev l197_0 : RC:=jQ g197_2 (.seq (jX 9 0) (.seq (.block 1 (jQ g197_3 (jQ g197_4 (.cond (.t 16) (jQ g197_5 (.ret)) (.skip))))) (.reg g197_6)))
abbrev g197_7 : IL:=[jd 4 (-1)]
abbrev r197 : RC:=jQ g197_0 (.seq (jQ g197_1 (.block 0 (.loop l197_0))) (jQ g197_7 (.ret)))
abbrev o197 : List RR:=[.tmp 4]
theorem k197 : CT 197 19 r197 o197:=ck Tryz.func197 Tryz.ntmps197 (by decide +kernel)
abbrev g198_0 : IL:=[jg 2 2 0,jk 3]
abbrev g198_1 : IL:=[jb 4 0 2,jc 5 4,jc 6 1,⟨some 7,.val (.bin .str .eql (.t 5) (.t 6)),none⟩,ja 3 7]
abbrev r198 : RC:=jQ g198_0 (jQ g198_1 (.ret))
abbrev o198 : List RR:=[.tmp 3]
theorem k198 : CT 198 8 r198 o198:=ck Tryz.func198 Tryz.ntmps198 (by decide +kernel)
abbrev g199_0 : IL:=[jk 2]
abbrev g199_1 : IL:=[ja 5 0,⟨some 6,.call (.f 200) [(.t 5),(.c (.str [46]))],none⟩,jj 7 1 6,jd 8 0]
abbrev g199_2 : IL:=[jn 9 8 7]
abbrev g199_3 : IL:=[jl 10 1 6 8,jc 11 10,ja 4 11]
abbrev g199_4 : IL:=[ja 12 4,jr 13 211 12,yb 14 13]
abbrev g199_5 : IL:=[jk 2]
abbrev g199_6 : IL:=[jm 15 8 1,ja 8 15]
abbrev l199_0 : RC:=jQ g199_2 (.seq (jX 9 0) (.seq (.block 1 (jQ g199_3 (jQ g199_4 (.cond (.t 14) (jQ g199_5 (.ret)) (.skip))))) (.reg g199_6)))
abbrev g199_7 : IL:=[ja 16 0,jj 17 0 16,zu 18 17 120,ja 2 18]
abbrev r199 : RC:=jQ g199_0 (.seq (jQ g199_1 (.block 0 (.loop l199_0))) (jQ g199_7 (.ret)))
abbrev o199 : List RR:=[.tmp 2]
theorem k199 : CT 199 19 r199 o199:=ck Tryz.func199 Tryz.ntmps199 (by decide +kernel)
abbrev g200_0 : IL:=[yi 4]
abbrev g200_1 : IL:=[ja 5 0,ja 6 1,⟨some 7,.call (.f 219) [(.t 5),(.t 6),(.c (.int .i64 0)),(.c (.int .i64 (-1)))],none⟩,ja 4 7]
abbrev r200 : RC:=jQ g200_0 (jQ g200_1 (.ret))
abbrev o200 : List RR:=[.tmp 4]
theorem k200 : CT 200 8 r200 o200:=ck Tryz.func200 Tryz.ntmps200 (by decide +kernel)
abbrev g201_0 : IL:=[jk 2]
abbrev g201_1 : IL:=[ja 3 0]
abbrev g201_2 : IL:=[⟨some 5,.val (.bin .str .eql (.t 3) (.c (.str [109,101,115,115,97,103,101]))),none⟩,ja 4 5]
abbrev g201_3 : IL:=[⟨some 6,.val (.bin .str .eql (.t 3) (.c (.str [101,110,117,109]))),none⟩,ja 4 6]
abbrev g201_4 : IL:=[⟨some 7,.val (.bin .str .eql (.t 3) (.c (.str [115,101,114,118,105,99,101]))),none⟩,ja 4 7]
abbrev g201_5 : IL:=[⟨some 8,.val (.bin .str .eql (.t 3) (.c (.str [117,110,105,111,110]))),none⟩,ja 4 8]
abbrev g201_6 : IL:=[⟨some 9,.val (.bin .str .eql (.t 3) (.c (.str [109,97,112]))),none⟩,ja 4 9]
abbrev g201_7 : IL:=[⟨some 10,.val (.bin .str .eql (.t 3) (.c (.str [108,105,115,116]))),none⟩,ja 4 10]
abbrev g201_8 : IL:=[⟨some 11,.val (.bin .str .eql (.t 3) (.c (.str [114,101,113,117,105,114,101,100]))),none⟩,ja 4 11]
abbrev g201_9 : IL:=[⟨some 12,.val (.bin .str .eql (.t 3) (.c (.str [111,112,116,105,111,110,97,108]))),none⟩,ja 4 12]
abbrev g201_10 : IL:=[⟨some 13,.val (.bin .str .eql (.t 3) (.c (.str [112,108,97,105,110]))),none⟩,ja 4 13]
abbrev g201_11 : IL:=[⟨some 14,.val (.bin .str .eql (.t 3) (.c (.str [100,101,102,97,117,108,116]))),none⟩,ja 4 14]
abbrev g201_12 : IL:=[⟨some 15,.val (.bin .str .eql (.t 3) (.c (.str [114,101,115,101,114,118,101,100]))),none⟩,ja 4 15]
abbrev g201_13 : IL:=[yf 2]
abbrev g201_14 : IL:=[⟨some 17,.val (.bin .str .eql (.t 3) (.c (.str [105,109,112,111,114,116]))),none⟩,ja 16 17]
abbrev g201_15 : IL:=[⟨some 18,.val (.bin .str .eql (.t 3) (.c (.str [115,112,97,99,101]))),none⟩,ja 16 18]
abbrev g201_16 : IL:=[⟨some 19,.val (.bin .str .eql (.t 3) (.c (.str [114,112,99]))),none⟩,ja 16 19]
abbrev g201_17 : IL:=[⟨some 20,.val (.bin .str .eql (.t 3) (.c (.str [115,116,114,101,97,109]))),none⟩,ja 16 20]
abbrev g201_18 : IL:=[⟨some 21,.val (.bin .str .eql (.t 3) (.c (.str [114,101,116,117,114,110,115]))),none⟩,ja 16 21]
abbrev g201_19 : IL:=[⟨some 22,.val (.bin .str .eql (.t 3) (.c (.str [111,112,101,110]))),none⟩,ja 16 22]
abbrev g201_20 : IL:=[⟨some 23,.val (.bin .str .eql (.t 3) (.c (.str [116,114,117,101]))),none⟩,ja 16 23]
abbrev g201_21 : IL:=[⟨some 24,.val (.bin .str .eql (.t 3) (.c (.str [102,97,108,115,101]))),none⟩,ja 16 24]
abbrev g201_22 : IL:=[⟨some 25,.val (.bin .str .eql (.t 3) (.c (.str [110,97,110]))),none⟩,ja 16 25]
abbrev g201_23 : IL:=[⟨some 26,.val (.bin .str .eql (.t 3) (.c (.str [105,110,102]))),none⟩,ja 16 26]
abbrev g201_24 : IL:=[yf 2]
abbrev g201_25 : IL:=[jk 2]
abbrev r201 : RC:=jQ g201_0 (.seq (jQ g201_1 (.block 0 (.seq (jQ g201_2 (.cond (.t 4) (.skip) (jQ g201_3 (.cond (.t 4) (.skip) (jQ g201_4 (.cond (.t 4) (.skip) (jQ g201_5 (.cond (.t 4) (.skip) (jQ g201_6 (.cond (.t 4) (.skip) (jQ g201_7 (.cond (.t 4) (.skip) (jQ g201_8 (.cond (.t 4) (.skip) (jQ g201_9 (.cond (.t 4) (.skip) (jQ g201_10 (.cond (.t 4) (.skip) (jQ g201_11 (.cond (.t 4) (.skip) (.reg g201_12))))))))))))))))))))) (.cond (.t 4) (jQ g201_13 (.ret)) (.seq (jQ g201_14 (.cond (.t 16) (.skip) (jQ g201_15 (.cond (.t 16) (.skip) (jQ g201_16 (.cond (.t 16) (.skip) (jQ g201_17 (.cond (.t 16) (.skip) (jQ g201_18 (.cond (.t 16) (.skip) (jQ g201_19 (.cond (.t 16) (.skip) (jQ g201_20 (.cond (.t 16) (.skip) (jQ g201_21 (.cond (.t 16) (.skip) (jQ g201_22 (.cond (.t 16) (.skip) (.reg g201_23))))))))))))))))))) (.cond (.t 16) (jQ g201_24 (.ret)) (.skip))))))) (jQ g201_25 (.ret)))
abbrev o201 : List RR:=[.tmp 2]
theorem k201 : CT 201 27 r201 o201:=ck Tryz.func201 Tryz.ntmps201 (by decide +kernel)
abbrev g202_0 : IL:=[jg 3 3 0,jg 4 4 1,jg 5 5 2,jk 6]
abbrev g202_1 : IL:=[jc 7 3,jc 8 4,zv 9 16 7 8,⟨some 10,.val (.mkfn (.func 221) [] [(.t 5),(.t 3),(.t 4)]),none⟩,yq 11 220 9 10,ja 6 11]
abbrev r202 : RC:=jQ g202_0 (jQ g202_1 (.ret))
abbrev o202 : List RR:=[.tmp 6]
theorem k202 : CT 202 12 r202 o202:=ck Tryz.func202 Tryz.ntmps202 (by decide +kernel)
abbrev g204_0 : IL:=[jk 4]
abbrev g204_1 : IL:=[ja 5 0,ya 6 5 5]
abbrev g204_2 : IL:=[ja 7 1,jq 8 7 0,ja 4 8]
abbrev g204_3 : IL:=[ja 9 1,yn 10 9 1,ja 11 10,jf 12 1 11,yj 13 12 7 11,ji 14 11 13,ja 15 14,jf 16 1 15,zl 17 16 6 15,ji 18 15 17,ja 4 18]
abbrev r204 : RC:=jQ g204_0 (.seq (jQ g204_1 (.cond (.t 6) (jQ g204_2 (.ret)) (.skip))) (jQ g204_3 (.ret)))
abbrev o204 : List RR:=[.tmp 4]
theorem k204 : CT 204 19 r204 o204:=ck Tryz.func204 Tryz.ntmps204 (by decide +kernel)
abbrev g205_0 : IL:=[jg 2 2 0,jg 3 3 1,jk 4]
abbrev g205_1 : IL:=[jb 10 4 3,jb 11 0 10,jc 12 11,yn 13 12 1,ja 14 13,jh 15 4 3 14,jh 16 0 15 14,jo 17 16 14,yj 18 17 8 14,ji 19 14 18,ja 9 19]
abbrev g205_2 : IL:=[jb 20 4 3,jb 21 1 20,jc 22 21,⟨some 23,.val (.bin .str .eql (.t 22) (.c (.str []))),none⟩,ja 4 23]
abbrev g205_3 : IL:=[jb 25 4 3,jb 26 0 25,jc 27 26,jq 28 27 9,ja 24 28]
abbrev g205_4 : IL:=[je 30 3 2,jb 31 4 3,jb 32 1 31,jc 33 32,ju 34 222 30 33,ja 29 34,jy 35 29 0,jy 36 29 1,zz 5 5,jp 5 5 35,ja 6 36]
abbrev g205_5 : IL:=[ja 37 6,ja 4 37]
abbrev g205_6 : IL:=[jb 39 4 3,jb 40 0 39,jc 41 40,jq 42 41 10,ja 38 42]
abbrev g205_7 : IL:=[je 44 3 2,jb 45 4 3,jb 46 1 45,jc 47 46,ju 48 175 44 47,ja 43 48,jy 49 43 0,jy 50 43 1,zy 7 7,jp 5 7 49,ja 8 50]
abbrev g205_8 : IL:=[ja 51 8,ja 52 51,jh 53 2 3 52,jo 54 53 52,zl 55 54 3 52,ji 56 52 55,ja 4 56]
abbrev g205_9 : IL:=[jk 4]
abbrev r205 : RC:=jQ g205_0 (.seq (.block 0 (jQ g205_1 (.cond (.t 9) (jQ g205_2 (.ret)) (jQ g205_3 (.cond (.t 24) (jQ g205_4 (jQ g205_5 (.ret))) (jQ g205_6 (.cond (.t 38) (jQ g205_7 (jQ g205_8 (.ret))) (.skip)))))))) (jQ g205_9 (.ret)))
abbrev o205 : List RR:=[.tmp 4]
theorem k205 : CT 205 57 r205 o205:=ck Tryz.func205 Tryz.ntmps205 (by decide +kernel)
abbrev g206_0 : IL:=[jg 2 2 0,jk 4]
abbrev g206_1 : IL:=[jb 7 1 2,jc 8 7,ja 9 1,jl 10 16 8 9,je 11 16 10,jaj 5 5,jp 16 5 11]
abbrev g206_2 : IL:=[jb 12 6 5,jc 13 12,⟨some 14,.val (.bin .str .eql (.t 13) (.c (.str []))),none⟩]
abbrev g206_3 : IL:=[yf 4]
abbrev g206_4 : IL:=[jb 15 2 5,jc 16 15,ya 17 16 2,ja 18 17,js 19 6 5 18,jw 20 19 18,yr 21 184 20 18,zm 22 21 18,jt 23 18 22,ja 24 23,js 25 1 2 24,jw 26 25 24,⟨some 27,.val (.mkfn (.func 223) [] [(.t 5)]),(some (24,false))⟩,⟨some 28,.callF (.f 220) [(.t 26),(.t 27)],(some (24,false))⟩,jt 29 24 28]
abbrev g206_5 : IL:=[jk 4]
abbrev g206_6 : IL:=[jb 30 1 2,jc 31 30,ja 32 1,zv 33 16 31 32,zr 34 224 5,yq 35 220 33 34,ja 6 35]
abbrev g206_7 : IL:=[ja 36 6,yb 37 36,ja 38 37,js 39 1 2 38,zb 40 0 2 39 38,jv 41 1 38,jab 42 41 1 38,ze 43 16 40 42 38,js 44 6 43 38,zt 45 44 38,js 46 6 5 38,zb 47 0 5 46 38,⟨some 48,.val (.bin .str .eql (.t 45) (.t 47)),(some (38,false))⟩,jt 49 38 48,ja 4 49]
abbrev r206 : RC:=jQ g206_0 (jQ g206_1 (.seq (jQ g206_2 (.cond (.t 14) (jQ g206_3 (.ret)) (.skip))) (.seq (jQ g206_4 (.cond (.t 29) (jQ g206_5 (.ret)) (.skip))) (jQ g206_6 (jD g206_7 (.ret))))))
abbrev o206 : List RR:=[.tmp 4]
theorem k206 : CT 206 50 r206 o206:=ck Tryz.func206 Tryz.ntmps206 (by decide +kernel)
abbrev g207_0 : IL:=[jg 2 2 0,jg 3 3 1,jk 4]
abbrev g207_1 : IL:=[jb 7 7 3,jc 8 7,yb 9 8]
abbrev g207_2 : IL:=[jb 10 8 3,je 11 7 10,jr 12 225 11,ja 4 12]
abbrev g207_3 : IL:=[jb 13 2 3,ye 14 0 3 13,ya 15 14 2,ja 16 15,js 17 6 3 16,zb 18 0 3 17 16,⟨some 19,.val (.bin .str .neq (.t 18) (.c (.str []))),(some (16,false))⟩,jt 20 16 19,ja 21 20,js 22 4 3 21,js 23 0 22 21,zb 24 0 3 23 21,js 25 8 3 21,⟨some 26,.val (.loadv 0 3 (some 7) (.t 25)),(some (21,false))⟩,⟨some 27,.call (.f 195) [(.t 24),(.t 26)],(some (21,false))⟩,zm 28 27 21,jt 29 21 28,ja 30 29,js 31 8 3 30,⟨some 32,.val (.loadv 0 3 (some 7) (.t 31)),(some (30,false))⟩,yr 33 51 32 30,⟨some 34,.val (.fld 1 none (.t 33)),(some (30,false))⟩,js 35 8 3 30,js 36 1 35 30,zb 37 0 3 36 30,jap 38 34 37 30,jt 39 30 38]
abbrev g207_4 : IL:=[jk 4]
abbrev g207_5 : IL:=[jb 40 4 3,jb 41 0 40,jc 42 41,ya 43 42 9]
abbrev g207_6 : IL:=[yf 4]
abbrev g207_7 : IL:=[je 45 3 2,jb 46 4 3,jb 47 1 46,jc 48 47,ju 49 222 45 48,ja 44 49,jy 50 44 0,jy 51 44 1,zz 5 5,jp 5 5 50,ja 6 51]
abbrev g207_8 : IL:=[ja 52 6,ja 53 52,jh 54 2 5 53,jo 55 54 53,⟨some 56,.val (.mkfn (.func 226) [] [(.t 3)]),(some (53,true))⟩,⟨some 57,.callF (.f 142) [(.t 55),(.t 56)],(some (53,true))⟩,ji 58 53 57,ja 4 58]
abbrev r207 : RC:=jQ g207_0 (.seq (jQ g207_1 (.cond (.t 9) (jQ g207_2 (.ret)) (.skip))) (.seq (jD g207_3 (.cond (.t 39) (jQ g207_4 (.ret)) (.skip))) (.seq (jQ g207_5 (.cond (.t 43) (jQ g207_6 (.ret)) (.skip))) (jQ g207_7 (jQ g207_8 (.ret))))))
abbrev o207 : List RR:=[.tmp 4]
theorem k207 : CT 207 59 r207 o207:=ck Tryz.func207 Tryz.ntmps207 (by decide +kernel)
abbrev g209_0 : IL:=[jd 4 0]
abbrev g209_1 : IL:=[ja 9 0,jj 10 1 9,yz 11 10 8]
abbrev g209_2 : IL:=[jd 4 3]
abbrev g209_3 : IL:=[jaa 5]
abbrev g209_4 : IL:=[ja 12 0,jj 13 1 12,jd 14 0]
abbrev g209_5 : IL:=[jn 15 14 13]
abbrev g209_6 : IL:=[ja 16 14,jl 17 8 12 14,je 18 8 17,⟨some 7,.allocN 7 [.str [],.int .i64 0,.int .u64 0,.str [],.nils,.nils,.nils,.nils],none⟩,ja 6 16,jp 8 7 18]
abbrev g209_7 : IL:=[je 19 8 7,ja 20 1,ja 21 5,ja 22 6,yz 23 22 0,zc 24 228 19 20 21 23,ja 8 24]
abbrev g209_8 : IL:=[ja 25 8,ya 26 25 0]
abbrev g209_9 : IL:=[ja 27 8,ja 4 27]
abbrev g209_10 : IL:=[jb 28 0 7,jc 29 28,ja 5 29]
abbrev g209_11 : IL:=[jm 30 14 1,ja 14 30]
abbrev l209_0 : RC:=.gho (.drop 7) (jQ g209_5 (.seq (jX 15 0) (.seq (.block 1 (jQ g209_6 (.seq (jQ g209_7 (jQ g209_8 (.cond (.t 26) (jQ g209_9 (.ret)) (.skip)))) (.reg g209_10)))) (.reg g209_11))))
abbrev g209_12 : IL:=[jd 4 0]
abbrev r209 : RC:=jQ g209_0 (.seq (jQ g209_1 (.cond (.t 11) (jQ g209_2 (.ret)) (.skip))) (jQ g209_3 (.seq (jQ g209_4 (.block 0 (.loop l209_0))) (jQ g209_12 (.ret)))))
abbrev o209 : List RR:=[.tmp 4]
theorem k209 : CT 209 31 r209 o209:=ck Tryz.func209 Tryz.ntmps209 (by decide +kernel)
abbrev g211_0 : IL:=[jk 2]
abbrev g211_1 : IL:=[ja 6 0,⟨some 7,.rngs 7 (.t 6),none⟩]
abbrev g211_2 : IL:=[⟨some 8,.nxts (.t 7),none⟩,jy 9 8 0]
abbrev g211_3 : IL:=[jy 10 8 1,jy 11 8 2,ja 3 10,ja 4 11]
abbrev g211_4 : IL:=[ja 12 4,jr 13 229 12,ja 5 13]
abbrev g211_5 : IL:=[ja 14 5,jq 15 14 0,ja 16 15,jv 17 3 16,yo 18 17 0 16,jv 19 18 16,jf 20 5 19,zl 21 20 1 19,yu 22 19 21 16,jv 23 22 16,jf 24 5 23,zl 25 24 2 23,yu 26 23 25 16,jt 27 16 26]
abbrev g211_6 : IL:=[jk 2]
abbrev l211_0 : RC:=jQ g211_2 (.seq (jX 9 0) (.block 1 (jQ g211_3 (jQ g211_4 (jQ g211_5 (.cond (.t 27) (jQ g211_6 (.ret)) (.skip)))))))
abbrev g211_7 : IL:=[ja 28 0,jj 29 0 28,yn 30 29 1,ja 31 30,jf 32 0 31,yc 33 0 32 31,yj 34 33 40 31,ji 35 31 34,ja 2 35]
abbrev r211 : RC:=jQ g211_0 (.seq (jQ g211_1 (.block 0 (.loop l211_0))) (jQ g211_7 (.ret)))
abbrev o211 : List RR:=[.tmp 2]
theorem k211 : CT 211 36 r211 o211:=ck Tryz.func211 Tryz.ntmps211 (by decide +kernel)
abbrev g213_0 : IL:=[jk 4]
abbrev g213_1 : IL:=[ja 5 0,ja 6 1,yq 7 230 5 6,yn 8 7 0,ja 4 8]
abbrev r213 : RC:=jQ g213_0 (jQ g213_1 (.ret))
abbrev o213 : List RR:=[.tmp 4]
theorem k213 : CT 213 9 r213 o213:=ck Tryz.func213 Tryz.ntmps213 (by decide +kernel)
abbrev g219_0 : IL:=[yi 8]
abbrev g219_1 : IL:=[ja 12 3,jq 13 12 0]
abbrev g219_2 : IL:=[yi 8]
abbrev g219_3 : IL:=[ja 14 1,⟨some 15,.val (.bin .str .eql (.t 14) (.c (.str []))),none⟩]
abbrev g219_4 : IL:=[ja 16 0,ja 17 3,ju 18 231 16 17,ja 8 18]
abbrev g219_5 : IL:=[ja 19 3,ys 20 19 0]
abbrev g219_6 : IL:=[ja 21 0,ja 22 1,ju 23 232 21 22,jm 24 23 1,ja 3 24]
abbrev g219_7 : IL:=[ja 25 3,ja 26 0,jj 27 0 26,jm 28 27 1,⟨some 29,.val (.mnx false (.t 25) (.t 28)),none⟩,ja 3 29]
abbrev g219_8 : IL:=[ja 30 3,⟨some 31,.mk 31 9 1 16 [.str []] (.t 30) (.t 30),none⟩,ja 9 31]
abbrev g219_9 : IL:=[ja 32 3,jan 33 32 1,ja 3 33]
abbrev g219_10 : IL:=[jd 10 0]
abbrev g219_11 : IL:=[ja 34 10,ja 35 3,jn 36 34 35]
abbrev g219_12 : IL:=[ja 37 0,ja 38 1,ju 39 233 37 38,ja 11 39]
abbrev g219_13 : IL:=[ja 40 11,ys 41 40 0]
abbrev g219_14 : IL:=[ja 42 9,ja 43 10,ja 44 0,ja 45 11,ja 46 2,zi 47 45 46,⟨some 48,.val (.slc none (.t 44) none (some (.t 47)) none),none⟩,jl 49 1 42 43,jp 1 49 48]
abbrev g219_15 : IL:=[ja 50 0,ja 51 11,ja 52 1,jj 53 0 52,zi 54 51 53,⟨some 55,.val (.slc none (.t 50) (some (.t 54)) none none),none⟩,ja 0 55]
abbrev g219_16 : IL:=[ja 56 10,jm 57 56 1,ja 10 57]
abbrev l219_0 : RC:=.seq (jQ g219_11 (jX 36 0)) (.block 1 (jQ g219_12 (.seq (jQ g219_13 (.cond (.t 41) (.exit 0) (.skip))) (jQ g219_14 (jQ g219_15 (.reg g219_16))))))
abbrev g219_17 : IL:=[ja 58 9,ja 59 10,ja 60 0,jl 61 1 58 59,jp 1 61 60]
abbrev g219_18 : IL:=[ja 62 9,ja 63 10,jm 64 63 1,zv 65 1 62 64,ja 8 65]
abbrev r219 : RC:=jQ g219_0 (.seq (jQ g219_1 (.cond (.t 13) (jQ g219_2 (.ret)) (.skip))) (.seq (jQ g219_3 (.cond (.t 15) (jQ g219_4 (.ret)) (.skip))) (.seq (jQ g219_5 (.cond (.t 20) (.reg g219_6) (.skip))) (jQ g219_7 (jQ g219_8 (jQ g219_9 (jQ g219_10 (.seq (.block 0 (.loop l219_0)) (jQ g219_17 (jQ g219_18 (.ret)))))))))))
abbrev o219 : List RR:=[.tmp 8]
theorem k219 : CT 219 66 r219 o219:=ck Tryz.func219 Tryz.ntmps219 (by decide +kernel)
abbrev g220_0 : IL:=[jk 4]
abbrev g220_1 : IL:=[ja 5 0,ja 6 1,yq 7 234 5 6,yn 8 7 0,ja 4 8]
abbrev r220 : RC:=jQ g220_0 (jQ g220_1 (.ret))
abbrev o220 : List RR:=[.tmp 4]
theorem k220 : CT 220 9 r220 o220:=ck Tryz.func220 Tryz.ntmps220 (by decide +kernel)
abbrev g225_0 : IL:=[jg 1 1 0,jk 2]
abbrev g225_1 : IL:=[jb 3 0 1,jc 4 3,jq 5 4 0,ja 6 5,jh 7 1 1 6,jo 8 7 6,⟨some 9,.val (.bin .num .eql (.t 8) (.c (.int .u64 0))),(some (6,true))⟩,ji 10 6 9,ja 11 10,jh 12 2 1 11,jo 13 12 11,⟨some 14,.val (.bin .str .eql (.t 13) (.c (.str []))),(some (11,true))⟩,ji 15 11 14,ja 16 15,jh 17 3 1 16,jo 18 17 16,yc 19 1 18 16,jh 20 4 1 16,jo 21 20 16,yc 22 1 21 16,⟨some 23,.val (.bin .num .add (.t 19) (.t 22)),(some (16,true))⟩,jh 24 5 1 16,jo 25 24 16,yc 26 1 25 16,⟨some 27,.val (.bin .num .add (.t 23) (.t 26)),(some (16,true))⟩,jh 28 6 1 16,jo 29 28 16,yc 30 1 29 16,⟨some 31,.val (.bin .num .add (.t 27) (.t 30)),(some (16,true))⟩,yh 32 31 0 16,ji 33 16 32,ja 2 33]
abbrev r225 : RC:=jQ g225_0 (jQ g225_1 (.ret))
abbrev o225 : List RR:=[.tmp 2]
theorem k225 : CT 225 34 r225 o225:=ck Tryz.func225 Tryz.ntmps225 (by decide +kernel)
abbrev g229_0 : IL:=[jd 2 0]
abbrev g229_1 : IL:=[ja 4 0,⟨some 5,.val (.bin .num .geq (.t 4) (.c (.int .i32 97))),none⟩,ja 6 5,jf 7 0 6,⟨some 8,.val (.bin .num .leq (.t 7) (.c (.int .i32 122))),(some (6,true))⟩,ji 9 6 8,ja 3 9]
abbrev g229_2 : IL:=[jd 2 1]
abbrev g229_3 : IL:=[ja 11 0,⟨some 12,.val (.bin .num .geq (.t 11) (.c (.int .i32 65))),none⟩,ja 13 12,jf 14 0 13,⟨some 15,.val (.bin .num .leq (.t 14) (.c (.int .i32 90))),(some (13,true))⟩,ji 16 13 15,ja 10 16]
abbrev g229_4 : IL:=[jd 2 2]
abbrev g229_5 : IL:=[ja 18 0,⟨some 19,.val (.bin .num .geq (.t 18) (.c (.int .i32 48))),none⟩,ja 20 19,jf 21 0 20,⟨some 22,.val (.bin .num .leq (.t 21) (.c (.int .i32 57))),(some (20,true))⟩,ji 23 20 22,ja 17 23]
abbrev g229_6 : IL:=[jd 2 3]
abbrev g229_7 : IL:=[ja 25 0,⟨some 26,.val (.bin .num .eql (.t 25) (.c (.int .i32 95))),none⟩,ja 24 26]
abbrev g229_8 : IL:=[jd 2 4]
abbrev g229_9 : IL:=[jd 2 0]
abbrev r229 : RC:=jQ g229_0 (.seq (.block 0 (jQ g229_1 (.cond (.t 3) (jQ g229_2 (.ret)) (jQ g229_3 (.cond (.t 10) (jQ g229_4 (.ret)) (jQ g229_5 (.cond (.t 17) (jQ g229_6 (.ret)) (jQ g229_7 (.cond (.t 24) (jQ g229_8 (.ret)) (.skip)))))))))) (jQ g229_9 (.ret)))
abbrev o229 : List RR:=[.tmp 2]
theorem k229 : CT 229 27 r229 o229:=ck Tryz.func229 Tryz.ntmps229 (by decide +kernel)
abbrev g230_0 : IL:=[jd 4 0]
abbrev g230_1 : IL:=[ja 6 0,jj 7 1 6,jd 8 0]
abbrev g230_2 : IL:=[jn 9 8 7]
abbrev g230_3 : IL:=[ja 10 8,ja 5 10]
abbrev g230_4 : IL:=[ja 11 1,ja 12 0,ja 13 5,jl 14 2 12 13,je 15 2 14,zs 16 11 15]
abbrev g230_5 : IL:=[ja 17 5,ja 4 17]
abbrev g230_6 : IL:=[jm 18 8 1,ja 8 18]
abbrev l230_0 : RC:=jQ g230_2 (.seq (jX 9 0) (.seq (.block 1 (jQ g230_3 (jQ g230_4 (.cond (.t 16) (jQ g230_5 (.ret)) (.skip))))) (.reg g230_6)))
abbrev g230_7 : IL:=[jd 4 (-1)]
abbrev r230 : RC:=jQ g230_0 (.seq (jQ g230_1 (.block 0 (.loop l230_0))) (jQ g230_7 (.ret)))
abbrev o230 : List RR:=[.tmp 4]
theorem k230 : CT 230 19 r230 o230:=ck Tryz.func230 Tryz.ntmps230 (by decide +kernel)
abbrev g232_0 : IL:=[jd 4 0]
abbrev g232_1 : IL:=[ja 7 1,jj 8 0 7,jq 9 8 0]
abbrev g232_2 : IL:=[ja 10 0,jr 11 239 10,jm 12 11 1,ja 4 12]
abbrev g232_3 : IL:=[ja 13 1,jj 14 0 13,jq 15 14 1]
abbrev g232_4 : IL:=[ja 16 0,ja 17 1,⟨some 18,.val (.idx (.t 17) (.c (.int .i64 0))),none⟩,⟨some 19,.xb true 241 (.t 16) (.t 18),none⟩,ja 4 19]
abbrev g232_5 : IL:=[jd 5 0]
abbrev g232_6 : IL:=[ja 20 0,ja 21 1,ju 22 233 20 21,ja 6 22]
abbrev g232_7 : IL:=[ja 23 6,jq 24 23 (-1)]
abbrev g232_8 : IL:=[ja 25 5,ja 4 25]
abbrev g232_9 : IL:=[ja 26 5,jm 27 26 1,ja 5 27]
abbrev g232_10 : IL:=[ja 28 0,ja 29 6,ja 30 1,jj 31 0 30,zi 32 29 31,⟨some 33,.val (.slc none (.t 28) (some (.t 32)) none none),none⟩,ja 0 33]
abbrev l232_0 : RC:=.block 1 (jQ g232_6 (.seq (jQ g232_7 (.cond (.t 24) (jQ g232_8 (.ret)) (.skip))) (jQ g232_9 (.reg g232_10))))
abbrev r232 : RC:=jQ g232_0 (.seq (jQ g232_1 (.cond (.t 9) (jQ g232_2 (.ret)) (.skip))) (.seq (jQ g232_3 (.cond (.t 15) (jQ g232_4 (.ret)) (.skip))) (jQ g232_5 (.block 0 (.loop l232_0)))))
abbrev o232 : List RR:=[.tmp 4]
theorem k232 : CT 232 34 r232 o232:=ck Tryz.func232 Tryz.ntmps232 (by decide +kernel)
abbrev g234_0 : IL:=[jd 4 0]
abbrev g234_1 : IL:=[ja 6 0,jj 7 1 6,jd 8 0]
abbrev g234_2 : IL:=[jn 9 8 7]
abbrev g234_3 : IL:=[ja 10 8,ja 5 10]
abbrev g234_4 : IL:=[ja 11 1,ja 12 0,ja 13 5,jl 14 16 12 13,je 15 16 14,zs 16 11 15]
abbrev g234_5 : IL:=[ja 17 5,ja 4 17]
abbrev g234_6 : IL:=[jm 18 8 1,ja 8 18]
abbrev l234_0 : RC:=jQ g234_2 (.seq (jX 9 0) (.seq (.block 1 (jQ g234_3 (jQ g234_4 (.cond (.t 16) (jQ g234_5 (.ret)) (.skip))))) (.reg g234_6)))
abbrev g234_7 : IL:=[jd 4 (-1)]
abbrev r234 : RC:=jQ g234_0 (.seq (jQ g234_1 (.block 0 (.loop l234_0))) (jQ g234_7 (.ret)))
abbrev o234 : List RR:=[.tmp 4]
theorem k234 : CT 234 19 r234 o234:=ck Tryz.func234 Tryz.ntmps234 (by decide +kernel)
abbrev g160_0 : IL:=[jd 2 0]
abbrev g160_1 : IL:=[jd 3 0]
abbrev g160_2 : IL:=[ja 5 3,ja 6 0,jj 7 0 6,jn 8 5 7]
abbrev g160_3 : IL:=[ja 9 0,ja 10 3,ju 11 190 9 10,ja 4 11]
abbrev g160_4 : IL:=[ja 12 4,jq 13 12 0]
abbrev g160_5 : IL:=[ja 14 3,ja 2 14]
abbrev g160_6 : IL:=[ja 15 3,ja 16 4,zi 17 15 16,ja 3 17]
abbrev l160_0 : RC:=.seq (jQ g160_2 (jX 8 0)) (.block 1 (jQ g160_3 (.seq (jQ g160_4 (.cond (.t 13) (jQ g160_5 (.ret)) (.skip))) (.reg g160_6))))
abbrev g160_7 : IL:=[jd 2 (-1)]
abbrev r160 : RC:=jQ g160_0 (.seq (jQ g160_1 (.block 0 (.loop l160_0))) (jQ g160_7 (.ret)))
abbrev o160 : List RR:=[.tmp 2]
theorem k160 : CT 160 18 r160 o160:=ck Tryz.func160 Tryz.ntmps160 (by decide +kernel)
def g190_0 : IL:=[jd 4 0]
def g190_1 : IL:=[ja 6 0,ja 7 1,⟨some 8,.val (.idx (.t 6) (.t 7)),none⟩,ja 5 8]
def g190_2 : IL:=[ja 10 5,⟨some 11,.val (.bin .num .lss (.t 10) (.c (.int .u8 128))),none⟩,ja 9 11]
def g190_3 : IL:=[jd 4 1]
def g190_4 : IL:=[ja 13 5,jaq 14 13 194,ja 15 14,jf 16 5 15,jar 17 16 223 15,ji 18 15 17,ja 19 18,jf 20 0 19,jf 21 1 19,zn 22 21 1 19,jac 23 215 20 22 1 19,ji 24 19 23,ja 12 24]
def g190_5 : IL:=[jd 4 2]
def g190_6 : IL:=[ja 26 5,jas 27 26 224,ja 28 27,jf 29 0 28,jf 30 1 28,zn 31 30 1 28,⟨some 32,.call (.f 216) [(.t 29),(.t 31),(.c (.int .u8 160)),(.c (.int .u8 191))],(some (28,true))⟩,ji 33 28 32,ja 34 33,jf 35 0 34,jf 36 1 34,zn 37 36 2 34,jac 38 215 35 37 1 34,ji 39 34 38,ja 25 39]
def g190_7 : IL:=[jd 4 3]
def g190_8 : IL:=[ja 41 5,jas 42 41 237,ja 43 42,jf 44 0 43,jf 45 1 43,zn 46 45 1 43,⟨some 47,.call (.f 216) [(.t 44),(.t 46),(.c (.int .u8 128)),(.c (.int .u8 159))],(some (43,true))⟩,ji 48 43 47,ja 49 48,jf 50 0 49,jf 51 1 49,zn 52 51 2 49,jac 53 215 50 52 1 49,ji 54 49 53,ja 40 54]
def g190_9 : IL:=[jd 4 3]
def g190_10 : IL:=[ja 56 5,jaq 57 56 225,ja 58 57,jf 59 5 58,jar 60 59 239 58,ji 61 58 60,ja 62 61,jf 63 5 62,⟨some 64,.val (.bin .num .neq (.t 63) (.c (.int .u8 237))),(some (62,true))⟩,ji 65 62 64,ja 66 65,jf 67 0 66,jf 68 1 66,zn 69 68 1 66,jac 70 215 67 69 2 66,ji 71 66 70,ja 55 71]
def g190_11 : IL:=[jd 4 3]
def g190_12 : IL:=[ja 73 5,jas 74 73 240,ja 75 74,jf 76 0 75,jf 77 1 75,zn 78 77 1 75,⟨some 79,.call (.f 216) [(.t 76),(.t 78),(.c (.int .u8 144)),(.c (.int .u8 191))],(some (75,true))⟩,ji 80 75 79,ja 81 80,jf 82 0 81,jf 83 1 81,zn 84 83 2 81,jac 85 215 82 84 2 81,ji 86 81 85,ja 72 86]
def g190_13 : IL:=[jd 4 4]
def g190_14 : IL:=[ja 88 5,jaq 89 88 241,ja 90 89,jf 91 5 90,jar 92 91 243 90,ji 93 90 92,ja 94 93,jf 95 0 94,jf 96 1 94,zn 97 96 1 94,jac 98 215 95 97 3 94,ji 99 94 98,ja 87 99]
def g190_15 : IL:=[jd 4 4]
def g190_16 : IL:=[ja 101 5,jas 102 101 244,ja 103 102,jf 104 0 103,jf 105 1 103,zn 106 105 1 103,⟨some 107,.call (.f 216) [(.t 104),(.t 106),(.c (.int .u8 128)),(.c (.int .u8 143))],(some (103,true))⟩,ji 108 103 107,ja 109 108,jf 110 0 109,jf 111 1 109,zn 112 111 2 109,jac 113 215 110 112 2 109,ji 114 109 113,ja 100 114]
def g190_17 : IL:=[jd 4 4]
def g190_18 : IL:=[jd 4 0]
def r190 : RC:=jQ g190_0 (jQ g190_1 (.seq (.block 0 (jQ g190_2 (.cond (.t 9) (jQ g190_3 (.ret)) (jQ g190_4 (.cond (.t 12) (jQ g190_5 (.ret)) (jQ g190_6 (.cond (.t 25) (jQ g190_7 (.ret)) (jQ g190_8 (.cond (.t 40) (jQ g190_9 (.ret)) (jQ g190_10 (.cond (.t 55) (jQ g190_11 (.ret)) (jQ g190_12 (.cond (.t 72) (jQ g190_13 (.ret)) (jQ g190_14 (.cond (.t 87) (jQ g190_15 (.ret)) (jQ g190_16 (.cond (.t 100) (jQ g190_17 (.ret)) (.skip)))))))))))))))))) (jQ g190_18 (.ret))))
def o190 : List RR:=[.tmp 4]
theorem k190 : CT 190 115 r190 o190:=ck Tryz.func190 Tryz.ntmps190 (by decide +kernel)
abbrev g119_0 : IL:=[jk 2]
abbrev g119_1 : IL:=[ja 3 0,jr 4 160 3,ys 5 4 0,ja 2 5]
abbrev r119 : RC:=jQ g119_0 (jQ g119_1 (.ret))
abbrev o119 : List RR:=[.tmp 2]
theorem k119 : CT 119 6 r119 o119:=ck Tryz.func119 Tryz.ntmps119 (by decide +kernel)
abbrev g216_0 : IL:=[jk 8]
abbrev g216_1 : IL:=[ja 9 1,ja 10 0,jj 11 0 10,jn 12 9 11,ja 13 12,jf 14 0 13,jf 15 1 13,jat 16 14 15 13,jf 17 2 13,⟨some 18,.val (.bin .num .geq (.t 16) (.t 17)),(some (13,true))⟩,ji 19 13 18,ja 20 19,jf 21 0 20,jf 22 1 20,jat 23 21 22 20,jf 24 3 20,jao 25 23 24 20,ji 26 20 25,ja 8 26]
abbrev r216 : RC:=jQ g216_0 (jQ g216_1 (.ret))
abbrev o216 : List RR:=[.tmp 8]
theorem k216 : CT 216 27 r216 o216:=ck Tryz.func216 Tryz.ntmps216 (by decide +kernel)
abbrev g215_0 : IL:=[jk 6]
abbrev g215_1 : IL:=[jd 7 0]
abbrev g215_2 : IL:=[ja 8 7,ja 9 2,jn 10 8 9]
abbrev g215_4 : IL:=[ja 13 0,ja 14 1,ja 15 7,zi 16 14 15,⟨some 17,.call (.f 216) [(.t 13),(.t 16),(.c (.int .u8 128)),(.c (.int .u8 191))],none⟩,yb 18 17]
abbrev g215_5 : IL:=[jk 6]
abbrev g215_3 : IL:=[ja 11 7,jm 12 11 1,ja 7 12]
abbrev l215_0 : RC:=.seq (jQ g215_2 (jX 10 0)) (.seq (.block 1 (jQ g215_4 (.cond (.t 18) (jQ g215_5 (.ret)) (.skip)))) (.reg g215_3))
abbrev g215_6 : IL:=[yf 6]
abbrev r215 : RC:=jQ g215_0 (.seq (jQ g215_1 (.block 0 (.loop l215_0))) (jQ g215_6 (.ret)))
abbrev o215 : List RR:=[.tmp 6]
theorem k215 : CT 215 19 r215 o215:=ck Tryz.func215 Tryz.ntmps215 (by decide +kernel)
abbrev g159_0 : IL:=[jg 3 3 1,jk 4]
abbrev g159_1 : IL:=[ja 6 0,jr 7 98 6,yb 8 7,ja 9 8,js 10 0 3 9,jw 11 10 9,jv 12 0 9,jap 13 11 12 9,jt 14 9 13,ja 15 14,yx 16 7 3 15,yr 17 99 16 15,zm 18 17 15,jt 19 15 18]
abbrev g159_2 : IL:=[jk 4]
abbrev g159_3 : IL:=[ja 20 0,jr 21 138 20]
abbrev g159_4 : IL:=[jb 22 1 3,jc 23 22,zw 24 23 0,ja 25 24,jh 26 2 3 25,jo 27 26 25,yc 28 0 27 25,yj 29 28 4096 25,ji 30 25 29,ja 31 30,jf 32 0 31,yh 33 32 8 31,jf 34 33 31,js 35 2 3 34,jw 36 35 34,yr 37 119 36 34,yw 38 34 37 31,ji 39 31 38,ja 4 39]
abbrev g159_5 : IL:=[jb 40 2 3,jc 41 40,⟨some 42,.val (.bin .str .neq (.t 41) (.c (.str []))),none⟩]
abbrev g159_6 : IL:=[jk 4]
abbrev g159_7 : IL:=[ja 43 0]
abbrev g159_8 : IL:=[jq 45 43 1,ja 44 45]
abbrev g159_9 : IL:=[jb 46 1 3,jc 47 46,⟨some 48,.val (.bin .num .leq (.t 47) (.c (.int .u64 1))),none⟩,ja 4 48]
abbrev g159_10 : IL:=[jq 50 43 2,ja 49 50]
abbrev g159_11 : IL:=[jb 51 1 3,jc 52 51,⟨some 53,.val (.cvi .i64 (.t 52)),none⟩,ja 5 53]
abbrev g159_12 : IL:=[ja 54 5,yn 55 54 (-2147483648),ja 56 55,jf 57 5 56,yj 58 57 2147483647 56,ji 59 56 58,ja 4 59]
abbrev g159_13 : IL:=[jq 61 43 4,ja 60 61]
abbrev g159_14 : IL:=[jb 62 1 3,jc 63 62,⟨some 64,.val (.bin .num .lss (.t 63) (.c (.int .u64 4294967296))),none⟩,ja 4 64]
abbrev g159_15 : IL:=[jq 66 43 9,ja 65 66]
abbrev g159_16 : IL:=[jb 67 1 3,jc 68 67,⟨some 69,.val (.bin .num .lss (.t 68) (.c (.int .u64 2147483648))),none⟩,ja 4 69]
abbrev g159_17 : IL:=[yf 4]
abbrev r159 : RC:=jQ g159_0 (.seq (jQ g159_1 (.cond (.t 19) (jQ g159_2 (.ret)) (.skip))) (.seq (jQ g159_3 (.cond (.t 21) (jQ g159_4 (.ret)) (.skip))) (.seq (jQ g159_5 (.cond (.t 42) (jQ g159_6 (.ret)) (.skip))) (.seq (jQ g159_7 (.block 0 (jQ g159_8 (.cond (.t 44) (jQ g159_9 (.ret)) (jQ g159_10 (.cond (.t 49) (jQ g159_11 (jQ g159_12 (.ret))) (jQ g159_13 (.cond (.t 60) (jQ g159_14 (.ret)) (jQ g159_15 (.cond (.t 65) (jQ g159_16 (.ret)) (.skip))))))))))) (jQ g159_17 (.ret))))))
abbrev o159 : List RR:=[.tmp 4]
theorem k159 : CT 159 70 r159 o159:=ck Tryz.func159 Tryz.ntmps159 (by decide +kernel)
abbrev g98_0 : IL:=[jk 2]
abbrev g98_1 : IL:=[ja 3 0,yn 4 3 1,ja 5 4,jf 6 0 5,yj 7 6 9 5,ji 8 5 7,ja 2 8]
abbrev r98 : RC:=jQ g98_0 (jQ g98_1 (.ret))
abbrev o98 : List RR:=[.tmp 2]
theorem k98 : CT 98 9 r98 o98:=ck Tryz.func98 Tryz.ntmps98 (by decide +kernel)
abbrev g99_0 : IL:=[jg 1 1 0,jk 2]
abbrev g99_1 : IL:=[jb 3 3 1,jc 4 3,jj 5 1 4,jq 6 5 0,ja 7 6,jh 8 4 1 7,jo 9 8 7,yc 10 1 9 7,yh 11 10 0 7,ji 12 7 11,ja 13 12,jh 14 5 1 13,jo 15 14 13,yc 16 1 15 13,yh 17 16 0 13,ji 18 13 17,ja 19 18,jh 20 6 1 19,jo 21 20 19,yc 22 1 21 19,yh 23 22 0 19,ji 24 19 23,ja 2 24]
abbrev r99 : RC:=jQ g99_0 (jQ g99_1 (.ret))
abbrev o99 : List RR:=[.tmp 2]
theorem k99 : CT 99 25 r99 o99:=ck Tryz.func99 Tryz.ntmps99 (by decide +kernel)
abbrev g138_0 : IL:=[jk 2]
abbrev g138_1 : IL:=[ja 3 0,jq 4 3 7,ja 5 4,jv 6 0 5,yo 7 6 8 5,jt 8 5 7,ja 2 8]
abbrev r138 : RC:=jQ g138_0 (jQ g138_1 (.ret))
abbrev o138 : List RR:=[.tmp 2]
theorem k138 : CT 138 9 r138 o138:=ck Tryz.func138 Tryz.ntmps138 (by decide +kernel)
abbrev g112_0 : IL:=[jk 2]
abbrev g112_1 : IL:=[ja 5 0,jj 6 0 5,yz 7 6 120]
abbrev g112_2 : IL:=[jk 2]
abbrev g112_3 : IL:=[jaa 3]
abbrev g112_4 : IL:=[jd 4 0]
abbrev g112_5 : IL:=[ja 8 4,ja 9 0,jj 10 0 9,jn 11 8 10]
abbrev g112_7 : IL:=[ja 14 0,ja 15 4,⟨some 16,.val (.idx (.t 14) (.t 15)),none⟩,⟨some 17,.val (.bin .num .neq (.t 16) (.c (.int .u8 46))),none⟩]
abbrev g112_8 : IL:=[ja 18 3,ja 19 0,ja 20 4,ja 21 4,jm 22 21 1,⟨some 23,.val (.slc none (.t 19) (some (.t 20)) (some (.t 22)) none),none⟩,⟨some 24,.val (.bin .str .add (.t 18) (.t 23)),none⟩,ja 3 24]
abbrev g112_9 : IL:=[ja 25 3,jr 26 115 25,yb 27 26]
abbrev g112_10 : IL:=[jk 2]
abbrev g112_11 : IL:=[jaa 3]
abbrev g112_6 : IL:=[ja 12 4,jm 13 12 1,ja 4 13]
abbrev l112_0 : RC:=.seq (jQ g112_5 (jX 11 0)) (.seq (.block 1 (.seq (jQ g112_7 (.cond (.t 17) (jQ g112_8 (.exit 1)) (.skip))) (.seq (jQ g112_9 (.cond (.t 27) (jQ g112_10 (.ret)) (.skip))) (.reg g112_11)))) (.reg g112_6))
abbrev g112_12 : IL:=[ja 28 3,jr 29 115 28,ja 2 29]
abbrev r112 : RC:=jQ g112_0 (.seq (jQ g112_1 (.cond (.t 7) (jQ g112_2 (.ret)) (.skip))) (jQ g112_3 (.seq (jQ g112_4 (.block 0 (.loop l112_0))) (jQ g112_12 (.ret)))))
abbrev o112 : List RR:=[.tmp 2]
theorem k112 : CT 112 30 r112 o112:=ck Tryz.func112 Tryz.ntmps112 (by decide +kernel)
abbrev g115_0 : IL:=[jk 2]
abbrev g115_1 : IL:=[ja 4 0,jj 5 0 4,jq 6 5 0,ja 7 6,jv 8 0 7,yy 9 0 8 7,zf 10 9 40 7,jt 11 7 10,ja 12 11,jv 13 0 12,⟨some 14,.val (.idx (.t 13) (.c (.int .i64 0))),(some (12,false))⟩,yr 15 157 14 12,zm 16 15 12,jv 17 16 12,jf 18 0 17,⟨some 19,.val (.idx (.t 18) (.c (.int .i64 0))),(some (17,true))⟩,yv 20 158 19 17,ym 21 20 17,yu 22 17 21 12,jt 23 12 22]
abbrev g115_2 : IL:=[jk 2]
abbrev g115_3 : IL:=[jd 3 1]
abbrev g115_4 : IL:=[ja 24 3,ja 25 0,jj 26 0 25,jn 27 24 26]
abbrev g115_6 : IL:=[ja 30 0,ja 31 3,⟨some 32,.val (.idx (.t 30) (.t 31)),none⟩,jr 33 157 32,yb 34 33,ja 35 34,jf 36 0 35,jf 37 3 35,jat 38 36 37 35,yv 39 158 38 35,ym 40 39 35,ji 41 35 40,ja 42 41,jf 43 0 42,jf 44 3 42,jat 45 43 44 42,⟨some 46,.val (.bin .num .neq (.t 45) (.c (.int .u8 95))),(some (42,true))⟩,ji 47 42 46,ja 48 47,jf 49 0 48,jf 50 3 48,jat 51 49 50 48,⟨some 52,.val (.bin .num .lss (.t 51) (.c (.int .u8 48))),(some (48,true))⟩,jf 53 52 48,jv 54 0 53,jv 55 3 53,⟨some 56,.val (.idx (.t 54) (.t 55)),(some (53,false))⟩,⟨some 57,.val (.bin .num .gtr (.t 56) (.c (.int .u8 57))),(some (53,false))⟩,yw 58 53 57 48,ji 59 48 58]
abbrev g115_7 : IL:=[jk 2]
abbrev g115_5 : IL:=[ja 28 3,jm 29 28 1,ja 3 29]
abbrev l115_0 : RC:=.seq (jQ g115_4 (jX 27 0)) (.seq (.block 1 (jQ g115_6 (.cond (.t 59) (jQ g115_7 (.ret)) (.skip)))) (.reg g115_5))
abbrev g115_8 : IL:=[yf 2]
abbrev r115 : RC:=jQ g115_0 (.seq (jQ g115_1 (.cond (.t 23) (jQ g115_2 (.ret)) (.skip))) (.seq (jQ g115_3 (.block 0 (.loop l115_0))) (jQ g115_8 (.ret))))
abbrev o115 : List RR:=[.tmp 2]
theorem k115 : CT 115 60 r115 o115:=ck Tryz.func115 Tryz.ntmps115 (by decide +kernel)
abbrev g114_0 : IL:=[jk 2]
abbrev g114_1 : IL:=[ja 3 0]
abbrev g114_2 : IL:=[⟨some 5,.val (.bin .str .eql (.t 3) (.c (.str [109,101,115,115,97,103,101]))),none⟩,ja 4 5]
abbrev g114_3 : IL:=[⟨some 6,.val (.bin .str .eql (.t 3) (.c (.str [101,110,117,109]))),none⟩,ja 4 6]
abbrev g114_4 : IL:=[⟨some 7,.val (.bin .str .eql (.t 3) (.c (.str [115,101,114,118,105,99,101]))),none⟩,ja 4 7]
abbrev g114_5 : IL:=[⟨some 8,.val (.bin .str .eql (.t 3) (.c (.str [117,110,105,111,110]))),none⟩,ja 4 8]
abbrev g114_6 : IL:=[⟨some 9,.val (.bin .str .eql (.t 3) (.c (.str [109,97,112]))),none⟩,ja 4 9]
abbrev g114_7 : IL:=[⟨some 10,.val (.bin .str .eql (.t 3) (.c (.str [108,105,115,116]))),none⟩,ja 4 10]
abbrev g114_8 : IL:=[⟨some 11,.val (.bin .str .eql (.t 3) (.c (.str [114,101,113,117,105,114,101,100]))),none⟩,ja 4 11]
abbrev g114_9 : IL:=[⟨some 12,.val (.bin .str .eql (.t 3) (.c (.str [111,112,116,105,111,110,97,108]))),none⟩,ja 4 12]
abbrev g114_10 : IL:=[⟨some 13,.val (.bin .str .eql (.t 3) (.c (.str [112,108,97,105,110]))),none⟩,ja 4 13]
abbrev g114_11 : IL:=[⟨some 14,.val (.bin .str .eql (.t 3) (.c (.str [100,101,102,97,117,108,116]))),none⟩,ja 4 14]
abbrev g114_12 : IL:=[⟨some 15,.val (.bin .str .eql (.t 3) (.c (.str [114,101,115,101,114,118,101,100]))),none⟩,ja 4 15]
abbrev g114_13 : IL:=[⟨some 16,.val (.bin .str .eql (.t 3) (.c (.str [105,109,112,111,114,116]))),none⟩,ja 4 16]
abbrev g114_14 : IL:=[⟨some 17,.val (.bin .str .eql (.t 3) (.c (.str [115,112,97,99,101]))),none⟩,ja 4 17]
abbrev g114_15 : IL:=[⟨some 18,.val (.bin .str .eql (.t 3) (.c (.str [114,112,99]))),none⟩,ja 4 18]
abbrev g114_16 : IL:=[⟨some 19,.val (.bin .str .eql (.t 3) (.c (.str [115,116,114,101,97,109]))),none⟩,ja 4 19]
abbrev g114_17 : IL:=[⟨some 20,.val (.bin .str .eql (.t 3) (.c (.str [114,101,116,117,114,110,115]))),none⟩,ja 4 20]
abbrev g114_18 : IL:=[⟨some 21,.val (.bin .str .eql (.t 3) (.c (.str [111,112,101,110]))),none⟩,ja 4 21]
abbrev g114_19 : IL:=[⟨some 22,.val (.bin .str .eql (.t 3) (.c (.str [116,114,117,101]))),none⟩,ja 4 22]
abbrev g114_20 : IL:=[⟨some 23,.val (.bin .str .eql (.t 3) (.c (.str [102,97,108,115,101]))),none⟩,ja 4 23]
abbrev g114_21 : IL:=[⟨some 24,.val (.bin .str .eql (.t 3) (.c (.str [110,97,110]))),none⟩,ja 4 24]
abbrev g114_22 : IL:=[⟨some 25,.val (.bin .str .eql (.t 3) (.c (.str [105,110,102]))),none⟩,ja 4 25]
abbrev g114_23 : IL:=[yf 2]
abbrev g114_24 : IL:=[jk 2]
abbrev r114 : RC:=jQ g114_0 (.seq (jQ g114_1 (.block 0 (.seq (jQ g114_2 (.cond (.t 4) (.skip) (jQ g114_3 (.cond (.t 4) (.skip) (jQ g114_4 (.cond (.t 4) (.skip) (jQ g114_5 (.cond (.t 4) (.skip) (jQ g114_6 (.cond (.t 4) (.skip) (jQ g114_7 (.cond (.t 4) (.skip) (jQ g114_8 (.cond (.t 4) (.skip) (jQ g114_9 (.cond (.t 4) (.skip) (jQ g114_10 (.cond (.t 4) (.skip) (jQ g114_11 (.cond (.t 4) (.skip) (jQ g114_12 (.cond (.t 4) (.skip) (jQ g114_13 (.cond (.t 4) (.skip) (jQ g114_14 (.cond (.t 4) (.skip) (jQ g114_15 (.cond (.t 4) (.skip) (jQ g114_16 (.cond (.t 4) (.skip) (jQ g114_17 (.cond (.t 4) (.skip) (jQ g114_18 (.cond (.t 4) (.skip) (jQ g114_19 (.cond (.t 4) (.skip) (jQ g114_20 (.cond (.t 4) (.skip) (jQ g114_21 (.cond (.t 4) (.skip) (.reg g114_22))))))))))))))))))))))))))))))))))))))))) (.cond (.t 4) (jQ g114_23 (.ret)) (.skip))))) (jQ g114_24 (.ret)))
abbrev o114 : List RR:=[.tmp 2]
theorem k114 : CT 114 26 r114 o114:=ck Tryz.func114 Tryz.ntmps114 (by decide +kernel)
abbrev g113_0 : IL:=[jaa 2,jaa 3]
abbrev g113_1 : IL:=[ja 5 0,jj 6 0 5,jan 7 6 1,ja 4 7]
abbrev g113_2 : IL:=[ja 8 4,yn 9 8 0]
abbrev g113_4 : IL:=[ja 12 0,ja 13 4,⟨some 14,.val (.idx (.t 12) (.t 13)),none⟩,jas 15 14 46]
abbrev g113_5 : IL:=[ja 16 0,ja 17 4,⟨some 18,.val (.slc none (.t 16) none (some (.t 17)) none),none⟩,ja 19 0,ja 20 4,jm 21 20 1,⟨some 22,.val (.slc none (.t 19) (some (.t 21)) none none),none⟩,ja 2 18,ja 3 22]
abbrev g113_3 : IL:=[ja 10 4,jan 11 10 1,ja 4 11]
abbrev l113_0 : RC:=.seq (jQ g113_2 (jX 9 0)) (.seq (.block 1 (jQ g113_4 (.cond (.t 15) (jD g113_5 (.ret)) (.skip)))) (.reg g113_3))
abbrev g113_6 : IL:=[ja 23 0,jaa 2,ja 3 23]
abbrev r113 : RC:=jQ g113_0 (.seq (jQ g113_1 (.block 0 (.loop l113_0))) (jQ g113_6 (.ret)))
abbrev o113 : List RR:=[.tmp 2,.tmp 3]
theorem k113 : CT 113 24 r113 o113:=ck Tryz.func113 Tryz.ntmps113 (by decide +kernel)
abbrev g158_0 : IL:=[jk 2]
abbrev g158_1 : IL:=[ja 3 0,jaq 4 3 65,ja 5 4,jf 6 0 5,jar 7 6 90 5,ji 8 5 7,ja 2 8]
abbrev r158 : RC:=jQ g158_0 (jQ g158_1 (.ret))
abbrev o158 : List RR:=[.tmp 2]
theorem k158 : CT 158 9 r158 o158:=ck Tryz.func158 Tryz.ntmps158 (by decide +kernel)
abbrev g157_0 : IL:=[jk 2]
abbrev g157_1 : IL:=[ja 3 0,jaq 4 3 97,ja 5 4,jf 6 0 5,jar 7 6 122 5,ji 8 5 7,ja 2 8]
abbrev r157 : RC:=jQ g157_0 (jQ g157_1 (.ret))
abbrev o157 : List RR:=[.tmp 2]
theorem k157 : CT 157 9 r157 o157:=ck Tryz.func157 Tryz.ntmps157 (by decide +kernel)
abbrev g73_0 : IL:=[jd 4 0]
abbrev g73_1 : IL:=[ja 6 0,jj 7 1 6,yz 8 7 8]
abbrev g73_2 : IL:=[jd 4 3]
abbrev g73_3 : IL:=[jd 5 0]
abbrev g73_4 : IL:=[ja 9 5,ja 10 0,jj 11 1 10,jn 12 9 11]
abbrev g73_6 : IL:=[ja 15 0,ja 16 5,jl 17 8 15 16,jb 18 0 17,jc 19 18,jr 20 116 19,jq 21 20 0]
abbrev g73_7 : IL:=[jd 4 8]
abbrev g73_8 : IL:=[ja 22 0,ja 23 5,jl 24 8 22 23,jb 25 0 24,jc 26 25,ja 27 1,ju 28 117 26 27,yb 29 28]
abbrev g73_9 : IL:=[jd 4 1]
abbrev g73_10 : IL:=[ja 30 0,ja 31 5,jl 32 8 30 31,je 33 8 32,jr 34 118 33,yb 35 34]
abbrev g73_11 : IL:=[jd 4 12]
abbrev g73_12 : IL:=[ja 36 5,yz 37 36 0,ja 38 37,jf 39 0 38,jf 40 5 38,jz 41 8 39 40 38,jh 42 0 41 38,yl 43 42 38,jf 44 0 38,jf 45 5 38,jau 46 45 1 38,jz 47 8 44 46 38,jh 48 0 47 38,yl 49 48 38,⟨some 50,.val (.bin .str .lss (.t 43) (.t 49)),(some (38,true))⟩,ji 51 38 50]
abbrev g73_13 : IL:=[jd 4 11]
abbrev g73_14 : IL:=[ja 52 5,yz 53 52 0,ja 54 53,jf 55 0 54,jf 56 5 54,jz 57 8 55 56 54,jh 58 0 57 54,yl 59 58 54,jf 60 0 54,jf 61 5 54,jau 62 61 1 54,jz 63 8 60 62 54,jh 64 0 63 54,yl 65 64 54,⟨some 66,.val (.bin .str .eql (.t 59) (.t 65)),(some (54,true))⟩,ji 67 54 66]
abbrev g73_15 : IL:=[jd 4 9]
abbrev g73_5 : IL:=[ja 13 5,jm 14 13 1,ja 5 14]
abbrev l73_0 : RC:=.seq (jQ g73_4 (jX 12 0)) (.seq (.block 1 (.seq (jQ g73_6 (.cond (.t 21) (jQ g73_7 (.ret)) (.skip))) (.seq (jQ g73_8 (.cond (.t 29) (jQ g73_9 (.ret)) (.skip))) (.seq (jQ g73_10 (.cond (.t 35) (jQ g73_11 (.ret)) (.skip))) (.seq (jD g73_12 (.cond (.t 51) (jQ g73_13 (.ret)) (.skip))) (jD g73_14 (.cond (.t 67) (jQ g73_15 (.ret)) (.skip)))))))) (.reg g73_5))
abbrev g73_16 : IL:=[jd 4 0]
abbrev r73 : RC:=jQ g73_0 (.seq (jQ g73_1 (.cond (.t 8) (jQ g73_2 (.ret)) (.skip))) (.seq (jQ g73_3 (.block 0 (.loop l73_0))) (jQ g73_16 (.ret))))
abbrev o73 : List RR:=[.tmp 4]
theorem k73 : CT 73 68 r73 o73:=ck Tryz.func73 Tryz.ntmps73 (by decide +kernel)
abbrev g116_0 : IL:=[jd 2 0]
abbrev g116_1 : IL:=[ja 3 0]
abbrev g116_2 : IL:=[⟨some 5,.val (.bin .str .eql (.t 3) (.c (.str [100,101,112,114,101,99,97,116,101,100]))),none⟩,ja 4 5]
abbrev g116_3 : IL:=[⟨some 6,.val (.bin .str .eql (.t 3) (.c (.str [115,101,99,114,101,116]))),none⟩,ja 4 6]
abbrev g116_4 : IL:=[⟨some 7,.val (.bin .str .eql (.t 3) (.c (.str [105,100,101,109,112,111,116,101,110,116]))),none⟩,ja 4 7]
abbrev g116_5 : IL:=[jd 2 1]
abbrev g116_6 : IL:=[⟨some 9,.val (.bin .str .eql (.t 3) (.c (.str [100,111,99]))),none⟩,ja 8 9]
abbrev g116_7 : IL:=[⟨some 10,.val (.bin .str .eql (.t 3) (.c (.str [97,108,105,97,115]))),none⟩,ja 8 10]
abbrev g116_8 : IL:=[⟨some 11,.val (.bin .str .eql (.t 3) (.c (.str [114,111,117,116,101]))),none⟩,ja 8 11]
abbrev g116_9 : IL:=[⟨some 12,.val (.bin .str .eql (.t 3) (.c (.str [111,119,110,101,114]))),none⟩,ja 8 12]
abbrev g116_10 : IL:=[jd 2 7]
abbrev g116_11 : IL:=[⟨some 14,.val (.bin .str .eql (.t 3) (.c (.str [115,105,110,99,101]))),none⟩,ja 13 14]
abbrev g116_12 : IL:=[⟨some 15,.val (.bin .str .eql (.t 3) (.c (.str [117,110,116,105,108]))),none⟩,ja 13 15]
abbrev g116_13 : IL:=[⟨some 16,.val (.bin .str .eql (.t 3) (.c (.str [108,101,110,103,116,104]))),none⟩,ja 13 16]
abbrev g116_14 : IL:=[⟨some 17,.val (.bin .str .eql (.t 3) (.c (.str [116,105,109,101,111,117,116]))),none⟩,ja 13 17]
abbrev g116_15 : IL:=[jd 2 4]
abbrev g116_16 : IL:=[⟨some 19,.val (.bin .str .eql (.t 3) (.c (.str [109,105,110]))),none⟩,ja 18 19]
abbrev g116_17 : IL:=[⟨some 20,.val (.bin .str .eql (.t 3) (.c (.str [109,97,120]))),none⟩,ja 18 20]
abbrev g116_18 : IL:=[jd 2 3]
abbrev g116_19 : IL:=[jd 2 0]
abbrev r116 : RC:=jQ g116_0 (.seq (jQ g116_1 (.block 0 (.seq (jQ g116_2 (.cond (.t 4) (.skip) (jQ g116_3 (.cond (.t 4) (.skip) (.reg g116_4))))) (.cond (.t 4) (jQ g116_5 (.ret)) (.seq (jQ g116_6 (.cond (.t 8) (.skip) (jQ g116_7 (.cond (.t 8) (.skip) (jQ g116_8 (.cond (.t 8) (.skip) (.reg g116_9))))))) (.cond (.t 8) (jQ g116_10 (.ret)) (.seq (jQ g116_11 (.cond (.t 13) (.skip) (jQ g116_12 (.cond (.t 13) (.skip) (jQ g116_13 (.cond (.t 13) (.skip) (.reg g116_14))))))) (.cond (.t 13) (jQ g116_15 (.ret)) (.seq (jQ g116_16 (.cond (.t 18) (.skip) (.reg g116_17))) (.cond (.t 18) (jQ g116_18 (.ret)) (.skip))))))))))) (jQ g116_19 (.ret)))
abbrev o116 : List RR:=[.tmp 2]
theorem k116 : CT 116 21 r116 o116:=ck Tryz.func116 Tryz.ntmps116 (by decide +kernel)
abbrev g118_0 : IL:=[jg 1 1 0,jk 2]
abbrev g118_1 : IL:=[jb 4 0 1,jc 5 4,jr 6 116 5,ja 3 6]
abbrev g118_2 : IL:=[ja 7 3,ya 8 7 0,ja 9 8,jh 10 1 1 9,jh 11 0 10 9,jo 12 11 9,jf 13 3 9,⟨some 14,.val (.bin .num .eql (.t 12) (.t 13)),(some (9,true))⟩,ji 15 9 14,ja 16 15,jf 17 3 16,jh 18 1 1 16,zg 19 7 18 16,zp 20 159 17 19 16,ji 21 16 20,ja 2 21]
abbrev r118 : RC:=jQ g118_0 (jQ g118_1 (jQ g118_2 (.ret)))
abbrev o118 : List RR:=[.tmp 2]
theorem k118 : CT 118 22 r118 o118:=ck Tryz.func118 Tryz.ntmps118 (by decide +kernel)
abbrev g117_0 : IL:=[jk 4]
abbrev g117_1 : IL:=[ja 5 0]
abbrev g117_2 : IL:=[⟨some 7,.val (.bin .str .eql (.t 5) (.c (.str [100,101,112,114,101,99,97,116,101,100]))),none⟩,ja 6 7]
abbrev g117_3 : IL:=[⟨some 8,.val (.bin .str .eql (.t 5) (.c (.str [100,111,99]))),none⟩,ja 6 8]
abbrev g117_4 : IL:=[ja 9 1,yn 10 9 1,ja 11 10,jf 12 1 11,yj 13 12 6 11,ji 14 11 13,ja 4 14]
abbrev g117_5 : IL:=[⟨some 16,.val (.bin .str .eql (.t 5) (.c (.str [97,108,105,97,115]))),none⟩,ja 15 16]
abbrev g117_6 : IL:=[⟨some 17,.val (.bin .str .eql (.t 5) (.c (.str [115,105,110,99,101]))),none⟩,ja 15 17]
abbrev g117_7 : IL:=[⟨some 18,.val (.bin .str .eql (.t 5) (.c (.str [117,110,116,105,108]))),none⟩,ja 15 18]
abbrev g117_8 : IL:=[ja 19 1,jq 20 19 2,ja 21 20,jv 22 1 21,yo 23 22 4 21,jt 24 21 23,ja 25 24,jv 26 1 25,yo 27 26 6 25,jt 28 25 27,ja 4 28]
abbrev g117_9 : IL:=[⟨some 30,.val (.bin .str .eql (.t 5) (.c (.str [109,105,110]))),none⟩,ja 29 30]
abbrev g117_10 : IL:=[⟨some 31,.val (.bin .str .eql (.t 5) (.c (.str [109,97,120]))),none⟩,ja 29 31]
abbrev g117_11 : IL:=[⟨some 32,.val (.bin .str .eql (.t 5) (.c (.str [108,101,110,103,116,104]))),none⟩,ja 29 32]
abbrev g117_12 : IL:=[⟨some 33,.val (.bin .str .eql (.t 5) (.c (.str [115,101,99,114,101,116]))),none⟩,ja 29 33]
abbrev g117_13 : IL:=[ja 34 1,jq 35 34 2,ja 4 35]
abbrev g117_14 : IL:=[⟨some 37,.val (.bin .str .eql (.t 5) (.c (.str [105,100,101,109,112,111,116,101,110,116]))),none⟩,ja 36 37]
abbrev g117_15 : IL:=[⟨some 38,.val (.bin .str .eql (.t 5) (.c (.str [116,105,109,101,111,117,116]))),none⟩,ja 36 38]
abbrev g117_16 : IL:=[⟨some 39,.val (.bin .str .eql (.t 5) (.c (.str [114,111,117,116,101]))),none⟩,ja 36 39]
abbrev g117_17 : IL:=[ja 40 1,jq 41 40 6,ja 4 41]
abbrev g117_18 : IL:=[ja 42 1,jq 43 42 1,ja 44 43,jv 45 1 44,yo 46 45 5 44,jt 47 44 46,ja 4 47]
abbrev r117 : RC:=jQ g117_0 (.seq (jQ g117_1 (.block 0 (.seq (jQ g117_2 (.cond (.t 6) (.skip) (.reg g117_3))) (.cond (.t 6) (jQ g117_4 (.ret)) (.seq (jQ g117_5 (.cond (.t 15) (.skip) (jQ g117_6 (.cond (.t 15) (.skip) (.reg g117_7))))) (.cond (.t 15) (jQ g117_8 (.ret)) (.seq (jQ g117_9 (.cond (.t 29) (.skip) (jQ g117_10 (.cond (.t 29) (.skip) (jQ g117_11 (.cond (.t 29) (.skip) (.reg g117_12))))))) (.cond (.t 29) (jQ g117_13 (.ret)) (.seq (jQ g117_14 (.cond (.t 36) (.skip) (jQ g117_15 (.cond (.t 36) (.skip) (.reg g117_16))))) (.cond (.t 36) (jQ g117_17 (.ret)) (.skip))))))))))) (jQ g117_18 (.ret)))
abbrev o117 : List RR:=[.tmp 4]
theorem k117 : CT 117 48 r117 o117:=ck Tryz.func117 Tryz.ntmps117 (by decide +kernel)
abbrev g72_0 : IL:=[jk 4]
abbrev g72_1 : IL:=[jd 5 0]
abbrev g72_2 : IL:=[ja 6 5,ja 7 0,jj 8 1 7,jn 9 6 8]
abbrev g72_4 : IL:=[ja 12 0,ja 13 5,jl 14 2 12 13,jb 15 0 14,jc 16 15,ja 17 1,⟨some 18,.val (.bin .num .leq (.t 16) (.t 17)),none⟩,ja 19 18,jf 20 1 19,jf 21 0 19,jf 22 5 19,jz 23 2 21 22 19,jh 24 1 23 19,jo 25 24 19,jao 26 20 25 19,ji 27 19 26]
abbrev g72_5 : IL:=[yf 4]
abbrev g72_3 : IL:=[ja 10 5,jm 11 10 1,ja 5 11]
abbrev l72_0 : RC:=.seq (jQ g72_2 (jX 9 0)) (.seq (.block 1 (jQ g72_4 (.cond (.t 27) (jQ g72_5 (.ret)) (.skip)))) (.reg g72_3))
abbrev g72_6 : IL:=[jk 4]
abbrev r72 : RC:=jQ g72_0 (.seq (jQ g72_1 (.block 0 (.loop l72_0))) (jQ g72_6 (.ret)))
abbrev o72 : List RR:=[.tmp 4]
theorem k72 : CT 72 28 r72 o72:=ck Tryz.func72 Tryz.ntmps72 (by decide +kernel)
abbrev g12_0 : IL:=[jg 1 1 0,jd 2 0]
abbrev g12_1 : IL:=[je 4 2 1,jr 5 31 4,yb 6 5,ja 3 6]
abbrev g12_2 : IL:=[jd 2 3]
abbrev g12_3 : IL:=[je 8 2 1,jr 9 32 8,yb 10 9,ja 7 10]
abbrev g12_4 : IL:=[jd 2 8]
abbrev g12_5 : IL:=[je 12 2 1,jr 13 33 12,yb 14 13,ja 11 14]
abbrev g12_6 : IL:=[jd 2 11]
abbrev g12_7 : IL:=[je 16 2 1,jr 17 34 16,yb 18 17,ja 15 18]
abbrev g12_8 : IL:=[jd 2 9]
abbrev g12_9 : IL:=[je 20 2 1,jr 21 35 20,yb 22 21,ja 19 22]
abbrev g12_10 : IL:=[jd 2 6]
abbrev g12_11 : IL:=[je 24 2 1,jr 25 36 24,yb 26 25,ja 23 26]
abbrev g12_12 : IL:=[jd 2 1]
abbrev g12_13 : IL:=[je 28 2 1,jr 29 37 28,yb 30 29,ja 27 30]
abbrev g12_14 : IL:=[jd 2 19]
abbrev g12_15 : IL:=[jd 2 0]
abbrev r12 : RC:=jQ g12_0 (.seq (.block 0 (jQ g12_1 (.cond (.t 3) (jQ g12_2 (.ret)) (jQ g12_3 (.cond (.t 7) (jQ g12_4 (.ret)) (jQ g12_5 (.cond (.t 11) (jQ g12_6 (.ret)) (jQ g12_7 (.cond (.t 15) (jQ g12_8 (.ret)) (jQ g12_9 (.cond (.t 19) (jQ g12_10 (.ret)) (jQ g12_11 (.cond (.t 23) (jQ g12_12 (.ret)) (jQ g12_13 (.cond (.t 27) (jQ g12_14 (.ret)) (.skip)))))))))))))))) (jQ g12_15 (.ret)))
abbrev o12 : List RR:=[.tmp 2]
theorem k12 : CT 12 31 r12 o12:=ck Tryz.func12 Tryz.ntmps12 (by decide +kernel)
abbrev g36_0 : IL:=[jg 1 1 0,jk 2]
abbrev g36_1 : IL:=[yf 3]
abbrev g36_2 : IL:=[jd 4 0]
abbrev g36_3 : IL:=[ja 9 4,jb 10 1 1,jc 11 10,jj 12 1 11,jn 13 9 12]
abbrev g36_5 : IL:=[ja 16 3,ja 17 16,jh 18 1 1 17,jo 19 18 17,jf 20 4 17,jz 21 5 19 20 17,jh 22 4 21 17,jo 23 22 17,yc 24 1 23 17,yh 25 24 0 17,ji 26 17 25,ja 3 26]
abbrev g36_6 : IL:=[jd 5 0]
abbrev g36_7 : IL:=[ja 27 5,jb 28 1 1,jc 29 28,ja 30 4,jl 31 5 29 30,jb 32 2 31,jc 33 32,jj 34 1 33,jn 35 27 34]
abbrev g36_9 : IL:=[jb 38 1 1,jc 39 38,ja 40 4,jl 41 5 39 40,jb 42 2 41,jc 43 42,ja 44 5,jl 45 3 43 44,jb 46 2 45,jc 47 46,ja 6 47]
abbrev g36_10 : IL:=[ja 48 3,ja 49 48,jf 50 6 49,yc 51 1 50 49,yh 52 51 0 49,jf 53 52 49,jv 54 6 53,yy 55 1 54 53,yo 56 55 1 53,jv 57 56 53,jf 58 6 57,⟨some 59,.val (.iaddr 8 none (.t 58) (.c (.int .i64 0))),(some (57,true))⟩,jh 60 0 59 57,jo 61 60 57,⟨some 62,.val (.bin .str .eql (.t 61) (.c (.str [97,108,105,97,115]))),(some (57,true))⟩,yu 63 57 62 53,jv 64 63 53,jf 65 6 64,⟨some 66,.call (.f 73) [(.t 65),(.c (.int .i64 4))],(some (64,true))⟩,yh 67 66 0 64,yu 68 64 67 53,yw 69 53 68 49,ji 70 49 69,ja 3 70]
abbrev g36_8 : IL:=[ja 36 5,jm 37 36 1,ja 5 37]
abbrev l36_0 : RC:=.seq (jQ g36_7 (jX 35 2)) (.seq (.block 3 (jQ g36_9 (.reg g36_10))) (.reg g36_8))
abbrev g36_4 : IL:=[ja 14 4,jm 15 14 1,ja 4 15]
abbrev l36_1 : RC:=.seq (jQ g36_3 (jX 13 0)) (.seq (.block 1 (jQ g36_5 (jQ g36_6 (.block 2 (.loop l36_0))))) (.reg g36_4))
abbrev g36_11 : IL:=[jd 7 0]
abbrev g36_12 : IL:=[ja 71 7,jb 72 0 1,jc 73 72,jj 74 1 73,jn 75 71 74]
abbrev g36_14 : IL:=[ja 78 3,ja 79 78,jh 80 0 1 79,jo 81 80 79,jf 82 7 79,jz 83 3 81 82 79,zg 84 3 83 79,yv 85 74 84 79,ji 86 79 85,ja 3 86]
abbrev g36_15 : IL:=[jd 8 0]
abbrev g36_16 : IL:=[ja 87 8,jb 88 0 1,jc 89 88,ja 90 7,jl 91 3 89 90,jb 92 1 91,jc 93 92,jj 94 1 93,jn 95 87 94]
abbrev g36_18 : IL:=[ja 98 3,ja 99 98,jad 100 0 1 2 1 99,jh 101 0 1 99,zk 102 0 1 101 99,jf 103 7 99,jz 104 3 102 103 99,jh 105 1 104 99,yl 106 105 99,jf 107 8 99,jz 108 8 106 107 99,jav 109 8 108 99,zp 110 75 100 109 99,ji 111 99 110,ja 3 111]
abbrev g36_17 : IL:=[ja 96 8,jm 97 96 1,ja 8 97]
abbrev l36_2 : RC:=.seq (jQ g36_16 (jX 95 6)) (.seq (.block 7 (.draw g36_18)) (.reg g36_17))
abbrev g36_13 : IL:=[ja 76 7,jm 77 76 1,ja 7 77]
abbrev l36_3 : RC:=.seq (jQ g36_12 (jX 75 4)) (.seq (.block 5 (jQ g36_14 (jQ g36_15 (.block 6 (.loop l36_2))))) (.reg g36_13))
abbrev g36_19 : IL:=[ja 112 3,ja 2 112]
abbrev r36 : RC:=jQ g36_0 (jQ g36_1 (.seq (jQ g36_2 (.block 0 (.loop l36_1))) (.seq (jQ g36_11 (.block 4 (.loop l36_3))) (jQ g36_19 (.ret)))))
abbrev o36 : List RR:=[.tmp 2]
theorem k36 : CT 36 113 r36 o36:=ck Tryz.func36 Tryz.ntmps36 (by decide +kernel)
abbrev g70_0 : IL:=[jk 2]
abbrev g70_1 : IL:=[ja 5 0,jr 6 112 5,yb 7 6]
abbrev g70_2 : IL:=[jk 2]
abbrev g70_3 : IL:=[ja 8 0,⟨some 9,.val (.bin .str .neq (.t 8) (.c (.str []))),none⟩]
abbrev g70_4 : IL:=[ja 11 0,jr 12 113 11,ja 10 12,jy 13 10 0,jy 14 10 1,ja 3 13,ja 4 14]
abbrev g70_5 : IL:=[ja 15 4,jr 16 114 15]
abbrev g70_6 : IL:=[jk 2]
abbrev g70_7 : IL:=[ja 17 3,ja 0 17]
abbrev l70_0 : RC:=.seq (jQ g70_3 (jX 9 0)) (.block 1 (jQ g70_4 (.seq (jQ g70_5 (.cond (.t 16) (jQ g70_6 (.ret)) (.skip))) (.reg g70_7))))
abbrev g70_8 : IL:=[yf 2]
abbrev r70 : RC:=jQ g70_0 (.seq (jQ g70_1 (.cond (.t 7) (jQ g70_2 (.ret)) (.skip))) (.seq (.block 0 (.loop l70_0)) (jQ g70_8 (.ret))))
abbrev o70 : List RR:=[.tmp 2]
theorem k70 : CT 70 18 r70 o70:=ck Tryz.func70 Tryz.ntmps70 (by decide +kernel)
abbrev g37_0 : IL:=[jg 1 1 0,jk 2]
abbrev g37_1 : IL:=[jb 9 0 1,jc 10 9,jj 11 1 10,⟨some 12,.mk 12 4 1 1 [.bool false] (.t 11) (.t 11),none⟩,ja 3 12]
abbrev g37_2 : IL:=[jb 13 0 1,jc 14 13,jj 15 1 14,jq 16 15 0,ja 4 16]
abbrev g37_3 : IL:=[jb 17 0 1,jc 18 17,jj 19 1 18,jd 20 0]
abbrev g37_4 : IL:=[jn 21 20 19]
abbrev g37_5 : IL:=[yf 4]
abbrev g37_6 : IL:=[jd 5 0]
abbrev g37_7 : IL:=[ja 22 5,jb 23 0 1,jc 24 23,jj 25 1 24,jn 26 22 25]
abbrev g37_9 : IL:=[yf 6]
abbrev g37_10 : IL:=[jd 7 0]
abbrev g37_11 : IL:=[ja 29 7,jb 30 0 1,jc 31 30,ja 32 5,jl 33 3 31 32,jb 34 1 33,jc 35 34,jj 36 1 35,jn 37 29 36]
abbrev g37_13 : IL:=[jb 40 0 1,jc 41 40,ja 42 5,jl 43 3 41 42,jb 44 1 43,jc 45 44,ja 46 7,jl 47 8 45 46,je 48 8 47,za 8 8,jp 8 8 48]
abbrev g37_14 : IL:=[ja 49 6,ja 50 49,jh 51 3 8 50,jo 52 51 50,zl 53 52 1 50,jf 54 53 50,js 55 5 8 54,jw 56 55 54,jam 57 56 10 54,yw 58 54 57 50,jf 59 58 50,jv 60 3 59,js 61 6 8 59,jw 62 61 59,ze 63 1 60 62 59,jw 64 63 59,yw 65 59 64 50,ji 66 50 65,ja 6 66]
abbrev g37_12 : IL:=[ja 38 7,jm 39 38 1,ja 7 39]
abbrev l37_0 : RC:=.gho (.drop 8) (.seq (jQ g37_11 (jX 37 4)) (.seq (.block 5 (jQ g37_13 (.reg g37_14))) (.reg g37_12)))
abbrev g37_15 : IL:=[ja 67 3,ja 68 5,ja 69 6,jl 70 1 67 68,jp 1 70 69]
abbrev g37_16 : IL:=[ja 71 4,ja 72 71,jf 73 6 72,ji 74 72 73,ja 4 74]
abbrev g37_8 : IL:=[ja 27 5,jm 28 27 1,ja 5 28]
abbrev l37_1 : RC:=.gho (.drop 8) (.seq (jQ g37_7 (jX 26 2)) (.seq (.block 3 (jQ g37_9 (.seq (jQ g37_10 (.block 4 (.loop l37_0))) (jQ g37_15 (.reg g37_16))))) (.reg g37_8)))
abbrev g37_17 : IL:=[jm 75 20 1,ja 20 75]
abbrev l37_2 : RC:=.gho (.drop 8) (jQ g37_4 (.seq (jX 21 0) (.seq (.block 1 (jQ g37_5 (jQ g37_6 (.block 2 (.loop l37_1))))) (.reg g37_17))))
abbrev g37_18 : IL:=[ja 76 4,ja 2 76]
abbrev r37 : RC:=jQ g37_0 (jQ g37_1 (jQ g37_2 (.seq (jQ g37_3 (.block 0 (.loop l37_2))) (jQ g37_18 (.ret)))))
abbrev o37 : List RR:=[.tmp 2]
theorem k37 : CT 37 77 r37 o37:=ck Tryz.func37 Tryz.ntmps37 (by decide +kernel)
abbrev g74_0 : IL:=[jg 1 1 0,jk 2]
abbrev g74_1 : IL:=[jd 3 0]
abbrev g74_2 : IL:=[jd 4 0]
abbrev g74_3 : IL:=[ja 6 4,jb 7 1 1,jc 8 7,jj 9 1 8,jn 10 6 9]
abbrev g74_5 : IL:=[jb 13 1 1,jc 14 13,ja 15 4,jl 16 8 14 15,jb 17 7 16,jc 18 17,ja 5 18]
abbrev g74_6 : IL:=[ja 20 5,ja 21 3,zo 22 20 21,ja 19 22]
abbrev g74_7 : IL:=[ja 23 3,jm 24 23 1,ja 3 24]
abbrev g74_8 : IL:=[ja 26 5,ya 27 26 (-1),ja 28 27,jf 29 4 28,yh 30 29 0 28,jf 31 30 28,js 32 1 1 31,jw 33 32 31,jv 34 4 31,jab 35 34 1 31,ze 36 8 33 35 31,js 37 7 36 31,jw 38 37 31,jv 39 5 31,jap 40 38 39 31,yw 41 31 40 28,ji 42 28 41,ja 25 42]
abbrev g74_9 : IL:=[jk 2]
abbrev g74_4 : IL:=[ja 11 4,jm 12 11 1,ja 4 12]
abbrev l74_0 : RC:=.seq (jQ g74_3 (jX 10 0)) (.seq (.block 1 (jQ g74_5 (.block 2 (jQ g74_6 (.cond (.t 19) (.reg g74_7) (jQ g74_8 (.cond (.t 25) (jQ g74_9 (.ret)) (.skip)))))))) (.reg g74_4))
abbrev g74_10 : IL:=[jb 43 2 1,jc 44 43,ja 45 3,zo 46 44 45,ja 2 46]
abbrev r74 : RC:=jQ g74_0 (jQ g74_1 (.seq (jQ g74_2 (.block 0 (.loop l74_0))) (jQ g74_10 (.ret))))
abbrev o74 : List RR:=[.tmp 2]
theorem k74 : CT 74 47 r74 o74:=ck Tryz.func74 Tryz.ntmps74 (by decide +kernel)
abbrev g31_0 : IL:=[jg 1 1 0,jk 2]
abbrev g31_1 : IL:=[jb 7 0 1,jc 8 7,jj 9 1 8,zu 10 9 64,ja 11 10,jh 12 1 1 11,jo 13 12 11,yc 14 1 13 11,yj 15 14 64 11,ji 16 11 15,ja 3 16]
abbrev g31_2 : IL:=[jd 4 0]
abbrev g31_3 : IL:=[ja 17 4,jb 18 0 1,jc 19 18,jj 20 1 19,jn 21 17 20]
abbrev g31_5 : IL:=[ja 24 3,ja 25 24,jh 26 0 1 25,jo 27 26 25,jf 28 4 25,jz 29 3 27 28 25,jh 30 1 29 25,jo 31 30 25,yc 32 1 31 25,yj 33 32 64 25,ji 34 25 33,ja 3 34]
abbrev g31_4 : IL:=[ja 22 4,jm 23 22 1,ja 4 23]
abbrev l31_0 : RC:=.seq (jQ g31_3 (jX 21 0)) (.seq (.block 1 (.reg g31_5)) (.reg g31_4))
abbrev g31_6 : IL:=[jd 5 0]
abbrev g31_7 : IL:=[ja 35 5,jb 36 1 1,jc 37 36,jj 38 1 37,jn 39 35 38]
abbrev g31_9 : IL:=[jb 42 1 1,jc 43 42,ja 44 5,jl 45 5 43 44,jb 46 2 45,jc 47 46,jj 48 1 47,ja 6 48]
abbrev g31_10 : IL:=[ja 49 3,ja 50 49,jf 51 6 50,⟨some 52,.val (.bin .num .geq (.t 51) (.c (.int .i64 1))),(some (50,true))⟩,ji 53 50 52,ja 54 53,jf 55 6 54,yj 56 55 64 54,ji 57 54 56,ja 58 57,jh 59 1 1 58,jo 60 59 58,jf 61 5 58,jz 62 5 60 61 58,jh 63 3 62 58,jo 64 63 58,yc 65 1 64 58,yj 66 65 16 58,ji 67 58 66,ja 3 67]
abbrev g31_8 : IL:=[ja 40 5,jm 41 40 1,ja 5 41]
abbrev l31_1 : RC:=.seq (jQ g31_7 (jX 39 2)) (.seq (.block 3 (jQ g31_9 (.reg g31_10))) (.reg g31_8))
abbrev g31_11 : IL:=[ja 68 3,ja 2 68]
abbrev r31 : RC:=jQ g31_0 (jQ g31_1 (.seq (jQ g31_2 (.block 0 (.loop l31_0))) (.seq (jQ g31_6 (.block 2 (.loop l31_1))) (jQ g31_11 (.ret)))))
abbrev o31 : List RR:=[.tmp 2]
theorem k31 : CT 31 69 r31 o31:=ck Tryz.func31 Tryz.ntmps31 (by decide +kernel)
abbrev g32_0 : IL:=[jg 1 1 0,jk 2]
abbrev g32_1 : IL:=[yf 3]
abbrev g32_2 : IL:=[jd 4 0]
abbrev g32_3 : IL:=[ja 8 4,jb 9 0 1,jc 10 9,jj 11 1 10,jn 12 8 11]
abbrev g32_5 : IL:=[ja 15 3,ja 16 15,jh 17 0 1 16,jo 18 17 16,jf 19 4 16,jz 20 3 18 19 16,jh 21 0 20 16,jo 22 21 16,yv 23 70 22 16,ji 24 16 23,ja 3 24]
abbrev g32_6 : IL:=[jd 5 0]
abbrev g32_7 : IL:=[ja 25 5,jb 26 0 1,jc 27 26,ja 28 4,jl 29 3 27 28,jb 30 1 29,jc 31 30,jj 32 1 31,jn 33 25 32]
abbrev g32_9 : IL:=[ja 36 3,ja 37 36,jh 38 0 1 37,jo 39 38 37,jf 40 4 37,jz 41 3 39 40 37,jh 42 1 41 37,jo 43 42 37,jf 44 5 37,jz 45 8 43 44 37,jh 46 1 45 37,jo 47 46 37,yv 48 71 47 37,ji 49 37 48,ja 3 49]
abbrev g32_8 : IL:=[ja 34 5,jm 35 34 1,ja 5 35]
abbrev l32_0 : RC:=.seq (jQ g32_7 (jX 33 2)) (.seq (.block 3 (.reg g32_9)) (.reg g32_8))
abbrev g32_4 : IL:=[ja 13 4,jm 14 13 1,ja 4 14]
abbrev l32_1 : RC:=.seq (jQ g32_3 (jX 12 0)) (.seq (.block 1 (jQ g32_5 (jQ g32_6 (.block 2 (.loop l32_0))))) (.reg g32_4))
abbrev g32_10 : IL:=[jd 6 0]
abbrev g32_11 : IL:=[ja 50 6,jb 51 1 1,jc 52 51,jj 53 1 52,jn 54 50 53]
abbrev g32_13 : IL:=[ja 57 3,ja 58 57,jh 59 1 1 58,jo 60 59 58,jf 61 6 58,jz 62 5 60 61 58,jh 63 0 62 58,jo 64 63 58,yv 65 70 64 58,ji 66 58 65,ja 3 66]
abbrev g32_14 : IL:=[jd 7 0]
abbrev g32_15 : IL:=[ja 67 7,jb 68 1 1,jc 69 68,ja 70 6,jl 71 5 69 70,jb 72 2 71,jc 73 72,jj 74 1 73,jn 75 67 74]
abbrev g32_17 : IL:=[ja 78 3,ja 79 78,jh 80 1 1 79,jo 81 80 79,jf 82 6 79,jz 83 5 81 82 79,jh 84 2 83 79,jo 85 84 79,jf 86 7 79,jz 87 3 85 86 79,jh 88 0 87 79,jo 89 88 79,yv 90 71 89 79,ji 91 79 90,ja 3 91]
abbrev g32_16 : IL:=[ja 76 7,jm 77 76 1,ja 7 77]
abbrev l32_2 : RC:=.seq (jQ g32_15 (jX 75 6)) (.seq (.block 7 (.reg g32_17)) (.reg g32_16))
abbrev g32_12 : IL:=[ja 55 6,jm 56 55 1,ja 6 56]
abbrev l32_3 : RC:=.seq (jQ g32_11 (jX 54 4)) (.seq (.block 5 (jQ g32_13 (jQ g32_14 (.block 6 (.loop l32_2))))) (.reg g32_12))
abbrev g32_18 : IL:=[ja 92 3,ja 2 92]
abbrev r32 : RC:=jQ g32_0 (jQ g32_1 (.seq (jQ g32_2 (.block 0 (.loop l32_1))) (.seq (jQ g32_10 (.block 4 (.loop l32_3))) (jQ g32_18 (.ret)))))
abbrev o32 : List RR:=[.tmp 2]
theorem k32 : CT 32 93 r32 o32:=ck Tryz.func32 Tryz.ntmps32 (by decide +kernel)
def g75_0 : IL:=[jg 2 2 0,jg 3 3 1,jk 4]
def g75_1 : IL:=[jb 6 2 3,jc 7 6,jr 8 119 7,yb 9 8,ja 10 9,js 11 2 3 10,jw 12 11 10,yy 13 0 12 10,zf 14 13 4096 10,jt 15 10 14,ja 16 15,js 17 3 3 16,jw 18 17 16,⟨some 19,.val (.bin .num .lss (.t 18) (.c (.int .i64 1))),(some (16,false))⟩,jt 20 16 19,ja 21 20,js 22 3 3 21,jw 23 22 21,zf 24 23 5 21,jt 25 21 24,ja 26 25,js 27 5 3 26,jw 28 27 26,⟨some 29,.val (.bin .num .lss (.t 28) (.c (.int .i64 1))),(some (26,false))⟩,jt 30 26 29,ja 31 30,js 32 5 3 31,jw 33 32 31,zf 34 33 10 31,jt 35 31 34]
def g75_2 : IL:=[jk 4]
def g75_3 : IL:=[jb 36 4 3,jc 37 36,yn 38 37 1,ja 39 38,jh 40 4 3 39,jo 41 40 39,yj 42 41 5 39,ji 43 39 42,ja 44 43,js 45 4 3 44,jw 46 45 44,yo 47 46 7 44,jt 48 44 47,ja 5 48]
def g75_4 : IL:=[jb 49 3 3,jc 50 49,ya 51 50 5]
def g75_5 : IL:=[jb 52 4 3,jc 53 52,jq 54 53 0,ja 5 54]
def g75_6 : IL:=[ja 55 5,ja 56 55,zg 57 2 2 56,zg 58 8 3 56,zp 59 120 57 58 56,ji 60 56 59,ja 61 60,jh 62 7 3 61,jo 63 62 61,yh 64 63 (-1) 61,jf 65 64 61,js 66 3 3 65,jw 67 66 65,yo 68 67 2 65,yw 69 65 68 61,ji 70 61 69,ja 4 70]
def r75 : RC:=jQ g75_0 (.seq (jQ g75_1 (.cond (.t 35) (jQ g75_2 (.ret)) (.skip))) (jQ g75_3 (.seq (jQ g75_4 (.cond (.t 51) (.reg g75_5) (.skip))) (jQ g75_6 (.ret)))))
def o75 : List RR:=[.tmp 4]
theorem k75 : CT 75 71 r75 o75:=ck Tryz.func75 Tryz.ntmps75 (by decide +kernel)
abbrev g33_0 : IL:=[jg 1 1 0,jk 2]
abbrev g33_1 : IL:=[yf 3]
abbrev g33_2 : IL:=[jd 4 0]
abbrev g33_3 : IL:=[ja 8 4,jb 9 0 1,jc 10 9,jj 11 1 10,jn 12 8 11]
abbrev g33_5 : IL:=[ja 15 3,ja 16 15,jf 17 4 16,yh 18 17 0 16,jf 19 18 16,js 20 0 1 19,zb 21 0 1 20 19,jv 22 4 19,jab 23 22 1 19,ze 24 3 21 23 19,js 25 0 24 19,zt 26 25 19,js 27 0 1 19,zb 28 0 1 27 19,jv 29 4 19,ze 30 3 28 29 19,js 31 0 30 19,zt 32 31 19,⟨some 33,.val (.bin .str .lss (.t 26) (.t 32)),(some (19,false))⟩,yw 34 19 33 16,ji 35 16 34,ja 3 35]
abbrev g33_6 : IL:=[jd 5 1]
abbrev g33_7 : IL:=[ja 36 5,jb 37 0 1,jc 38 37,ja 39 4,jl 40 3 38 39,jb 41 1 40,jc 42 41,jj 43 1 42,jn 44 36 43]
abbrev g33_9 : IL:=[ja 47 3,ja 48 47,jh 49 0 1 48,zk 50 0 1 49 48,jf 51 4 48,jz 52 3 50 51 48,jh 53 1 52 48,yl 54 53 48,jf 55 5 48,jau 56 55 1 48,jz 57 8 54 56 48,jh 58 0 57 48,yl 59 58 48,jh 60 0 1 48,zk 61 0 1 60 48,jf 62 4 48,jz 63 3 61 62 48,jh 64 1 63 48,yl 65 64 48,jf 66 5 48,jz 67 8 65 66 48,jh 68 0 67 48,yl 69 68 48,zx 70 59 69 48,ji 71 48 70,ja 3 71]
abbrev g33_8 : IL:=[ja 45 5,jm 46 45 1,ja 5 46]
abbrev l33_0 : RC:=.seq (jQ g33_7 (jX 44 2)) (.seq (.block 3 (.draw g33_9)) (.reg g33_8))
abbrev g33_4 : IL:=[ja 13 4,jm 14 13 1,ja 4 14]
abbrev l33_1 : RC:=.seq (jQ g33_3 (jX 12 0)) (.seq (.block 1 (jD g33_5 (jQ g33_6 (.block 2 (.loop l33_0))))) (.reg g33_4))
abbrev g33_10 : IL:=[jd 6 0]
abbrev g33_11 : IL:=[ja 72 6,jb 73 1 1,jc 74 73,jj 75 1 74,jn 76 72 75]
abbrev g33_13 : IL:=[ja 79 3,ja 80 79,jf 81 6 80,yh 82 81 0 80,jf 83 82 80,js 84 1 1 83,zb 85 0 1 84 83,jv 86 6 83,jab 87 86 1 83,ze 88 5 85 87 83,js 89 0 88 83,zt 90 89 83,js 91 1 1 83,zb 92 0 1 91 83,jv 93 6 83,ze 94 5 92 93 83,js 95 0 94 83,zt 96 95 83,⟨some 97,.val (.bin .str .lss (.t 90) (.t 96)),(some (83,false))⟩,yw 98 83 97 80,ji 99 80 98,ja 3 99]
abbrev g33_14 : IL:=[jd 7 1]
abbrev g33_15 : IL:=[ja 100 7,jb 101 1 1,jc 102 101,ja 103 6,jl 104 5 102 103,jb 105 2 104,jc 106 105,jj 107 1 106,jn 108 100 107]
abbrev g33_17 : IL:=[ja 111 3,ja 112 111,jh 113 1 1 112,zk 114 0 1 113 112,jf 115 6 112,jz 116 5 114 115 112,jh 117 2 116 112,yl 118 117 112,jf 119 7 112,jau 120 119 1 112,jz 121 3 118 120 112,jh 122 1 121 112,yl 123 122 112,jh 124 1 1 112,zk 125 0 1 124 112,jf 126 6 112,jz 127 5 125 126 112,jh 128 2 127 112,yl 129 128 112,jf 130 7 112,jz 131 3 129 130 112,jh 132 1 131 112,yl 133 132 112,zx 134 123 133 112,ji 135 112 134,ja 3 135]
abbrev g33_16 : IL:=[ja 109 7,jm 110 109 1,ja 7 110]
abbrev l33_2 : RC:=.seq (jQ g33_15 (jX 108 6)) (.seq (.block 7 (.draw g33_17)) (.reg g33_16))
abbrev g33_12 : IL:=[ja 77 6,jm 78 77 1,ja 6 78]
abbrev l33_3 : RC:=.seq (jQ g33_11 (jX 76 4)) (.seq (.block 5 (jD g33_13 (jQ g33_14 (.block 6 (.loop l33_2))))) (.reg g33_12))
abbrev g33_18 : IL:=[ja 136 3,ja 2 136]
abbrev r33 : RC:=jQ g33_0 (jQ g33_1 (.seq (jQ g33_2 (.block 0 (.loop l33_1))) (.seq (jQ g33_10 (.block 4 (.loop l33_3))) (jQ g33_18 (.ret)))))
abbrev o33 : List RR:=[.tmp 2]
theorem k33 : CT 33 137 r33 o33:=ck Tryz.func33 Tryz.ntmps33 (by decide +kernel)
abbrev g35_0 : IL:=[jg 1 1 0,jk 2]
abbrev g35_1 : IL:=[yf 3]
abbrev g35_2 : IL:=[jd 4 0]
abbrev g35_3 : IL:=[ja 13 4,jb 14 0 1,jc 15 14,jj 16 1 15,jn 17 13 16]
abbrev g35_5 : IL:=[jd 5 0]
abbrev g35_6 : IL:=[ja 20 5,jb 21 0 1,jc 22 21,ja 23 4,jl 24 3 22 23,jb 25 1 24,jc 26 25,jj 27 1 26,jn 28 20 27]
abbrev g35_8 : IL:=[jb 31 0 1,jc 32 31,ja 33 4,jl 34 3 32 33,jb 35 1 34,jc 36 35,ja 37 5,jl 38 8 36 37,jb 39 0 38,jc 40 39,ja 6 40]
abbrev g35_9 : IL:=[ja 41 3,ja 42 41,jf 43 6 42,⟨some 44,.val (.bin .num .geq (.t 43) (.c (.int .i64 1))),(some (42,true))⟩,ji 45 42 44,ja 46 45,jf 47 6 46,yj 48 47 65535 46,ji 49 46 48,ja 3 49]
abbrev g35_7 : IL:=[ja 29 5,jm 30 29 1,ja 5 30]
abbrev l35_0 : RC:=.seq (jQ g35_6 (jX 28 2)) (.seq (.block 3 (jQ g35_8 (.reg g35_9))) (.reg g35_7))
abbrev g35_4 : IL:=[ja 18 4,jm 19 18 1,ja 4 19]
abbrev l35_1 : RC:=.seq (jQ g35_3 (jX 17 0)) (.seq (.block 1 (jQ g35_5 (.block 2 (.loop l35_0)))) (.reg g35_4))
abbrev g35_10 : IL:=[jd 7 0]
abbrev g35_11 : IL:=[ja 50 7,jb 51 1 1,jc 52 51,jj 53 1 52,jn 54 50 53]
abbrev g35_13 : IL:=[jb 57 1 1,jc 58 57,ja 59 7,jl 60 5 58 59,je 61 5 60,zz 8 8,jp 5 8 61]
abbrev g35_14 : IL:=[jd 9 0]
abbrev g35_15 : IL:=[ja 62 9,jb 63 2 8,jc 64 63,jj 65 1 64,jn 66 62 65]
abbrev g35_17 : IL:=[jb 69 2 8,jc 70 69,ja 71 9,jl 72 3 70 71,jb 73 1 72,jc 74 73,ja 10 74]
abbrev g35_18 : IL:=[ja 75 3,ja 76 75,jf 77 10 76,yj 78 77 2147483647 76,ji 79 76 78,ja 80 79,jf 81 9 80,jaf 82 81 0 80,jf 83 82 80,jv 84 10 83,yo 85 84 0 83,yw 86 83 85 80,ji 87 80 86,ja 88 87,jh 89 3 8 88,jo 90 89 88,jf 91 10 88,zp 92 72 90 91 88,ym 93 92 88,ji 94 88 93,ja 3 94]
abbrev g35_16 : IL:=[ja 67 9,jm 68 67 1,ja 9 68]
abbrev l35_2 : RC:=.seq (jQ g35_15 (jX 66 6)) (.seq (.block 7 (jQ g35_17 (.reg g35_18))) (.reg g35_16))
abbrev g35_19 : IL:=[jd 11 0]
abbrev g35_20 : IL:=[ja 95 11,jb 96 3 8,jc 97 96,jj 98 1 97,jn 99 95 98]
abbrev g35_22 : IL:=[jb 102 3 8,jc 103 102,ja 104 11,jl 105 2 103 104,je 106 2 105,⟨some 12,.allocN 12 [.int .i64 0,.int .i64 0],none⟩,jp 2 12 106]
abbrev g35_23 : IL:=[ja 107 3,ja 108 107,jh 109 0 12 108,zk 110 0 12 109 108,⟨some 111,.val (.bin .num .geq (.t 110) (.c (.int .i64 0))),(some (108,true))⟩,ji 112 108 111,ja 113 112,jh 114 1 12 113,zk 115 0 12 114 113,yj 116 115 2147483647 113,ji 117 113 116,ja 118 117,jh 119 0 12 118,zk 120 0 12 119 118,jh 121 1 12 118,zk 122 0 12 121 118,jao 123 120 122 118,ji 124 118 123,ja 125 124,jf 126 11 125,yh 127 126 0 125,jf 128 127 125,js 129 0 12 128,zb 130 0 12 129 128,js 131 3 8 128,zb 132 0 8 131 128,jv 133 11 128,jab 134 133 1 128,ze 135 2 132 134 128,js 136 1 135 128,zt 137 136 128,⟨some 138,.val (.bin .num .gtr (.t 130) (.t 137)),(some (128,false))⟩,yw 139 128 138 125,ji 140 125 139,ja 3 140]
abbrev g35_21 : IL:=[ja 100 11,jm 101 100 1,ja 11 101]
abbrev l35_3 : RC:=.gho (.drop 12) (.seq (jQ g35_20 (jX 99 8)) (.seq (.block 9 (jQ g35_22 (.draw g35_23))) (.reg g35_21)))
abbrev g35_12 : IL:=[ja 55 7,jm 56 55 1,ja 7 56]
abbrev l35_4 : RC:=.gho (.drop 12) (.gho (.drop 8) (.seq (jQ g35_11 (jX 54 4)) (.seq (.block 5 (jQ g35_13 (.seq (jQ g35_14 (.block 6 (.loop l35_2))) (jQ g35_19 (.block 8 (.loop l35_3)))))) (.reg g35_12))))
abbrev g35_24 : IL:=[ja 141 3,ja 2 141]
abbrev r35 : RC:=jQ g35_0 (jQ g35_1 (.seq (jQ g35_2 (.block 0 (.loop l35_1))) (.seq (jQ g35_10 (.block 4 (.loop l35_4))) (jQ g35_24 (.ret)))))
abbrev o35 : List RR:=[.tmp 2]
theorem k35 : CT 35 142 r35 o35:=ck Tryz.func35 Tryz.ntmps35 (by decide +kernel)
abbrev g71_0 : IL:=[jk 2]
abbrev g71_1 : IL:=[ja 3 0,jr 4 115 3,ja 5 4,jf 6 0 5,yv 7 114 6 5,ym 8 7 5,ji 9 5 8,ja 2 9]
abbrev r71 : RC:=jQ g71_0 (jQ g71_1 (.ret))
abbrev o71 : List RR:=[.tmp 2]
theorem k71 : CT 71 10 r71 o71:=ck Tryz.func71 Tryz.ntmps71 (by decide +kernel)
abbrev g34_0 : IL:=[jg 1 1 0,jk 2]
abbrev g34_1 : IL:=[yf 3]
abbrev g34_2 : IL:=[jd 4 0]
abbrev g34_3 : IL:=[ja 13 4,jb 14 0 1,jc 15 14,jj 16 1 15,jn 17 13 16]
abbrev g34_5 : IL:=[jd 5 0]
abbrev g34_6 : IL:=[ja 20 5,jb 21 1 1,jc 22 21,jj 23 1 22,jn 24 20 23]
abbrev g34_8 : IL:=[ja 27 3,ja 28 27,jh 29 0 1 28,zk 30 0 1 29 28,jf 31 4 28,jz 32 3 30 31 28,jh 33 0 32 28,yl 34 33 28,jh 35 1 1 28,zk 36 0 1 35 28,jf 37 5 28,jz 38 5 36 37 28,jh 39 0 38 28,yl 40 39 28,⟨some 41,.val (.bin .str .neq (.t 34) (.t 40)),(some (28,true))⟩,ji 42 28 41,ja 3 42]
abbrev g34_7 : IL:=[ja 25 5,jm 26 25 1,ja 5 26]
abbrev l34_0 : RC:=.seq (jQ g34_6 (jX 24 2)) (.seq (.block 3 (.draw g34_8)) (.reg g34_7))
abbrev g34_9 : IL:=[jb 43 0 1,jc 44 43,ja 45 4,jl 46 3 44 45,jb 47 1 46,jc 48 47,ja 6 48]
abbrev g34_10 : IL:=[jd 7 0]
abbrev g34_11 : IL:=[ja 49 7,ja 50 6,jj 51 1 50,jn 52 49 51]
abbrev g34_13 : IL:=[jd 8 0]
abbrev g34_14 : IL:=[ja 55 8,ja 56 7,jn 57 55 56]
abbrev g34_16 : IL:=[ja 60 3,ja 61 60,jf 62 6 61,jf 63 8 61,jz 64 8 62 63 61,jh 65 1 64 61,yl 66 65 61,jf 67 6 61,jf 68 7 61,jz 69 8 67 68 61,jh 70 1 69 61,yl 71 70 61,⟨some 72,.val (.bin .str .neq (.t 66) (.t 71)),(some (61,true))⟩,ji 73 61 72,ja 3 73]
abbrev g34_15 : IL:=[ja 58 8,jm 59 58 1,ja 8 59]
abbrev l34_1 : RC:=.seq (jQ g34_14 (jX 57 6)) (.seq (.block 7 (.draw g34_16)) (.reg g34_15))
abbrev g34_12 : IL:=[ja 53 7,jm 54 53 1,ja 7 54]
abbrev l34_2 : RC:=.seq (jQ g34_11 (jX 52 4)) (.seq (.block 5 (jQ g34_13 (.block 6 (.loop l34_1)))) (.reg g34_12))
abbrev g34_4 : IL:=[ja 18 4,jm 19 18 1,ja 4 19]
abbrev l34_3 : RC:=.seq (jQ g34_3 (jX 17 0)) (.seq (.block 1 (.seq (jQ g34_5 (.block 2 (.loop l34_0))) (jQ g34_9 (jQ g34_10 (.block 4 (.loop l34_2)))))) (.reg g34_4))
abbrev g34_17 : IL:=[jd 9 0]
abbrev g34_18 : IL:=[ja 74 9,jb 75 1 1,jc 76 75,jj 77 1 76,jn 78 74 77]
abbrev g34_20 : IL:=[jb 81 1 1,jc 82 81,ja 83 9,jl 84 5 82 83,jb 85 2 84,jc 86 85,ja 10 86]
abbrev g34_21 : IL:=[jd 11 0]
abbrev g34_22 : IL:=[ja 87 11,ja 88 10,jj 89 1 88,jn 90 87 89]
abbrev g34_24 : IL:=[jd 12 0]
abbrev g34_25 : IL:=[ja 93 12,ja 94 11,jn 95 93 94]
abbrev g34_27 : IL:=[ja 98 3,ja 99 98,jf 100 10 99,jf 101 12 99,jz 102 3 100 101 99,jh 103 0 102 99,yl 104 103 99,jf 105 10 99,jf 106 11 99,jz 107 3 105 106 99,jh 108 0 107 99,yl 109 108 99,⟨some 110,.val (.bin .str .neq (.t 104) (.t 109)),(some (99,true))⟩,ji 111 99 110,ja 3 111]
abbrev g34_26 : IL:=[ja 96 12,jm 97 96 1,ja 12 97]
abbrev l34_4 : RC:=.seq (jQ g34_25 (jX 95 12)) (.seq (.block 13 (.draw g34_27)) (.reg g34_26))
abbrev g34_23 : IL:=[ja 91 11,jm 92 91 1,ja 11 92]
abbrev l34_5 : RC:=.seq (jQ g34_22 (jX 90 10)) (.seq (.block 11 (jQ g34_24 (.block 12 (.loop l34_4)))) (.reg g34_23))
abbrev g34_19 : IL:=[ja 79 9,jm 80 79 1,ja 9 80]
abbrev l34_6 : RC:=.seq (jQ g34_18 (jX 78 8)) (.seq (.block 9 (jQ g34_20 (jQ g34_21 (.block 10 (.loop l34_5))))) (.reg g34_19))
abbrev g34_28 : IL:=[ja 112 3,ja 2 112]
abbrev r34 : RC:=jQ g34_0 (jQ g34_1 (.seq (jQ g34_2 (.block 0 (.loop l34_3))) (.seq (jQ g34_17 (.block 8 (.loop l34_6))) (jQ g34_28 (.ret)))))
abbrev o34 : List RR:=[.tmp 2]
theorem k34 : CT 34 113 r34 o34:=ck Tryz.func34 Tryz.ntmps34 (by decide +kernel)
abbrev g120_0 : IL:=[jg 2 2 0,jg 3 3 1,jk 4]
abbrev g120_1 : IL:=[jb 5 5 3,jc 6 5]
abbrev g120_2 : IL:=[jq 8 6 10,ja 7 8]
abbrev g120_3 : IL:=[jb 9 6 3,jc 10 9,yn 11 10 0,ja 12 11,jh 13 6 3 12,jo 14 13 12,jh 15 0 2 12,jo 16 15 12,yc 17 1 16 12,zx 18 14 17 12,ji 19 12 18,ja 20 19,jh 21 3 3 20,jo 22 21 20,zl 23 22 3 20,ji 24 20 23,ja 4 24]
abbrev g120_4 : IL:=[jq 26 6 9,ja 25 26]
abbrev g120_5 : IL:=[jb 27 6 3,jc 28 27,yn 29 28 0,ja 30 29,jh 31 6 3 30,jo 32 31 30,jh 33 1 2 30,jo 34 33 30,yc 35 1 34 30,zx 36 32 35 30,ji 37 30 36,ja 4 37]
abbrev g120_6 : IL:=[jb 38 6 3,jc 39 38,jq 40 39 (-1),ja 4 40]
abbrev r120 : RC:=jQ g120_0 (.seq (jQ g120_1 (.block 0 (jQ g120_2 (.cond (.t 7) (jQ g120_3 (.ret)) (jQ g120_4 (.cond (.t 25) (jQ g120_5 (.ret)) (.skip))))))) (jQ g120_6 (.ret)))
abbrev o120 : List RR:=[.tmp 4]
theorem k120 : CT 120 41 r120 o120:=ck Tryz.func120 Tryz.ntmps120 (by decide +kernel)
abbrev g80_0 : IL:=[jd 4 0]
abbrev g80_1 : IL:=[ja 6 0,jj 7 1 6,jd 8 0]
abbrev g80_2 : IL:=[jn 9 8 7]
abbrev g80_3 : IL:=[ja 10 8,ja 5 10]
abbrev g80_4 : IL:=[ja 11 1,ja 12 0,ja 13 5,jl 14 8 12 13,je 15 8 14,zs 16 11 15]
abbrev g80_5 : IL:=[ja 17 5,ja 4 17]
abbrev g80_6 : IL:=[jm 18 8 1,ja 8 18]
abbrev l80_0 : RC:=jQ g80_2 (.seq (jX 9 0) (.seq (.block 1 (jQ g80_3 (jQ g80_4 (.cond (.t 16) (jQ g80_5 (.ret)) (.skip))))) (.reg g80_6)))
abbrev g80_7 : IL:=[jd 4 (-1)]
abbrev r80 : RC:=jQ g80_0 (.seq (jQ g80_1 (.block 0 (.loop l80_0))) (jQ g80_7 (.ret)))
abbrev o80 : List RR:=[.tmp 4]
theorem k80 : CT 80 19 r80 o80:=ck Tryz.func80 Tryz.ntmps80 (by decide +kernel)
abbrev g172_0 : IL:=[jd 4 0]
abbrev g172_1 : IL:=[ja 6 0,jj 7 1 6,jd 8 0]
abbrev g172_2 : IL:=[jn 9 8 7]
abbrev g172_3 : IL:=[ja 10 8,ja 5 10]
abbrev g172_4 : IL:=[ja 11 1,ja 12 0,ja 13 5,jl 14 3 12 13,je 15 3 14,zs 16 11 15]
abbrev g172_5 : IL:=[ja 17 5,ja 4 17]
abbrev g172_6 : IL:=[jm 18 8 1,ja 8 18]
abbrev l172_0 : RC:=jQ g172_2 (.seq (jX 9 0) (.seq (.block 1 (jQ g172_3 (jQ g172_4 (.cond (.t 16) (jQ g172_5 (.ret)) (.skip))))) (.reg g172_6)))
abbrev g172_7 : IL:=[jd 4 (-1)]
abbrev r172 : RC:=jQ g172_0 (.seq (jQ g172_1 (.block 0 (.loop l172_0))) (jQ g172_7 (.ret)))
abbrev o172 : List RR:=[.tmp 4]
theorem k172 : CT 172 19 r172 o172:=ck Tryz.func172 Tryz.ntmps172 (by decide +kernel)
abbrev g142_0 : IL:=[jk 4]
abbrev g142_1 : IL:=[ja 5 0,ja 6 1,yq 7 172 5 6,yn 8 7 0,ja 4 8]
abbrev r142 : RC:=jQ g142_0 (jQ g142_1 (.ret))
abbrev o142 : List RR:=[.tmp 4]
theorem k142 : CT 142 9 r142 o142:=ck Tryz.func142 Tryz.ntmps142 (by decide +kernel)
abbrev g181_0 : IL:=[jk 2]
abbrev g181_1 : IL:=[ja 3 0,jr 4 208 3,ys 5 4 0,ja 2 5]
abbrev r181 : RC:=jQ g181_0 (jQ g181_1 (.ret))
abbrev o181 : List RR:=[.tmp 2]
theorem k181 : CT 181 6 r181 o181:=ck Tryz.func181 Tryz.ntmps181 (by decide +kernel)
abbrev g208_0 : IL:=[jd 2 0]
abbrev g208_1 : IL:=[ja 5 0,⟨some 6,.rngs 6 (.t 5),none⟩]
abbrev g208_2 : IL:=[⟨some 7,.nxts (.t 6),none⟩,jy 8 7 0]
abbrev g208_3 : IL:=[jy 9 7 1,jy 10 7 2,ja 3 9,ja 4 10]
abbrev g208_4 : IL:=[ja 11 0,ja 12 3,ja 13 4,yt 14 227 11 12 13]
abbrev g208_5 : IL:=[ja 15 3,ja 2 15]
abbrev l208_0 : RC:=jQ g208_2 (.seq (jX 8 0) (.block 1 (jQ g208_3 (jQ g208_4 (.cond (.t 14) (jQ g208_5 (.ret)) (.skip))))))
abbrev g208_6 : IL:=[jd 2 (-1)]
abbrev r208 : RC:=jQ g208_0 (.seq (jQ g208_1 (.block 0 (.loop l208_0))) (jQ g208_6 (.ret)))
abbrev o208 : List RR:=[.tmp 2]
theorem k208 : CT 208 16 r208 o208:=ck Tryz.func208 Tryz.ntmps208 (by decide +kernel)
abbrev g227_0 : IL:=[jk 6]
abbrev g227_1 : IL:=[ja 7 2,⟨some 8,.val (.bin .num .eql (.t 7) (.c (.int .i32 65533))),none⟩,ja 9 8,jf 10 0 9,jf 11 1 9,⟨some 12,.val (.slc none (.t 10) (some (.t 11)) none none),(some (9,true))⟩,⟨some 13,.call (.f 236) [(.t 12),(.c (.str [239,191,189]))],(some (9,true))⟩,ym 14 13 9,ji 15 9 14,ja 6 15]
abbrev r227 : RC:=jQ g227_0 (jQ g227_1 (.ret))
abbrev o227 : List RR:=[.tmp 6]
theorem k227 : CT 227 16 r227 o227:=ck Tryz.func227 Tryz.ntmps227 (by decide +kernel)
abbrev g236_0 : IL:=[jk 4]
abbrev g236_1 : IL:=[ja 5 0,ja 6 1,ju 7 243 5 6,ja 4 7]
abbrev r236 : RC:=jQ g236_0 (jQ g236_1 (.ret))
abbrev o236 : List RR:=[.tmp 4]
theorem k236 : CT 236 8 r236 o236:=ck Tryz.func236 Tryz.ntmps236 (by decide +kernel)
abbrev g243_0 : IL:=[jk 4]
abbrev g243_1 : IL:=[ja 5 0,jj 6 0 5,ja 7 1,jj 8 0 7,⟨some 9,.val (.bin .num .geq (.t 6) (.t 8)),none⟩,ja 10 9,jf 11 0 10,jf 12 1 10,yc 13 0 12 10,⟨some 14,.val (.slc none (.t 11) none (some (.t 13)) none),(some (10,true))⟩,jf 15 1 10,⟨some 16,.val (.bin .str .eql (.t 14) (.t 15)),(some (10,true))⟩,ji 17 10 16,ja 4 17]
abbrev r243 : RC:=jQ g243_0 (jQ g243_1 (.ret))
abbrev o243 : List RR:=[.tmp 4]
theorem k243 : CT 243 18 r243 o243:=ck Tryz.func243 Tryz.ntmps243 (by decide +kernel)
abbrev g195_0 : IL:=[jg 3 3 1,jk 4]
abbrev g195_1 : IL:=[ja 5 0,jr 6 87 5,yb 7 6,ja 8 7,js 9 0 3 8,jw 10 9 8,jv 11 0 8,jap 12 10 11 8,jt 13 8 12,ja 14 13,yx 15 7 3 14,yr 16 88 15 14,zm 17 16 14,jt 18 14 17,ja 19 18,jv 20 0 19,js 21 1 3 19,jw 22 21 19,⟨some 23,.call (.f 218) [(.t 20),(.t 22)],(some (19,false))⟩,zm 24 23 19,jt 25 19 24,ja 26 25,js 27 2 3 26,jw 28 27 26,yy 29 0 28 26,zf 30 29 4096 26,jt 31 26 30]
abbrev g195_2 : IL:=[jk 4]
abbrev g195_3 : IL:=[ja 32 0,ya 33 32 7,ja 34 33,js 35 2 3 34,jw 36 35 34,yr 37 181 36 34,jt 38 34 37,ja 4 38]
abbrev r195 : RC:=jQ g195_0 (.seq (jQ g195_1 (.cond (.t 31) (jQ g195_2 (.ret)) (.skip))) (jQ g195_3 (.ret)))
abbrev o195 : List RR:=[.tmp 4]
theorem k195 : CT 195 39 r195 o195:=ck Tryz.func195 Tryz.ntmps195 (by decide +kernel)
abbrev g218_0 : IL:=[jk 4]
abbrev g218_1 : IL:=[⟨some 5,.val (.mov (.c (.int .u64 4294967295))),none⟩]
abbrev g218_2 : IL:=[ja 6 0]
abbrev g218_3 : IL:=[jq 8 6 1,ja 7 8]
abbrev g218_4 : IL:=[jq 10 6 2,ja 9 10]
abbrev g218_5 : IL:=[jq 12 6 9,ja 11 12]
abbrev g218_6 : IL:=[jq 14 6 4,ja 13 14]
abbrev g218_7 : IL:=[ja 15 1,⟨some 16,.val (.bin .num .leq (.t 15) (.c (.int .u64 1))),none⟩,ja 4 16]
abbrev g218_8 : IL:=[ja 17 1,⟨some 18,.val (.cvi .i64 (.t 17)),none⟩,yn 19 18 (-2147483648),ja 20 19,jf 21 1 20,⟨some 22,.val (.cvi .i64 (.t 21)),(some (20,true))⟩,yj 23 22 2147483647 20,ji 24 20 23,ja 4 24]
abbrev g218_9 : IL:=[⟨some 5,.val (.mov (.c (.int .u64 2147483647))),none⟩]
abbrev g218_10 : IL:=[ja 25 1,ja 26 5,⟨some 27,.val (.bin .num .leq (.t 25) (.t 26)),none⟩,ja 4 27]
abbrev g218_11 : IL:=[yf 4]
abbrev r218 : RC:=jQ g218_0 (jQ g218_1 (.seq (jQ g218_2 (.block 0 (.seq (.block 4 (.seq (.block 3 (.seq (.block 2 (.seq (.block 1 (.seq (.seq (jQ g218_3 (.cond (.t 7) (.exit 1) (.skip))) (.seq (jQ g218_4 (.cond (.t 9) (.exit 2) (.skip))) (.seq (jQ g218_5 (.cond (.t 11) (.exit 3) (.skip))) (jQ g218_6 (.cond (.t 13) (.exit 4) (.skip)))))) (.exit 0))) (.seq (jQ g218_7 (.ret)) (.exit 0)))) (.seq (jQ g218_8 (.ret)) (.exit 0)))) (.reg g218_9))) (.seq (jQ g218_10 (.ret)) (.exit 0))))) (jQ g218_11 (.ret))))
abbrev o218 : List RR:=[.tmp 4]
theorem k218 : CT 218 28 r218 o218:=ck Tryz.func218 Tryz.ntmps218 (by decide +kernel)
abbrev g88_0 : IL:=[jg 1 1 0,jk 2]
abbrev g88_1 : IL:=[jb 3 3 1,jc 4 3,jj 5 1 4,jb 6 4 1,jc 7 6,jj 8 1 7,zi 9 5 8,jb 10 5 1,jc 11 10,jj 12 1 11,zi 13 9 12,jb 14 6 1,jc 15 14,jj 16 1 15,zi 17 13 16,yz 18 17 0]
abbrev g88_2 : IL:=[jk 2]
abbrev g88_3 : IL:=[jb 19 0 1,jc 20 19,jr 21 135 20]
abbrev g88_4 : IL:=[jb 22 1 1,jc 23 22,zw 24 23 0,ja 2 24]
abbrev g88_5 : IL:=[jb 25 2 1,jc 26 25,⟨some 27,.val (.bin .str .eql (.t 26) (.c (.str []))),none⟩,ja 2 27]
abbrev r88 : RC:=jQ g88_0 (.seq (jQ g88_1 (.cond (.t 18) (jQ g88_2 (.ret)) (.skip))) (.seq (jQ g88_3 (.cond (.t 21) (jQ g88_4 (.ret)) (.skip))) (jQ g88_5 (.ret))))
abbrev o88 : List RR:=[.tmp 2]
theorem k88 : CT 88 28 r88 o88:=ck Tryz.func88 Tryz.ntmps88 (by decide +kernel)
abbrev g135_0 : IL:=[jk 2]
abbrev g135_1 : IL:=[ja 3 0,jq 4 3 7,ja 5 4,jv 6 0 5,yo 7 6 8 5,jt 8 5 7,ja 2 8]
abbrev r135 : RC:=jQ g135_0 (jQ g135_1 (.ret))
abbrev o135 : List RR:=[.tmp 2]
theorem k135 : CT 135 9 r135 o135:=ck Tryz.func135 Tryz.ntmps135 (by decide +kernel)
abbrev g87_0 : IL:=[jk 2]
abbrev g87_1 : IL:=[ja 3 0,yn 4 3 1,ja 5 4,jf 6 0 5,yj 7 6 9 5,ji 8 5 7,ja 2 8]
abbrev r87 : RC:=jQ g87_0 (jQ g87_1 (.ret))
abbrev o87 : List RR:=[.tmp 2]
theorem k87 : CT 87 9 r87 o87:=ck Tryz.func87 Tryz.ntmps87 (by decide +kernel)
abbrev g4_0 : IL:=[jg 1 1 0,jk 2]
abbrev g4_1 : IL:=[jb 3 0 1,jc 4 3,jj 5 1 4,zu 6 5 8,ja 7 6,jh 8 1 1 7,jo 9 8 7,yc 10 1 9 7,yj 11 10 8 7,ji 12 7 11,ja 13 12,zg 14 2 1 13,yv 15 12 14 13,yh 16 15 0 13,ji 17 13 16,ja 2 17]
abbrev r4 : RC:=jQ g4_0 (jQ g4_1 (.ret))
abbrev o4 : List RR:=[.tmp 2]
theorem k4 : CT 4 18 r4 o4:=ck Tryz.func4 Tryz.ntmps4 (by decide +kernel)
abbrev g5_0 : IL:=[jg 1 1 0,jk 2]
abbrev g5_1 : IL:=[je 3 7 1,jr 4 13 3,zu 5 4 5000,ja 2 5]
abbrev r5 : RC:=jQ g5_0 (jQ g5_1 (.ret))
abbrev o5 : List RR:=[.tmp 2]
theorem k5 : CT 5 6 r5 o5:=ck Tryz.func5 Tryz.ntmps5 (by decide +kernel)
abbrev g6_0 : IL:=[jg 3 3 0,jg 5 5 2,jd 6 0]
abbrev g6_1 : IL:=[ja 8 1,ys 9 8 0,ja 10 9,jv 11 1 10,js 12 0 3 10,jw 13 12 10,yy 14 1 13 10,jae 15 11 14 10,jt 16 10 15]
abbrev g6_2 : IL:=[jd 6 10]
abbrev g6_3 : IL:=[je 17 2 3,ja 18 1,je 19 7 5,⟨some 20,.call (.f 14) [(.t 17),(.t 18),(.t 19),(.c (.int .i64 1))],none⟩,ja 7 20]
abbrev g6_4 : IL:=[ja 21 7,ya 22 21 0]
abbrev g6_5 : IL:=[ja 23 7,ja 6 23]
abbrev g6_6 : IL:=[je 24 7 5,jr 25 13 24,yz 26 25 4096]
abbrev g6_7 : IL:=[jd 6 3]
abbrev g6_8 : IL:=[jd 6 0]
abbrev r6 : RC:=jQ g6_0 (.seq (jQ g6_1 (.cond (.t 16) (jQ g6_2 (.ret)) (.skip))) (.seq (jQ g6_3 (jQ g6_4 (.cond (.t 22) (jQ g6_5 (.ret)) (.skip)))) (.seq (jQ g6_6 (.cond (.t 26) (jQ g6_7 (.ret)) (.skip))) (jQ g6_8 (.ret)))))
abbrev o6 : List RR:=[.tmp 6]
theorem k6 : CT 6 27 r6 o6:=ck Tryz.func6 Tryz.ntmps6 (by decide +kernel)
abbrev g14_0 : IL:=[jg 4 4 0,jg 6 6 2,jd 8 0]
abbrev g14_1 : IL:=[jb 18 0 6,jc 19 18,ya 20 19 10,ja 21 20,yx 22 7 6 21,yr 23 38 22 21,jt 24 21 23]
abbrev g14_2 : IL:=[jd 8 12]
abbrev g14_3 : IL:=[ja 25 3,yz 26 25 16]
abbrev g14_4 : IL:=[jd 8 17]
abbrev g14_5 : IL:=[jb 27 0 4,jc 28 27,ja 29 1,jl 30 3 28 29,je 31 3 30,⟨some 9,.allocN 9 [.str [],.nils,.int .i64 0],none⟩,jp 3 9 31]
abbrev g14_6 : IL:=[jd 10 0]
abbrev g14_7 : IL:=[ja 32 10,jb 33 5 6,jc 34 33,jj 35 1 34,jn 36 32 35]
abbrev g14_9 : IL:=[je 39 3 9,jb 40 5 6,jc 41 40,ja 42 10,yt 43 39 39 41 42,ja 11 43]
abbrev g14_10 : IL:=[ja 44 11,ya 45 44 0]
abbrev g14_11 : IL:=[ja 46 11,ja 8 46]
abbrev g14_12 : IL:=[jx 48 0 9 3 9,jb 49 5 6,ye 50 0 6 49,ja 51 10,jl 52 8 50 51,jb 53 0 52,zj 54 53,ju 55 40 48 54,ja 47 55,jy 56 47 0,jy 57 47 1,za 12 12,zh 0 12 8 12 56,ja 13 57]
abbrev g14_13 : IL:=[jx 58 0 4 2 4,jx 59 0 12 8 12,jb 60 5 6,ye 61 0 6 60,ja 62 10,jl 63 8 61 62,jb 64 1 63,yg 65 7 64,ja 66 3,zc 67 41 58 59 65 66,ja 14 67]
abbrev g14_14 : IL:=[ja 68 14,ya 69 68 0]
abbrev g14_15 : IL:=[ja 70 14,ja 8 70]
abbrev g14_8 : IL:=[ja 37 10,jm 38 37 1,ja 10 38]
abbrev l14_0 : RC:=.gho (.drop 12) (.seq (jQ g14_7 (jX 36 0)) (.seq (.block 1 (.seq (jQ g14_9 (jQ g14_10 (.cond (.t 45) (jQ g14_11 (.ret)) (.skip)))) (jD g14_12 (jD g14_13 (jQ g14_14 (.cond (.t 69) (jQ g14_15 (.ret)) (.skip))))))) (.reg g14_8)))
abbrev g14_16 : IL:=[jd 15 0]
abbrev g14_17 : IL:=[ja 71 15,jb 72 1 9,jc 73 72,jj 74 1 73,jn 75 71 74]
abbrev g14_19 : IL:=[jb 78 1 9,ye 79 0 9 78,ja 80 15,jl 81 8 79 80,jb 82 3 81,zj 83 82,jq 84 83 1,ja 85 84,jad 86 0 6 7 6 85,jh 87 1 9 85,zk 88 0 9 87 85,jf 89 15 85,jz 90 8 88 89 85,jh 91 0 90 85,yl 92 91 85,zp 93 42 86 92 85,ym 94 93 85,ji 95 85 94]
abbrev g14_20 : IL:=[jd 8 14]
abbrev g14_18 : IL:=[ja 76 15,jm 77 76 1,ja 15 77]
abbrev l14_1 : RC:=.seq (jQ g14_17 (jX 75 2)) (.seq (.block 3 (jD g14_19 (.cond (.t 95) (jQ g14_20 (.ret)) (.skip)))) (.reg g14_18))
abbrev g14_21 : IL:=[jd 16 0]
abbrev g14_22 : IL:=[ja 96 16,jb 97 6 6,jc 98 97,jj 99 1 98,jn 100 96 99]
abbrev g14_24 : IL:=[jb 103 6 6,jc 104 103,ja 105 16,jl 106 4 104 105,je 107 4 106,⟨some 17,.allocN 17 [.int .i64 0,.int .i64 0,.int .u64 0,.str []],none⟩,jp 4 17 107]
abbrev g14_25 : IL:=[je 108 2 4,je 109 3 9,je 110 4 17,yt 111 43 108 109 110,yb 112 111]
abbrev g14_26 : IL:=[jd 8 1]
abbrev g14_27 : IL:=[jb 113 1 17,jc 114 113,jq 115 114 3,ja 116 115,jh 117 3 17 116,jo 118 117 116,yc 119 0 118 116,jaf 120 119 4096 116,ji 121 116 120,ja 122 121,js 123 3 17 122,jw 124 123 122,yy 125 0 124 122,zf 126 125 65536 122,jt 127 122 126]
abbrev g14_28 : IL:=[jd 8 3]
abbrev g14_23 : IL:=[ja 101 16,jm 102 101 1,ja 16 102]
abbrev l14_2 : RC:=.gho (.drop 17) (.seq (jQ g14_22 (jX 100 4)) (.seq (.block 5 (jQ g14_24 (.seq (jQ g14_25 (.cond (.t 112) (jQ g14_26 (.ret)) (.skip))) (jQ g14_27 (.cond (.t 127) (jQ g14_28 (.ret)) (.skip)))))) (.reg g14_23)))
abbrev g14_29 : IL:=[jd 8 0]
abbrev r14 : RC:=jQ g14_0 (.seq (jQ g14_1 (.cond (.t 24) (jQ g14_2 (.ret)) (.skip))) (.seq (jQ g14_3 (.cond (.t 26) (jQ g14_4 (.ret)) (.skip))) (jQ g14_5 (.seq (jQ g14_6 (.block 0 (.loop l14_0))) (.seq (jQ g14_16 (.block 2 (.loop l14_1))) (.seq (jQ g14_21 (.block 4 (.loop l14_2))) (jQ g14_29 (.ret))))))))
abbrev o14 : List RR:=[.tmp 8]
theorem k14 : CT 14 128 r14 o14:=ck Tryz.func14 Tryz.ntmps14 (by decide +kernel)
abbrev g38_0 : IL:=[jg 1 1 0,jk 2]
abbrev g38_1 : IL:=[jb 5 0 1,jc 6 5,jq 7 6 7,ja 8 7,js 9 0 1 8,jw 10 9 8,yo 11 10 8 8,jt 12 8 11,ja 3 12]
abbrev g38_2 : IL:=[jb 13 0 1,jc 14 13,jq 15 14 10,ja 4 15]
abbrev g38_3 : IL:=[jb 16 3 1,jc 17 16,jj 18 1 17,yz 19 18 0,ja 20 19,jh 21 0 1 20,jo 22 21 20,zl 23 22 11 20,ji 24 20 23,ja 25 24,js 26 4 1 25,jw 27 26 25,yy 28 1 27 25,zf 29 28 0 25,jv 30 29 25,jh 31 0 1 30,jo 32 31 30,zl 33 32 12 30,yu 34 30 33 25,jt 35 25 34,ja 36 35,js 37 5 1 36,jw 38 37 36,yy 39 1 38 36,js 40 6 1 36,jw 41 40 36,yy 42 1 41 36,⟨some 43,.val (.bin .num .add (.t 39) (.t 42)),(some (36,false))⟩,zf 44 43 0 36,jv 45 44 36,jf 46 4 45,ym 47 46 45,yu 48 45 47 36,jt 49 36 48]
abbrev g38_4 : IL:=[yf 2]
abbrev g38_5 : IL:=[jb 50 1 1,jc 51 50,⟨some 52,.val (.bin .num .neq (.t 51) (.c (.int .u64 0))),none⟩,ja 53 52,jf 54 3 53,jf 55 54 53,js 56 0 1 55,jw 57 56 55,yo 58 57 11 55,yw 59 55 58 53,jf 60 59 53,js 61 0 1 60,jw 62 61 60,yo 63 62 12 60,yw 64 60 63 53,jf 65 64 53,jv 66 4 65,yw 67 65 66 53,ji 68 53 67,ja 69 68,js 70 2 1 69,jw 71 70 69,⟨some 72,.val (.bin .str .neq (.t 71) (.c (.str []))),(some (69,false))⟩,jv 73 72 69,jf 74 3 73,ym 75 74 73,yu 76 73 75 69,jt 77 69 76,ja 2 77]
abbrev r38 : RC:=jQ g38_0 (jQ g38_1 (jQ g38_2 (.seq (jQ g38_3 (.cond (.t 49) (jQ g38_4 (.ret)) (.skip))) (jQ g38_5 (.ret)))))
abbrev o38 : List RR:=[.tmp 2]
theorem k38 : CT 38 78 r38 o38:=ck Tryz.func38 Tryz.ntmps38 (by decide +kernel)
abbrev g39_0 : IL:=[jg 3 3 0,jd 6 0]
abbrev g39_1 : IL:=[jx 14 0 3 3 3,ja 15 1,ja 16 2,jl 17 8 15 16,jb 18 0 17,zj 19 18,ju 20 40 14 19,ja 13 20,jy 21 13 0,jy 22 13 1,za 7 7,zh 0 7 8 7 21,ja 8 22]
abbrev g39_2 : IL:=[ja 23 8,yb 24 23]
abbrev g39_3 : IL:=[jd 6 8]
abbrev g39_4 : IL:=[jk 9]
abbrev g39_5 : IL:=[jd 10 0]
abbrev g39_6 : IL:=[ja 25 10,ja 26 2,jn 27 25 26]
abbrev g39_8 : IL:=[ja 30 1,ja 31 10,jl 32 8 30 31,jb 33 0 32,zj 34 33,ja 35 1,ja 36 2,jl 37 8 35 36,jb 38 0 37,zj 39 38,zo 40 34 39]
abbrev g39_9 : IL:=[jd 6 9]
abbrev g39_10 : IL:=[jx 42 0 3 3 3,ja 43 1,ja 44 10,jl 45 8 43 44,jb 46 0 45,zj 47 46,ju 48 40 42 47,ja 41 48,jy 49 41 0,jy 50 41 1,za 11 11,zh 0 11 8 11 49,ja 12 50]
abbrev g39_11 : IL:=[ja 51 9,ja 52 51,js 53 7 7 52,jw 54 53 52,jam 55 54 (-1) 52,jv 56 55 52,jh 57 7 11 56,jo 58 57 56,jh 59 7 7 56,jo 60 59 56,⟨some 61,.val (.bin .num .eql (.t 58) (.t 60)),(some (56,true))⟩,yu 62 56 61 52,jt 63 52 62,ja 9 63]
abbrev g39_7 : IL:=[ja 28 10,jm 29 28 1,ja 10 29]
abbrev l39_0 : RC:=.gho (.drop 11) (.seq (jQ g39_6 (jX 27 0)) (.seq (.block 1 (.seq (jD g39_8 (.cond (.t 40) (jQ g39_9 (.ret)) (.skip))) (jD g39_10 (.reg g39_11)))) (.reg g39_7)))
abbrev g39_12 : IL:=[ja 64 9]
abbrev g39_13 : IL:=[jd 6 15]
abbrev g39_14 : IL:=[jd 6 0]
abbrev r39 : RC:=jQ g39_0 (jD g39_1 (.seq (jQ g39_2 (.cond (.t 24) (jQ g39_3 (.ret)) (.skip))) (jQ g39_4 (.seq (jQ g39_5 (.block 0 (.loop l39_0))) (.seq (jQ g39_12 (.cond (.t 64) (jQ g39_13 (.ret)) (.skip))) (jQ g39_14 (.ret)))))))
abbrev o39 : List RR:=[.tmp 6]
theorem k39 : CT 39 65 r39 o39:=ck Tryz.func39 Tryz.ntmps39 (by decide +kernel)
abbrev g40_0 : IL:=[jg 2 2 0,za 4 4,jk 5]
abbrev g40_1 : IL:=[jd 6 0]
abbrev g40_2 : IL:=[ja 7 6,jb 8 1 2,jc 9 8,jj 10 1 9,jn 11 7 10]
abbrev g40_4 : IL:=[jb 14 1 2,jc 15 14,ja 16 6,jl 17 8 15 16,jb 18 0 17,jc 19 18,ja 20 1,zo 21 19 20]
abbrev g40_5 : IL:=[jb 22 1 2,jc 23 22,ja 24 6,jl 25 8 23 24,je 26 8 25,jp 8 4 26,yf 5]
abbrev g40_3 : IL:=[ja 12 6,jm 13 12 1,ja 6 13]
abbrev l40_0 : RC:=.seq (jQ g40_2 (jX 11 0)) (.seq (.block 1 (jQ g40_4 (.cond (.t 21) (jQ g40_5 (.ret)) (.skip)))) (.reg g40_3))
abbrev g40_6 : IL:=[⟨some 27,.val (.build [.int .i64 0,.str [],.str [],.int .i64 0,.int .i64 0,.int .i64 0,.int .i64 0,.int .i64 0] []),none⟩,jp 8 4 27,jk 5]
abbrev r40 : RC:=jQ g40_0 (.seq (jQ g40_1 (.block 0 (.loop l40_0))) (jQ g40_6 (.ret)))
abbrev o40 : List RR:=[.cell 4 (some 8),.tmp 5]
theorem k40 : CT 40 28 r40 o40:=ck Tryz.func40 Tryz.ntmps40 (by decide +kernel)
abbrev g41_0 : IL:=[jg 4 4 0,jg 5 5 1,jg 6 6 2,jd 8 0]
abbrev g41_1 : IL:=[jb 11 3 5,jc 12 11]
abbrev g41_2 : IL:=[jq 14 12 5,ja 13 14]
abbrev g41_3 : IL:=[jb 15 0 6,jc 16 15,ya 17 16 12,ja 18 17,yx 19 7 6 18,yr 20 38 19 18,jt 21 18 20]
abbrev g41_4 : IL:=[jd 8 12]
abbrev g41_5 : IL:=[je 22 2 4,je 23 8 5,jb 24 4 6,jc 25 24,ja 26 3,zc 27 76 22 23 25 26,ja 8 27]
abbrev g41_6 : IL:=[jq 29 12 4,ja 28 29]
abbrev g41_7 : IL:=[jb 30 0 6,jc 31 30,ya 32 31 11,ja 33 32,yx 34 7 6 33,yr 35 38 34 33,jt 36 33 35]
abbrev g41_8 : IL:=[jd 8 12]
abbrev g41_9 : IL:=[jd 9 0]
abbrev g41_10 : IL:=[ja 37 9,jb 38 3 6,jc 39 38,jj 40 1 39,jn 41 37 40]
abbrev g41_12 : IL:=[jx 44 0 4 2 4,jx 45 0 5 8 5,jb 46 3 6,ye 47 0 6 46,ja 48 9,jl 49 7 47 48,yg 50 7 49,ja 51 3,zc 52 77 44 45 50 51,ja 10 52]
abbrev g41_13 : IL:=[ja 53 10,ya 54 53 0]
abbrev g41_14 : IL:=[ja 55 10,ja 8 55]
abbrev g41_11 : IL:=[ja 42 9,jm 43 42 1,ja 9 43]
abbrev l41_0 : RC:=.seq (jQ g41_10 (jX 41 1)) (.seq (.block 2 (jD g41_12 (jQ g41_13 (.cond (.t 54) (jQ g41_14 (.ret)) (.skip))))) (.reg g41_11))
abbrev g41_15 : IL:=[jd 8 0]
abbrev g41_16 : IL:=[je 56 2 4,je 57 8 5,je 58 7 6,ja 59 3,zc 60 77 56 57 58 59,ja 8 60]
abbrev r41 : RC:=jQ g41_0 (.seq (jQ g41_1 (.block 0 (jQ g41_2 (.cond (.t 13) (.seq (jQ g41_3 (.cond (.t 21) (jQ g41_4 (.ret)) (.skip))) (jQ g41_5 (.ret))) (jQ g41_6 (.cond (.t 28) (.seq (jQ g41_7 (.cond (.t 36) (jQ g41_8 (.ret)) (.skip))) (.seq (jQ g41_9 (.block 1 (.loop l41_0))) (jQ g41_15 (.ret)))) (.skip))))))) (jQ g41_16 (.ret)))
abbrev o41 : List RR:=[.tmp 8]
theorem k41 : CT 41 61 r41 o41:=ck Tryz.func41 Tryz.ntmps41 (by decide +kernel)
abbrev g42_0 : IL:=[jg 2 2 0,jk 4]
abbrev g42_1 : IL:=[jd 5 0]
abbrev g42_2 : IL:=[ja 6 5,jb 7 5 2,jc 8 7,jj 9 1 8,jn 10 6 9]
abbrev g42_4 : IL:=[jb 13 5 2,jc 14 13,ja 15 5,jl 16 8 14 15,jb 17 0 16,jc 18 17,ja 19 1,zo 20 18 19]
abbrev g42_5 : IL:=[yf 4]
abbrev g42_3 : IL:=[ja 11 5,jm 12 11 1,ja 5 12]
abbrev l42_0 : RC:=.seq (jQ g42_2 (jX 10 0)) (.seq (.block 1 (jQ g42_4 (.cond (.t 20) (jQ g42_5 (.ret)) (.skip)))) (.reg g42_3))
abbrev g42_6 : IL:=[jk 4]
abbrev r42 : RC:=jQ g42_0 (.seq (jQ g42_1 (.block 0 (.loop l42_0))) (jQ g42_6 (.ret)))
abbrev o42 : List RR:=[.tmp 4]
theorem k42 : CT 42 21 r42 o42:=ck Tryz.func42 Tryz.ntmps42 (by decide +kernel)
abbrev g43_0 : IL:=[jg 3 3 0,jg 4 4 1,jg 5 5 2,jk 6]
abbrev g43_1 : IL:=[jb 9 0 5,jc 10 9,ys 11 10 1,ja 12 11,js 13 0 5 12,jw 14 13 12,zf 15 14 65535 12,jt 16 12 15,ja 17 16,js 18 1 5 17,jw 19 18 17,⟨some 20,.val (.bin .num .lss (.t 19) (.c (.int .i64 0))),(some (17,false))⟩,jt 21 17 20,ja 22 21,js 23 1 5 22,jw 24 23 22,zf 25 24 6 22,jt 26 22 25]
abbrev g43_2 : IL:=[jk 6]
abbrev g43_3 : IL:=[jb 27 1 5,jc 28 27,zu 29 28 2,ja 30 29,jh 31 3 5 30,jo 32 31 30,⟨some 33,.val (.bin .str .neq (.t 32) (.c (.str []))),(some (30,true))⟩,ji 34 30 33,ja 35 34,js 36 1 5 35,jw 37 36 35,zf 38 37 2 35,jv 39 38 35,jh 40 2 5 39,jo 41 40 39,⟨some 42,.val (.bin .num .neq (.t 41) (.c (.int .u64 0))),(some (39,true))⟩,yu 43 39 42 35,jt 44 35 43]
abbrev g43_4 : IL:=[jk 6]
abbrev g43_5 : IL:=[je 46 3 4,jb 47 0 5,jc 48 47,ju 49 40 46 48,ja 45 49,jy 50 45 0,jy 51 45 1,za 7 7,jp 8 7 50,ja 8 51]
abbrev g43_6 : IL:=[ja 52 8,yb 53 52]
abbrev g43_7 : IL:=[yf 6]
abbrev g43_8 : IL:=[jb 54 5 7,jc 55 54,jq 56 55 9,ja 57 56,jh 58 1 3 57,jo 59 58 57,jh 60 6 7 57,jo 61 60 57,jz 62 5 59 61 57,jh 63 1 62 57,jo 64 63 57,ym 65 64 57,ji 66 57 65,ja 67 66,jh 68 3 7 67,jo 69 68 67,zl 70 69 5 67,ji 71 67 70,ja 72 71,jh 73 1 5 72,jo 74 73 72,yh 75 74 0 72,ji 76 72 75,ja 77 76,jh 78 2 5 77,jo 79 78 77,⟨some 80,.val (.bin .num .leq (.t 79) (.c (.int .u64 2147483647))),(some (77,true))⟩,ji 81 77 80,ja 82 81,zg 83 2 3 82,jh 84 6 7 82,jo 85 84 82,jh 86 2 5 82,jo 87 86 82,jah 88 78 83 85 87 82,ym 89 88 82,ji 90 82 89,ja 6 90]
abbrev r43 : RC:=jQ g43_0 (.seq (jQ g43_1 (.cond (.t 26) (jQ g43_2 (.ret)) (.skip))) (.seq (jQ g43_3 (.cond (.t 44) (jQ g43_4 (.ret)) (.skip))) (jQ g43_5 (.seq (jQ g43_6 (.cond (.t 53) (jQ g43_7 (.ret)) (.skip))) (jQ g43_8 (.ret))))))
abbrev o43 : List RR:=[.tmp 6]
theorem k43 : CT 43 91 r43 o43:=ck Tryz.func43 Tryz.ntmps43 (by decide +kernel)
abbrev g76_0 : IL:=[jg 4 4 0,jg 5 5 1,jd 8 0]
abbrev g76_1 : IL:=[jd 9 0]
abbrev g76_2 : IL:=[ja 13 9,ja 14 2,jj 15 1 14,jn 16 13 15]
abbrev g76_4 : IL:=[jx 19 0 4 2 4,jb 20 4 5,ye 21 0 5 20,ja 22 2,ja 23 9,jl 24 14 22 23,jb 25 0 24,yg 26 7 25,⟨some 27,.call (.f 121) [(.t 19),(.t 21),(.c (.int .i64 (-1))),(.t 26)],none⟩,ja 10 27]
abbrev g76_5 : IL:=[ja 28 10,ya 29 28 0]
abbrev g76_6 : IL:=[ja 30 10,ja 8 30]
abbrev g76_7 : IL:=[jd 11 0]
abbrev g76_8 : IL:=[ja 31 11,ja 32 9,jn 33 31 32]
abbrev g76_10 : IL:=[ja 36 2,ja 37 11,jl 38 14 36 37,jb 39 0 38,yg 40 7 39,ja 41 2,ja 42 9,jl 43 14 41 42,jb 44 0 43,yg 45 7 44,ju 46 23 40 45]
abbrev g76_11 : IL:=[jd 8 9]
abbrev g76_9 : IL:=[ja 34 11,jm 35 34 1,ja 11 35]
abbrev l76_0 : RC:=.seq (jQ g76_8 (jX 33 2)) (.seq (.block 3 (jD g76_10 (.cond (.t 46) (jQ g76_11 (.ret)) (.skip)))) (.reg g76_9))
abbrev g76_12 : IL:=[jx 47 0 4 2 4,jx 48 0 5 8 5,ja 49 2,ja 50 9,jl 51 14 49 50,jb 52 7 51,yg 53 7 52,ja 54 3,zc 55 77 47 48 53 54,ja 12 55]
abbrev g76_13 : IL:=[ja 56 12,ya 57 56 0]
abbrev g76_14 : IL:=[ja 58 12,ja 8 58]
abbrev g76_3 : IL:=[ja 17 9,jm 18 17 1,ja 9 18]
abbrev l76_1 : RC:=.seq (jQ g76_2 (jX 16 0)) (.seq (.block 1 (.seq (jD g76_4 (jQ g76_5 (.cond (.t 29) (jQ g76_6 (.ret)) (.skip)))) (.seq (jQ g76_7 (.block 2 (.loop l76_0))) (jD g76_12 (jQ g76_13 (.cond (.t 57) (jQ g76_14 (.ret)) (.skip))))))) (.reg g76_3))
abbrev g76_15 : IL:=[jd 8 0]
abbrev r76 : RC:=jQ g76_0 (.seq (jQ g76_1 (.block 0 (.loop l76_1))) (jQ g76_15 (.ret)))
abbrev o76 : List RR:=[.tmp 8]
theorem k76 : CT 76 59 r76 o76:=ck Tryz.func76 Tryz.ntmps76 (by decide +kernel)
abbrev g77_0 : IL:=[jg 4 4 0,jg 5 5 1,jg 6 6 2,jd 8 0]
abbrev g77_1 : IL:=[jb 9 5 5,jc 10 9,jq 11 10 10]
abbrev g77_2 : IL:=[je 12 2 4,jb 13 6 5,jc 14 13,je 15 7 6,ja 16 3,jm 17 16 1,zc 18 14 12 14 15 17,ja 8 18]
abbrev g77_3 : IL:=[je 19 2 4,jb 20 5 5,jc 21 20,jb 22 6 5,jc 23 22,je 24 7 6,zc 25 121 19 21 23 24,ja 8 25]
abbrev r77 : RC:=jQ g77_0 (.seq (jQ g77_1 (.cond (.t 11) (jQ g77_2 (.ret)) (.skip))) (jQ g77_3 (.ret)))
abbrev o77 : List RR:=[.tmp 8]
theorem k77 : CT 77 26 r77 o77:=ck Tryz.func77 Tryz.ntmps77 (by decide +kernel)
abbrev g121_0 : IL:=[jg 4 4 0,jg 7 7 3,jd 8 0]
abbrev g121_1 : IL:=[jb 10 0 7,jc 11 10,ja 12 1,zq 13 11 12,ja 14 13,yx 15 7 7 14,yr 16 38 15 14,jt 17 14 16,ja 9 17]
abbrev g121_2 : IL:=[jd 8 12]
abbrev g121_3 : IL:=[jb 19 2 7,jc 20 19,jj 21 0 20,yz 22 21 4096,ja 18 22]
abbrev g121_4 : IL:=[jd 8 3]
abbrev g121_5 : IL:=[ja 24 1,jq 25 24 7,ja 26 25,jh 27 2 7 26,jo 28 27 26,yv 29 119 28 26,ym 30 29 26,ji 31 26 30,ja 23 31]
abbrev g121_6 : IL:=[jd 8 7]
abbrev g121_7 : IL:=[ja 33 1,je 34 7 7,ju 35 159 33 34,yb 36 35,ja 32 36]
abbrev g121_8 : IL:=[jd 8 12]
abbrev g121_9 : IL:=[ja 38 1,jq 39 38 9,ja 40 39,zg 41 2 4 40,jf 42 2 40,jh 43 1 7 40,jo 44 43 40,jah 45 78 41 42 44 40,ym 46 45 40,ji 47 40 46,ja 37 47]
abbrev g121_10 : IL:=[jd 8 16]
abbrev g121_11 : IL:=[jd 8 0]
abbrev r121 : RC:=jQ g121_0 (.seq (.block 0 (jQ g121_1 (.cond (.t 9) (jQ g121_2 (.ret)) (jQ g121_3 (.cond (.t 18) (jQ g121_4 (.ret)) (jQ g121_5 (.cond (.t 23) (jQ g121_6 (.ret)) (jQ g121_7 (.cond (.t 32) (jQ g121_8 (.ret)) (jQ g121_9 (.cond (.t 37) (jQ g121_10 (.ret)) (.skip)))))))))))) (jQ g121_11 (.ret)))
abbrev o121 : List RR:=[.tmp 8]
theorem k121 : CT 121 48 r121 o121:=ck Tryz.func121 Tryz.ntmps121 (by decide +kernel)
abbrev g78_0 : IL:=[jg 3 3 0,jk 6]
abbrev g78_1 : IL:=[ja 9 1,ys 10 9 0,ja 11 10,jv 12 1 11,js 13 1 3 11,jw 14 13 11,yy 15 1 14 11,jae 16 12 15 11,jt 17 11 16,ja 18 17,jv 19 2 18,⟨some 20,.val (.bin .num .gtr (.t 19) (.c (.int .u64 2147483647))),(some (18,false))⟩,jt 21 18 20]
abbrev g78_2 : IL:=[jk 6]
abbrev g78_3 : IL:=[jb 22 1 3,jc 23 22,ja 24 1,jl 25 5 23 24,jb 26 1 25,jc 27 26,ja 7 27]
abbrev g78_4 : IL:=[jd 8 0]
abbrev g78_5 : IL:=[ja 28 8,jb 29 1 3,jc 30 29,ja 31 1,jl 32 5 30 31,jb 33 2 32,jc 34 33,jj 35 1 34,jn 36 28 35]
abbrev g78_7 : IL:=[ja 39 7,ja 40 39,js 41 1 3 40,jw 42 41 40,jv 43 1 40,ze 44 5 42 43 40,js 45 2 44 40,jw 46 45 40,jv 47 8 40,ze 48 3 46 47 40,js 49 1 48 40,jw 50 49 40,jv 51 2 40,⟨some 52,.val (.cvi .i64 (.t 51)),(some (40,false))⟩,⟨some 53,.val (.bin .num .eql (.t 50) (.t 52)),(some (40,false))⟩,jt 54 40 53,ja 7 54]
abbrev g78_6 : IL:=[ja 37 8,jm 38 37 1,ja 8 38]
abbrev l78_0 : RC:=.seq (jQ g78_5 (jX 36 0)) (.seq (.block 1 (.reg g78_7)) (.reg g78_6))
abbrev g78_8 : IL:=[ja 55 7,ja 6 55]
abbrev r78 : RC:=jQ g78_0 (.seq (jQ g78_1 (.cond (.t 21) (jQ g78_2 (.ret)) (.skip))) (jQ g78_3 (.seq (jQ g78_4 (.block 0 (.loop l78_0))) (jQ g78_8 (.ret)))))
abbrev o78 : List RR:=[.tmp 6]
theorem k78 : CT 78 56 r78 o78:=ck Tryz.func78 Tryz.ntmps78 (by decide +kernel)
abbrev g13_0 : IL:=[jg 1 1 0,jd 2 0]
abbrev g13_1 : IL:=[jb 7 6 1,jc 8 7,jj 9 1 8,⟨some 10,.val (.bin .num .add (.c (.int .i64 1)) (.t 9)),none⟩,ja 3 10]
abbrev g13_2 : IL:=[jd 4 0]
abbrev g13_3 : IL:=[ja 11 4,jb 12 3 1,jc 13 12,jj 14 1 13,jn 15 11 14]
abbrev g13_5 : IL:=[ja 18 3,jb 19 3 1,jc 20 19,ja 21 4,jl 22 7 20 21,je 23 7 22,jr 24 13 23,zi 25 18 24,ja 3 25]
abbrev g13_4 : IL:=[ja 16 4,jm 17 16 1,ja 4 17]
abbrev l13_0 : RC:=.seq (jQ g13_3 (jX 15 0)) (.seq (.block 1 (.reg g13_5)) (.reg g13_4))
abbrev g13_6 : IL:=[jd 5 0]
abbrev g13_7 : IL:=[ja 26 5,jb 27 4 1,jc 28 27,jj 29 1 28,jn 30 26 29]
abbrev g13_9 : IL:=[ja 33 3,jb 34 4 1,ye 35 0 1 34,ja 36 5,jl 37 14 35 36,jb 38 0 37,yg 39 7 38,jr 40 13 39,jb 41 4 1,ye 42 0 1 41,ja 43 5,jl 44 14 42 43,jb 45 7 44,yg 46 7 45,jr 47 13 46,zi 48 40 47,zi 49 33 48,ja 3 49]
abbrev g13_8 : IL:=[ja 31 5,jm 32 31 1,ja 5 32]
abbrev l13_1 : RC:=.seq (jQ g13_7 (jX 30 2)) (.seq (.block 3 (.draw g13_9)) (.reg g13_8))
abbrev g13_10 : IL:=[jd 6 0]
abbrev g13_11 : IL:=[ja 50 6,jb 51 5 1,jc 52 51,jj 53 1 52,jn 54 50 53]
abbrev g13_13 : IL:=[ja 57 3,jb 58 5 1,jc 59 58,ja 60 6,jl 61 8 59 60,jb 62 1 61,je 63 7 62,jr 64 13 63,zi 65 57 64,ja 3 65]
abbrev g13_12 : IL:=[ja 55 6,jm 56 55 1,ja 6 56]
abbrev l13_2 : RC:=.seq (jQ g13_11 (jX 54 4)) (.seq (.block 5 (.reg g13_13)) (.reg g13_12))
abbrev g13_14 : IL:=[ja 66 3,ja 2 66]
abbrev r13 : RC:=jQ g13_0 (jQ g13_1 (.seq (jQ g13_2 (.block 0 (.loop l13_0))) (.seq (jQ g13_6 (.block 2 (.loop l13_1))) (.seq (jQ g13_10 (.block 4 (.loop l13_2))) (jQ g13_14 (.ret))))))
abbrev o13 : List RR:=[.tmp 2]
theorem k13 : CT 13 67 r13 o13:=ck Tryz.func13 Tryz.ntmps13 (by decide +kernel)
abbrev g28_0 : IL:=[jg 1 1 0,jd 2 0]
abbrev g28_1 : IL:=[jb 6 6 1,jc 7 6,jj 8 1 7,⟨some 9,.val (.bin .num .add (.c (.int .i64 1)) (.t 8)),none⟩,ja 3 9]
abbrev g28_2 : IL:=[je 10 7 1,jr 11 65 10,jj 12 1 11,jd 13 0]
abbrev g28_3 : IL:=[jn 14 13 12]
abbrev g28_4 : IL:=[jl 15 7 11 13,je 16 7 15,yk 5 5,jp 7 5 16]
abbrev g28_5 : IL:=[ja 17 3,je 18 7 5,jr 19 28 18,zi 20 17 19,ja 3 20]
abbrev g28_6 : IL:=[jm 21 13 1,ja 13 21]
abbrev l28_0 : RC:=.gho (.drop 5) (jQ g28_3 (.seq (jX 14 0) (.seq (.block 1 (jQ g28_4 (.reg g28_5))) (.reg g28_6))))
abbrev g28_7 : IL:=[ja 22 3,ja 2 22]
abbrev r28 : RC:=jQ g28_0 (jQ g28_1 (.seq (jQ g28_2 (.block 0 (.loop l28_0))) (jQ g28_7 (.ret))))
abbrev o28 : List RR:=[.tmp 2]
theorem k28 : CT 28 23 r28 o28:=ck Tryz.func28 Tryz.ntmps28 (by decide +kernel)
abbrev g65_0 : IL:=[jg 1 1 0,yi 2]
abbrev g65_1 : IL:=[jb 8 3 1,jc 9 8,⟨some 10,.callF (.f 104) [(.t 9)],none⟩,ja 3 10]
abbrev g65_2 : IL:=[jb 11 4 1,jc 12 11,jj 13 1 12,jd 14 0]
abbrev g65_3 : IL:=[jn 15 14 13]
abbrev g65_4 : IL:=[jl 16 14 12 14,je 17 14 16,⟨some 5,.allocN 5 [.int .i64 0,.int .u64 0,.str [],.nils,.nils,.nils,.nils,.int .i64 0,.int .u64 0,.str [],.nils,.nils,.nils,.nils],none⟩,jp 14 5 17]
abbrev g65_5 : IL:=[ja 18 3,jb 19 0 5,je 20 7 19,jb 21 7 5,je 22 7 21,⟨some 23,.bsl 7 2 [.int .i64 0,.int .u64 0,.str [],.nils,.nils,.nils,.nils] [(0,7,(.t 20)),(7,7,(.t 22))],none⟩,yd 24 7 128 32 18 23,ja 3 24]
abbrev g65_6 : IL:=[jm 25 14 1,ja 14 25]
abbrev l65_0 : RC:=.gho (.drop 5) (jQ g65_3 (.seq (jX 15 0) (.seq (.block 1 (jQ g65_4 (.reg g65_5))) (.reg g65_6))))
abbrev g65_7 : IL:=[jb 26 5 1,jc 27 26,jj 28 1 27,jd 29 0]
abbrev g65_8 : IL:=[jn 30 29 28]
abbrev g65_9 : IL:=[jl 31 8 27 29,je 32 8 31,⟨some 7,.allocN 7 [.int .i64 0,.int .i64 0,.int .u64 0,.str [],.nils,.nils,.nils,.nils],none⟩,jp 8 7 32]
abbrev g65_10 : IL:=[ja 33 3,jb 34 1 7,je 35 7 34,⟨some 36,.bsl 7 1 [.int .i64 0,.int .u64 0,.str [],.nils,.nils,.nils,.nils] [(0,7,(.t 35))],none⟩,yd 37 7 128 32 33 36,ja 3 37]
abbrev g65_11 : IL:=[jm 38 29 1,ja 29 38]
abbrev l65_1 : RC:=.gho (.drop 7) (jQ g65_8 (.seq (jX 30 2) (.seq (.block 3 (jQ g65_9 (.reg g65_10))) (.reg g65_11))))
abbrev g65_12 : IL:=[ja 39 3,ja 2 39]
abbrev r65 : RC:=jQ g65_0 (jQ g65_1 (.seq (jQ g65_2 (.block 0 (.loop l65_0))) (.seq (jQ g65_7 (.block 2 (.loop l65_1))) (jQ g65_12 (.ret)))))
abbrev o65 : List RR:=[.tmp 2]
theorem k65 : CT 65 40 r65 o65:=ck Tryz.func65 Tryz.ntmps65 (by decide +kernel)
def g104_0 : IL:=[yi 2]
def g104_1 : IL:=[ja 3 0,⟨some 4,.isnil false (.t 3),none⟩]
def g104_2 : IL:=[yi 2]
def g104_3 : IL:=[⟨some 5,.bsl0 5 7,none⟩,ja 6 0,yd 7 7 128 32 5 6,ja 2 7]
def r104 : RC:=jQ g104_0 (.seq (jQ g104_1 (.cond (.t 4) (jQ g104_2 (.gho (.vec 2 2 7) (.gho (.give 2 2 1 1000) (.ret)))) (.skip))) (jQ g104_3 (.gho (.give 2 5 1 1000) (.ret))))
def o104 : List RR:=[.tmp 2]
theorem k104 : CT 104 8 r104 o104:=ck Tryz.func104 Tryz.ntmps104 (by decide +kernel)
abbrev g17_0 : IL:=[jg 2 2 0,jg 3 3 1,za 4 4,jk 5]
abbrev g17_1 : IL:=[zr 6 47 3,⟨some 7,.val (.build [.nilf] [(0,1,(.t 6))]),none⟩,je 8 3 2,yq 9 48 7 8,jy 10 9 0,jy 11 9 1,jp 8 4 10,ja 5 11]
abbrev r17 : RC:=jQ g17_0 (jQ g17_1 (.ret))
abbrev o17 : List RR:=[.cell 4 (some 8),.tmp 5]
theorem k17 : CT 17 12 r17 o17:=ck Tryz.func17 Tryz.ntmps17 (by decide +kernel)
abbrev g47_0 : IL:=[jg 2 2 0,jk 3]
abbrev g47_1 : IL:=[jb 4 0 2,jc 5 4,jc 6 1,zo 7 5 6,ja 3 7]
abbrev r47 : RC:=jQ g47_0 (jQ g47_1 (.ret))
abbrev o47 : List RR:=[.tmp 3]
theorem k47 : CT 47 8 r47 o47:=ck Tryz.func47 Tryz.ntmps47 (by decide +kernel)
abbrev g48_0 : IL:=[jg 2 2 0,jg 3 3 1,za 4 4,jk 5]
abbrev g48_1 : IL:=[jb 7 1 3,jc 8 7,jb 9 0 2,jc 10 9,yq 11 80 8 10,ja 6 11]
abbrev g48_2 : IL:=[ja 12 6,ys 13 12 0]
abbrev g48_3 : IL:=[⟨some 14,.val (.build [.int .i64 0,.str [],.str [],.int .i64 0,.int .i64 0,.int .i64 0,.int .i64 0,.int .i64 0] []),none⟩,jp 8 4 14,jk 5]
abbrev g48_4 : IL:=[jb 15 1 3,jc 16 15,ja 17 6,jl 18 8 16 17,je 19 8 18,jp 8 4 19,yf 5]
abbrev r48 : RC:=jQ g48_0 (jQ g48_1 (.seq (jQ g48_2 (.cond (.t 13) (jQ g48_3 (.ret)) (.skip))) (jQ g48_4 (.ret))))
abbrev o48 : List RR:=[.cell 4 (some 8),.tmp 5]
theorem k48 : CT 48 20 r48 o48:=ck Tryz.func48 Tryz.ntmps48 (by decide +kernel)
abbrev g103_0 : IL:=[jg 3 3 0,jg 5 5 2,jk 6]
abbrev g103_1 : IL:=[ja 8 1,ys 9 8 0,ja 10 9,jv 11 1 10,js 12 1 3 10,jw 13 12 10,yy 14 1 13 10,jae 15 11 14 10,jt 16 10 15,ja 17 16,jw 18 5 17,⟨some 19,.val (.bin .num .gtr (.t 18) (.c (.int .u64 2147483647))),(some (17,false))⟩,jt 20 17 19]
abbrev g103_2 : IL:=[jk 6]
abbrev g103_3 : IL:=[jb 21 1 3,jc 22 21,ja 23 1,jl 24 5 22 23,je 25 5 24,zz 7 7,jp 5 7 25]
abbrev g103_4 : IL:=[jb 26 1 7,jc 27 26,ja 28 27,js 29 2 7 28,jw 30 29 28,⟨some 31,.val (.mkfn (.func 143) [] [(.t 5)]),(some (28,false))⟩,⟨some 32,.callF (.f 142) [(.t 30),(.t 31)],(some (28,false))⟩,jt 33 28 32,ja 6 33]
abbrev r103 : RC:=jQ g103_0 (.seq (jQ g103_1 (.cond (.t 20) (jQ g103_2 (.ret)) (.skip))) (jQ g103_3 (jQ g103_4 (.ret))))
abbrev o103 : List RR:=[.tmp 6]
theorem k103 : CT 103 34 r103 o103:=ck Tryz.func103 Tryz.ntmps103 (by decide +kernel)
abbrev g143_0 : IL:=[jg 2 2 0,jk 3]
abbrev g143_1 : IL:=[jb 4 1 2,jc 5 4,⟨some 6,.val (.cvi .u64 (.t 5)),none⟩,jc 7 1,zo 8 6 7,ja 3 8]
abbrev r143 : RC:=jQ g143_0 (jQ g143_1 (.ret))
abbrev o143 : List RR:=[.tmp 3]
theorem k143 : CT 143 9 r143 o143:=ck Tryz.func143 Tryz.ntmps143 (by decide +kernel)
abbrev g61_0 : IL:=[jg 5 5 0,jg 6 6 1,jd 10 0]
abbrev g61_1 : IL:=[jx 18 0 6 3 6,ja 19 2,ja 20 3,jl 21 8 19 20,jb 22 0 21,zj 23 22,ju 24 17 18 23,ja 17 24,jy 25 17 0,jy 26 17 1,za 11 11,zh 0 11 8 11 25,ja 12 26]
abbrev g61_2 : IL:=[ja 27 12,yb 28 27]
abbrev g61_3 : IL:=[jd 10 8]
abbrev g61_4 : IL:=[ja 29 2,ja 30 3,zv 31 8 29 30,zr 32 100 11,yq 33 62 31 32]
abbrev g61_5 : IL:=[jd 10 9]
abbrev g61_6 : IL:=[ja 34 2,ja 35 3,zv 36 8 34 35,jj 37 1 36,jd 38 0]
abbrev g61_7 : IL:=[jn 39 38 37]
abbrev g61_8 : IL:=[jl 40 8 36 38,je 41 8 40,⟨some 14,.allocN 14 [.int .i64 0,.int .i64 0,.int .u64 0,.str [],.nils,.nils,.nils,.nils],none⟩,jp 8 14 41]
abbrev g61_9 : IL:=[je 43 3 6,jb 44 0 14,jc 45 44,ju 46 17 43 45,ja 42 46,jy 47 42 0,jy 48 42 1,za 15 15,jp 8 15 47,ja 16 48]
abbrev g61_10 : IL:=[jb 49 7 11,jc 50 49,ya 51 50 (-1),ja 52 51,jh 53 7 15 52,jo 54 53 52,jh 55 7 11 52,jo 56 55 52,⟨some 57,.val (.bin .num .eql (.t 54) (.t 56)),(some (52,true))⟩,ji 58 52 57]
abbrev g61_11 : IL:=[jd 10 15]
abbrev g61_12 : IL:=[jm 59 38 1,ja 38 59]
abbrev l61_0 : RC:=.gho (.drop 15) (.gho (.drop 14) (jQ g61_7 (.seq (jX 39 0) (.seq (.block 1 (jQ g61_8 (jQ g61_9 (jQ g61_10 (.cond (.t 58) (jQ g61_11 (.ret)) (.skip)))))) (.reg g61_12)))))
abbrev g61_13 : IL:=[jx 60 0 5 2 5,jx 61 0 11 8 11,ja 62 2,ja 63 3,jl 64 8 62 63,jb 65 1 64,yg 66 7 65,ja 67 4,zc 68 101 60 61 66 67,ja 10 68]
abbrev r61 : RC:=jQ g61_0 (jD g61_1 (.seq (jQ g61_2 (.cond (.t 28) (jQ g61_3 (.ret)) (.skip))) (.seq (jQ g61_4 (.cond (.t 33) (jQ g61_5 (.ret)) (.skip))) (.seq (jQ g61_6 (.block 0 (.loop l61_0))) (jD g61_13 (.ret))))))
abbrev o61 : List RR:=[.tmp 10]
theorem k61 : CT 61 69 r61 o61:=ck Tryz.func61 Tryz.ntmps61 (by decide +kernel)
abbrev g100_0 : IL:=[jg 2 2 0,jk 3]
abbrev g100_1 : IL:=[jb 4 0 2,jc 5 4,jb 6 0 1,jc 7 6,zo 8 5 7,ja 3 8]
abbrev r100 : RC:=jQ g100_0 (jQ g100_1 (.ret))
abbrev o100 : List RR:=[.tmp 3]
theorem k100 : CT 100 9 r100 o100:=ck Tryz.func100 Tryz.ntmps100 (by decide +kernel)
abbrev g63_0 : IL:=[jg 2 2 0,jk 3]
abbrev g63_1 : IL:=[jb 4 0 2,jc 5 4,jb 6 0 1,jc 7 6,zo 8 5 7,ja 3 8]
abbrev r63 : RC:=jQ g63_0 (jQ g63_1 (.ret))
abbrev o63 : List RR:=[.tmp 3]
theorem k63 : CT 63 9 r63 o63:=ck Tryz.func63 Tryz.ntmps63 (by decide +kernel)
def g64_0 : IL:=[jg 3 3 0,jg 4 4 1,jg 5 5 2,jd 6 0]
def g64_1 : IL:=[jb 11 1 5,jc 12 11,zu 13 12 2,ja 7 13]
def g64_2 : IL:=[je 15 3 4,jb 16 0 5,jc 17 16,ju 18 17 15 17,ja 14 18,jy 19 14 0,jy 20 14 1,za 8 8,jp 8 8 19,ja 9 20]
def g64_3 : IL:=[jb 21 5 8,jc 22 21,jq 23 22 9,ja 24 23,jh 25 3 8 24,jo 26 25 24,zl 27 26 5 24,ji 28 24 27,ja 29 28,jh 30 1 5 29,jo 31 30 29,yh 32 31 0 29,ji 33 29 32,ja 34 33,jh 35 2 5 34,jo 36 35 34,⟨some 37,.val (.bin .num .leq (.t 36) (.c (.int .u64 2147483647))),(some (34,true))⟩,ji 38 34 37,ja 39 38,jh 40 0 3 39,zg 41 2 40 39,jh 42 6 8 39,jo 43 42 39,jh 44 2 5 39,jo 45 44 39,jah 46 103 41 43 45 39,ym 47 46 39,ji 48 39 47,ja 10 48]
def g64_4 : IL:=[jb 50 0 5,jc 51 50,ys 52 51 1,ja 53 52,js 54 0 5 53,jw 55 54 53,zf 56 55 65535 53,jt 57 53 56,ja 58 57,js 59 1 5 58,jw 60 59 58,⟨some 61,.val (.bin .num .lss (.t 60) (.c (.int .i64 0))),(some (58,false))⟩,jt 62 58 61,ja 63 62,js 64 1 5 63,jw 65 64 63,zf 66 65 6 63,jt 67 63 66,ja 49 67]
def g64_5 : IL:=[jd 6 1]
def g64_6 : IL:=[ja 69 7,ja 70 69,jh 71 3 5 70,jo 72 71 70,⟨some 73,.val (.bin .str .neq (.t 72) (.c (.str []))),(some (70,true))⟩,ji 74 70 73,ja 75 74,jv 76 7 75,zm 77 76 75,jv 78 77 75,jh 79 2 5 78,jo 80 79 78,⟨some 81,.val (.bin .num .neq (.t 80) (.c (.int .u64 0))),(some (78,true))⟩,yu 82 78 81 75,jt 83 75 82,ja 84 83,jv 85 9 84,jv 86 85 84,jf 87 10 86,ym 88 87 86,yu 89 86 88 84,jt 90 84 89,ja 68 90]
def g64_7 : IL:=[jd 6 1]
def g64_8 : IL:=[jb 92 1 5,jc 93 92,jq 94 93 3,ja 95 94,jh 96 3 5 95,jo 97 96 95,yc 98 0 97 95,jaf 99 98 4096 95,ji 100 95 99,ja 101 100,js 102 3 5 101,jw 103 102 101,yy 104 0 103 101,zf 105 104 65536 101,jt 106 101 105,ja 91 106]
def g64_9 : IL:=[jd 6 3]
def g64_10 : IL:=[jd 6 0]
def r64 : RC:=jQ g64_0 (jQ g64_1 (jQ g64_2 (jQ g64_3 (.seq (.block 0 (jQ g64_4 (.cond (.t 49) (jQ g64_5 (.ret)) (jQ g64_6 (.cond (.t 68) (jQ g64_7 (.ret)) (jQ g64_8 (.cond (.t 91) (jQ g64_9 (.ret)) (.skip)))))))) (jQ g64_10 (.ret))))))
def o64 : List RR:=[.tmp 6]
theorem k64 : CT 64 107 r64 o64:=ck Tryz.func64 Tryz.ntmps64 (by decide +kernel)
abbrev g101_0 : IL:=[jg 4 4 0,jg 5 5 1,jg 6 6 2,jd 8 0]
abbrev g101_1 : IL:=[jb 12 3 5,jc 13 12]
abbrev g101_2 : IL:=[jq 15 13 4,ja 14 15]
abbrev g101_3 : IL:=[jb 16 0 6,jc 17 16,ya 18 17 11,ja 19 18,yx 20 7 6 19,yr 21 60 20 19,jt 22 19 21]
abbrev g101_4 : IL:=[jd 8 12]
abbrev g101_5 : IL:=[jb 23 3 6,jc 24 23,jj 25 1 24,jd 26 0]
abbrev g101_6 : IL:=[jn 27 26 25]
abbrev g101_7 : IL:=[jl 28 7 24 26,je 29 7 28,yk 10 10,jp 7 10 29]
abbrev g101_8 : IL:=[je 30 2 4,je 31 8 5,je 32 7 10,ja 33 3,zc 34 140 30 31 32 33,ja 11 34]
abbrev g101_9 : IL:=[ja 35 11,ya 36 35 0]
abbrev g101_10 : IL:=[ja 37 11,ja 8 37]
abbrev g101_11 : IL:=[jm 38 26 1,ja 26 38]
abbrev l101_0 : RC:=.gho (.drop 10) (jQ g101_6 (.seq (jX 27 1) (.seq (.block 2 (jQ g101_7 (jQ g101_8 (jQ g101_9 (.cond (.t 36) (jQ g101_10 (.ret)) (.skip)))))) (.reg g101_11))))
abbrev g101_12 : IL:=[jd 8 0]
abbrev g101_13 : IL:=[jq 40 13 5,ja 39 40]
abbrev g101_14 : IL:=[jb 41 0 6,jc 42 41,ya 43 42 12,ja 44 43,yx 45 7 6 44,yr 46 60 45 44,jt 47 44 46]
abbrev g101_15 : IL:=[jd 8 12]
abbrev g101_16 : IL:=[je 48 2 4,je 49 8 5,jb 50 4 6,jc 51 50,ja 52 3,zc 53 141 48 49 51 52,ja 8 53]
abbrev g101_17 : IL:=[je 54 2 4,je 55 8 5,je 56 7 6,ja 57 3,zc 58 140 54 55 56 57,ja 8 58]
abbrev r101 : RC:=jQ g101_0 (.seq (jQ g101_1 (.block 0 (jQ g101_2 (.cond (.t 14) (.seq (jQ g101_3 (.cond (.t 22) (jQ g101_4 (.ret)) (.skip))) (.seq (jQ g101_5 (.block 1 (.loop l101_0))) (jQ g101_12 (.ret)))) (jQ g101_13 (.cond (.t 39) (.seq (jQ g101_14 (.cond (.t 47) (jQ g101_15 (.ret)) (.skip))) (jQ g101_16 (.ret))) (.skip))))))) (jQ g101_17 (.ret)))
abbrev o101 : List RR:=[.tmp 8]
theorem k101 : CT 101 59 r101 o101:=ck Tryz.func101 Tryz.ntmps101 (by decide +kernel)
abbrev g140_0 : IL:=[jg 4 4 0,jg 5 5 1,jg 6 6 2,jd 8 0]
abbrev g140_1 : IL:=[jb 9 5 5,jc 10 9,jq 11 10 10]
abbrev g140_2 : IL:=[jx 12 0 4 2 4,jb 13 0 4,jb 14 0 13,ye 15 0 4 14,jb 16 6 5,ye 17 0 5 16,jl 18 3 15 17,yg 19 3 18,jx 20 0 6 7 6,ja 21 3,jm 22 21 1,zc 23 27 12 19 20 22,ja 8 23]
abbrev g140_3 : IL:=[je 24 2 4,jb 25 5 5,jc 26 25,jb 27 6 5,jc 28 27,je 29 7 6,zc 30 169 24 26 28 29,ja 8 30]
abbrev r140 : RC:=jQ g140_0 (.seq (jQ g140_1 (.cond (.t 11) (jD g140_2 (.ret)) (.skip))) (jQ g140_3 (.ret)))
abbrev o140 : List RR:=[.tmp 8]
theorem k140 : CT 140 31 r140 o140:=ck Tryz.func140 Tryz.ntmps140 (by decide +kernel)
abbrev g141_0 : IL:=[jg 4 4 0,jg 5 5 1,jd 8 0]
abbrev g141_1 : IL:=[ja 13 2,jj 14 1 13,jd 15 0]
abbrev g141_2 : IL:=[jn 16 15 14]
abbrev g141_3 : IL:=[ja 17 15,jl 18 14 13 15,je 19 14 18,⟨some 10,.allocN 10 [.int .i64 0,.int .u64 0,.str [],.nils,.nils,.nils,.nils,.int .i64 0,.int .u64 0,.str [],.nils,.nils,.nils,.nils],none⟩,ja 9 17,jp 14 10 19]
abbrev g141_4 : IL:=[je 20 2 4,jb 21 4 5,jc 22 21,jb 23 0 10,je 24 7 23,⟨some 25,.call (.f 169) [(.t 20),(.t 22),(.c (.int .i64 (-1))),(.t 24)],none⟩,ja 11 25]
abbrev g141_5 : IL:=[ja 26 11,ya 27 26 0]
abbrev g141_6 : IL:=[ja 28 11,ja 8 28]
abbrev g141_7 : IL:=[ja 29 2,ja 30 9,zv 31 14 29 30,zr 32 171 10,yq 33 170 31 32]
abbrev g141_8 : IL:=[jd 8 9]
abbrev g141_9 : IL:=[je 34 2 4,je 35 8 5,jb 36 7 10,je 37 7 36,ja 38 3,zc 39 140 34 35 37 38,ja 12 39]
abbrev g141_10 : IL:=[ja 40 12,ya 41 40 0]
abbrev g141_11 : IL:=[ja 42 12,ja 8 42]
abbrev g141_12 : IL:=[jm 43 15 1,ja 15 43]
abbrev l141_0 : RC:=.gho (.drop 10) (jQ g141_2 (.seq (jX 16 0) (.seq (.block 1 (jQ g141_3 (.seq (jQ g141_4 (jQ g141_5 (.cond (.t 27) (jQ g141_6 (.ret)) (.skip)))) (.seq (jQ g141_7 (.cond (.t 33) (jQ g141_8 (.ret)) (.skip))) (jQ g141_9 (jQ g141_10 (.cond (.t 41) (jQ g141_11 (.ret)) (.skip)))))))) (.reg g141_12))))
abbrev g141_13 : IL:=[jd 8 0]
abbrev r141 : RC:=jQ g141_0 (.seq (jQ g141_1 (.block 0 (.loop l141_0))) (jQ g141_13 (.ret)))
abbrev o141 : List RR:=[.tmp 8]
theorem k141 : CT 141 44 r141 o141:=ck Tryz.func141 Tryz.ntmps141 (by decide +kernel)
abbrev g171_0 : IL:=[jg 2 2 0,jk 3]
abbrev g171_1 : IL:=[jb 4 0 2,je 5 7 4,jb 6 0 1,je 7 7 6,ju 8 85 5 7,ja 3 8]
abbrev r171 : RC:=jQ g171_0 (jQ g171_1 (.ret))
abbrev o171 : List RR:=[.tmp 3]
theorem k171 : CT 171 9 r171 o171:=ck Tryz.func171 Tryz.ntmps171 (by decide +kernel)
abbrev g169_0 : IL:=[jg 4 4 0,jg 7 7 3,jd 8 0]
abbrev g169_1 : IL:=[jb 10 0 7,jc 11 10,ja 12 1,zq 13 11 12,ja 14 13,yx 15 7 7 14,yr 16 60 15 14,jt 17 14 16,ja 9 17]
abbrev g169_2 : IL:=[jd 8 12]
abbrev g169_3 : IL:=[jb 19 2 7,jc 20 19,jj 21 0 20,yz 22 21 4096,ja 18 22]
abbrev g169_4 : IL:=[jd 8 3]
abbrev g169_5 : IL:=[ja 24 1,jq 25 24 7,ja 26 25,jh 27 2 7 26,jo 28 27 26,yv 29 181 28 26,ym 30 29 26,ji 31 26 30,ja 23 31]
abbrev g169_6 : IL:=[jd 8 7]
abbrev g169_7 : IL:=[ja 33 1,je 34 7 7,ju 35 195 33 34,yb 36 35,ja 32 36]
abbrev g169_8 : IL:=[jd 8 12]
abbrev g169_9 : IL:=[ja 38 1,jq 39 38 9,ja 40 39,jh 41 0 4 40,zg 42 2 41 40,jf 43 2 40,jh 44 1 7 40,jo 45 44 40,jah 46 103 42 43 45 40,ym 47 46 40,ji 48 40 47,ja 37 48]
abbrev g169_10 : IL:=[jd 8 16]
abbrev g169_11 : IL:=[jd 8 0]
abbrev r169 : RC:=jQ g169_0 (.seq (.block 0 (jQ g169_1 (.cond (.t 9) (jQ g169_2 (.ret)) (jQ g169_3 (.cond (.t 18) (jQ g169_4 (.ret)) (jQ g169_5 (.cond (.t 23) (jQ g169_6 (.ret)) (jQ g169_7 (.cond (.t 32) (jQ g169_8 (.ret)) (jQ g169_9 (.cond (.t 37) (jQ g169_10 (.ret)) (.skip)))))))))))) (jQ g169_11 (.ret)))
abbrev o169 : List RR:=[.tmp 8]
theorem k169 : CT 169 49 r169 o169:=ck Tryz.func169 Tryz.ntmps169 (by decide +kernel)
abbrev g170_0 : IL:=[jk 4]
abbrev g170_1 : IL:=[ja 5 0,ja 6 1,yq 7 196 5 6,yn 8 7 0,ja 4 8]
abbrev r170 : RC:=jQ g170_0 (jQ g170_1 (.ret))
abbrev o170 : List RR:=[.tmp 4]
theorem k170 : CT 170 9 r170 o170:=ck Tryz.func170 Tryz.ntmps170 (by decide +kernel)
abbrev g196_0 : IL:=[jd 4 0]
abbrev g196_1 : IL:=[ja 6 0,jj 7 1 6,jd 8 0]
abbrev g196_2 : IL:=[jn 9 8 7]
abbrev g196_3 : IL:=[ja 10 8,ja 5 10]
abbrev g196_4 : IL:=[ja 11 1,ja 12 0,ja 13 5,jl 14 14 12 13,je 15 14 14,zs 16 11 15]
abbrev g196_5 : IL:=[ja 17 5,ja 4 17]
abbrev g196_6 : IL:=[jm 18 8 1,ja 8 18]
abbrev l196_0 : RC:=jQ g196_2 (.seq (jX 9 0) (.seq (.block 1 (jQ g196_3 (jQ g196_4 (.cond (.t 16) (jQ g196_5 (.ret)) (.skip))))) (.reg g196_6)))
abbrev g196_7 : IL:=[jd 4 (-1)]
abbrev r196 : RC:=jQ g196_0 (.seq (jQ g196_1 (.block 0 (.loop l196_0))) (jQ g196_7 (.ret)))
abbrev o196 : List RR:=[.tmp 4]
theorem k196 : CT 196 19 r196 o196:=ck Tryz.func196 Tryz.ntmps196 (by decide +kernel)
abbrev g23_0 : IL:=[jg 2 2 0,jg 3 3 1,jk 4]
abbrev g23_1 : IL:=[je 5 7 2,je 6 7 3,ju 7 55 5 6,jq 8 7 0,ja 4 8]
abbrev r23 : RC:=jQ g23_0 (jQ g23_1 (.ret))
abbrev o23 : List RR:=[.tmp 4]
theorem k23 : CT 23 9 r23 o23:=ck Tryz.func23 Tryz.ntmps23 (by decide +kernel)
abbrev g55_0 : IL:=[jg 2 2 0,jg 3 3 1,jd 4 0]
abbrev g55_1 : IL:=[jb 6 0 2,jc 7 6,jb 8 0 3,jc 9 8,zq 10 7 9]
abbrev g55_2 : IL:=[jb 11 0 2,jc 12 11,jb 13 0 3,jc 14 13,ju 15 91 12 14,ja 4 15]
abbrev g55_3 : IL:=[jb 16 0 2,jc 17 16]
abbrev g55_4 : IL:=[jq 19 17 11,ja 18 19]
abbrev g55_5 : IL:=[jb 20 3 2,jc 21 20,jb 22 3 3,jc 23 22,ju 24 92 21 23,ja 4 24]
abbrev g55_6 : IL:=[jq 26 17 12,ja 25 26]
abbrev g55_7 : IL:=[jb 27 4 2,jc 28 27,jb 29 4 3,jc 30 29,ju 31 93 28 30,ja 4 31]
abbrev g55_8 : IL:=[jq 33 17 10,ja 32 33]
abbrev g55_9 : IL:=[jb 34 5 2,jc 35 34,jb 36 5 3,jc 37 36,ju 38 94 35 37,ja 5 38]
abbrev g55_10 : IL:=[ja 39 5,ya 40 39 0]
abbrev g55_11 : IL:=[ja 41 5,ja 4 41]
abbrev g55_12 : IL:=[jb 42 6 2,jc 43 42,jb 44 6 3,jc 45 44,ju 46 95 43 45,ja 4 46]
abbrev g55_13 : IL:=[je 47 7 2,je 48 7 3,ju 49 96 47 48,ja 4 49]
abbrev r55 : RC:=jQ g55_0 (.seq (jQ g55_1 (.cond (.t 10) (jQ g55_2 (.ret)) (.skip))) (.seq (jQ g55_3 (.block 0 (jQ g55_4 (.cond (.t 18) (jQ g55_5 (.ret)) (jQ g55_6 (.cond (.t 25) (jQ g55_7 (.ret)) (jQ g55_8 (.cond (.t 32) (.seq (jQ g55_9 (jQ g55_10 (.cond (.t 40) (jQ g55_11 (.ret)) (.skip)))) (jQ g55_12 (.ret))) (.skip))))))))) (jQ g55_13 (.ret))))
abbrev o55 : List RR:=[.tmp 4]
theorem k55 : CT 55 50 r55 o55:=ck Tryz.func55 Tryz.ntmps55 (by decide +kernel)
abbrev g91_0 : IL:=[jd 4 0]
abbrev g91_1 : IL:=[ja 5 0,ja 6 1,jn 7 5 6]
abbrev g91_2 : IL:=[jd 4 (-1)]
abbrev g91_3 : IL:=[ja 8 0,ja 9 1,jai 10 8 9]
abbrev g91_4 : IL:=[jd 4 1]
abbrev g91_5 : IL:=[jd 4 0]
abbrev r91 : RC:=jQ g91_0 (.seq (jQ g91_1 (.cond (.t 7) (jQ g91_2 (.ret)) (.skip))) (.seq (jQ g91_3 (.cond (.t 10) (jQ g91_4 (.ret)) (.skip))) (jQ g91_5 (.ret))))
abbrev o91 : List RR:=[.tmp 4]
theorem k91 : CT 91 11 r91 o91:=ck Tryz.func91 Tryz.ntmps91 (by decide +kernel)
abbrev g92_0 : IL:=[jd 4 0]
abbrev g92_1 : IL:=[jd 5 0]
abbrev g92_2 : IL:=[ja 7 5,ja 8 0,jj 9 1 8,jn 10 7 9,ja 11 10,jf 12 5 11,jf 13 1 11,yc 14 1 13 11,zx 15 12 14 11,ji 16 11 15]
abbrev g92_4 : IL:=[ja 19 0,ja 20 5,jl 21 7 19 20,yg 22 7 21,ja 23 1,ja 24 5,jl 25 7 23 24,yg 26 7 25,ju 27 55 22 26,ja 6 27]
abbrev g92_5 : IL:=[ja 28 6,ya 29 28 0]
abbrev g92_6 : IL:=[ja 30 6,ja 4 30]
abbrev g92_3 : IL:=[ja 17 5,jm 18 17 1,ja 5 18]
abbrev l92_0 : RC:=.seq (jQ g92_2 (jX 16 0)) (.seq (.block 1 (jD g92_4 (jQ g92_5 (.cond (.t 29) (jQ g92_6 (.ret)) (.skip))))) (.reg g92_3))
abbrev g92_7 : IL:=[ja 31 0,jj 32 1 31,ja 33 1,jj 34 1 33,ju 35 91 32 34,ja 4 35]
abbrev r92 : RC:=jQ g92_0 (.seq (jQ g92_1 (.block 0 (.loop l92_0))) (jQ g92_7 (.ret)))
abbrev o92 : List RR:=[.tmp 4]
theorem k92 : CT 92 36 r92 o92:=ck Tryz.func92 Tryz.ntmps92 (by decide +kernel)
abbrev g93_0 : IL:=[jd 4 0]
abbrev g93_1 : IL:=[jd 5 0]
abbrev g93_2 : IL:=[ja 8 5,ja 9 0,jj 10 1 9,jn 11 8 10,ja 12 11,jf 13 5 12,jf 14 1 12,yc 15 1 14 12,zx 16 13 15 12,ji 17 12 16]
abbrev g93_4 : IL:=[ja 20 0,ja 21 5,jl 22 14 20 21,jb 23 0 22,yg 24 7 23,ja 25 1,ja 26 5,jl 27 14 25 26,jb 28 0 27,yg 29 7 28,ju 30 55 24 29,ja 6 30]
abbrev g93_5 : IL:=[ja 31 6,ya 32 31 0]
abbrev g93_6 : IL:=[ja 33 6,ja 4 33]
abbrev g93_7 : IL:=[ja 34 0,ja 35 5,jl 36 14 34 35,jb 37 7 36,yg 38 7 37,ja 39 1,ja 40 5,jl 41 14 39 40,jb 42 7 41,yg 43 7 42,ju 44 55 38 43,ja 7 44]
abbrev g93_8 : IL:=[ja 45 7,ya 46 45 0]
abbrev g93_9 : IL:=[ja 47 7,ja 4 47]
abbrev g93_3 : IL:=[ja 18 5,jm 19 18 1,ja 5 19]
abbrev l93_0 : RC:=.seq (jQ g93_2 (jX 17 0)) (.seq (.block 1 (.seq (jD g93_4 (jQ g93_5 (.cond (.t 32) (jQ g93_6 (.ret)) (.skip)))) (jD g93_7 (jQ g93_8 (.cond (.t 46) (jQ g93_9 (.ret)) (.skip)))))) (.reg g93_3))
abbrev g93_10 : IL:=[ja 48 0,jj 49 1 48,ja 50 1,jj 51 1 50,ju 52 91 49 51,ja 4 52]
abbrev r93 : RC:=jQ g93_0 (.seq (jQ g93_1 (.block 0 (.loop l93_0))) (jQ g93_10 (.ret)))
abbrev o93 : List RR:=[.tmp 4]
theorem k93 : CT 93 53 r93 o93:=ck Tryz.func93 Tryz.ntmps93 (by decide +kernel)
abbrev g94_0 : IL:=[jd 4 0]
abbrev g94_1 : IL:=[jd 5 0]
abbrev g94_2 : IL:=[ja 8 5,ja 9 0,jj 10 1 9,jn 11 8 10,ja 12 11,jf 13 5 12,jf 14 1 12,yc 15 1 14 12,zx 16 13 15 12,ji 17 12 16]
abbrev g94_4 : IL:=[ja 20 0,ja 21 5,jl 22 8 20 21,jb 23 0 22,zj 24 23,ja 25 1,ja 26 5,jl 27 8 25 26,jb 28 0 27,zj 29 28,ju 30 91 24 29,ja 6 30]
abbrev g94_5 : IL:=[ja 31 6,ya 32 31 0]
abbrev g94_6 : IL:=[ja 33 6,ja 4 33]
abbrev g94_7 : IL:=[ja 34 0,ja 35 5,jl 36 8 34 35,jb 37 1 36,yg 38 7 37,ja 39 1,ja 40 5,jl 41 8 39 40,jb 42 1 41,yg 43 7 42,ju 44 55 38 43,ja 7 44]
abbrev g94_8 : IL:=[ja 45 7,ya 46 45 0]
abbrev g94_9 : IL:=[ja 47 7,ja 4 47]
abbrev g94_3 : IL:=[ja 18 5,jm 19 18 1,ja 5 19]
abbrev l94_0 : RC:=.seq (jQ g94_2 (jX 17 0)) (.seq (.block 1 (.seq (jD g94_4 (jQ g94_5 (.cond (.t 32) (jQ g94_6 (.ret)) (.skip)))) (jD g94_7 (jQ g94_8 (.cond (.t 46) (jQ g94_9 (.ret)) (.skip)))))) (.reg g94_3))
abbrev g94_10 : IL:=[ja 48 0,jj 49 1 48,ja 50 1,jj 51 1 50,ju 52 91 49 51,ja 4 52]
abbrev r94 : RC:=jQ g94_0 (.seq (jQ g94_1 (.block 0 (.loop l94_0))) (jQ g94_10 (.ret)))
abbrev o94 : List RR:=[.tmp 4]
theorem k94 : CT 94 53 r94 o94:=ck Tryz.func94 Tryz.ntmps94 (by decide +kernel)
abbrev g95_0 : IL:=[jd 4 0]
abbrev g95_1 : IL:=[jd 5 0]
abbrev g95_2 : IL:=[ja 7 5,ja 8 0,jj 9 1 8,jn 10 7 9,ja 11 10,jf 12 5 11,jf 13 1 11,yc 14 1 13 11,zx 15 12 14 11,ji 16 11 15]
abbrev g95_4 : IL:=[ja 19 0,ja 20 5,jl 21 4 19 20,yg 22 4 21,ja 23 1,ja 24 5,jl 25 4 23 24,yg 26 4 25,ju 27 137 22 26,ja 6 27]
abbrev g95_5 : IL:=[ja 28 6,ya 29 28 0]
abbrev g95_6 : IL:=[ja 30 6,ja 4 30]
abbrev g95_3 : IL:=[ja 17 5,jm 18 17 1,ja 5 18]
abbrev l95_0 : RC:=.seq (jQ g95_2 (jX 16 0)) (.seq (.block 1 (jD g95_4 (jQ g95_5 (.cond (.t 29) (jQ g95_6 (.ret)) (.skip))))) (.reg g95_3))
abbrev g95_7 : IL:=[ja 31 0,jj 32 1 31,ja 33 1,jj 34 1 33,ju 35 91 32 34,ja 4 35]
abbrev r95 : RC:=jQ g95_0 (.seq (jQ g95_1 (.block 0 (.loop l95_0))) (jQ g95_7 (.ret)))
abbrev o95 : List RR:=[.tmp 4]
theorem k95 : CT 95 36 r95 o95:=ck Tryz.func95 Tryz.ntmps95 (by decide +kernel)
abbrev g137_0 : IL:=[jg 2 2 0,jg 3 3 1,jd 4 0]
abbrev g137_1 : IL:=[jb 6 0 2,jc 7 6,jb 8 0 3,jc 9 8,zq 10 7 9,ja 5 10]
abbrev g137_2 : IL:=[jb 11 0 2,jc 12 11,jb 13 0 3,jc 14 13,ju 15 91 12 14,ja 4 15]
abbrev g137_3 : IL:=[jb 17 1 2,jc 18 17,jb 19 1 3,jc 20 19,zq 21 18 20,ja 16 21]
abbrev g137_4 : IL:=[jb 22 1 2,jc 23 22,jb 24 1 3,jc 25 24,ju 26 91 23 25,ja 4 26]
abbrev g137_5 : IL:=[jb 28 2 2,jc 29 28,jb 30 2 3,jc 31 30,jn 32 29 31,ja 27 32]
abbrev g137_6 : IL:=[jd 4 (-1)]
abbrev g137_7 : IL:=[jb 34 2 2,jc 35 34,jb 36 2 3,jc 37 36,jai 38 35 37,ja 33 38]
abbrev g137_8 : IL:=[jd 4 1]
abbrev g137_9 : IL:=[jb 40 3 2,jc 41 40,jb 42 3 3,jc 43 42,⟨some 44,.val (.bin .str .lss (.t 41) (.t 43)),none⟩,ja 39 44]
abbrev g137_10 : IL:=[jd 4 (-1)]
abbrev g137_11 : IL:=[jb 46 3 2,jc 47 46,jb 48 3 3,jc 49 48,⟨some 50,.val (.bin .str .gtr (.t 47) (.t 49)),none⟩,ja 45 50]
abbrev g137_12 : IL:=[jd 4 1]
abbrev g137_13 : IL:=[jd 4 0]
abbrev r137 : RC:=jQ g137_0 (.seq (.block 0 (jQ g137_1 (.cond (.t 5) (jQ g137_2 (.ret)) (jQ g137_3 (.cond (.t 16) (jQ g137_4 (.ret)) (jQ g137_5 (.cond (.t 27) (jQ g137_6 (.ret)) (jQ g137_7 (.cond (.t 33) (jQ g137_8 (.ret)) (jQ g137_9 (.cond (.t 39) (jQ g137_10 (.ret)) (jQ g137_11 (.cond (.t 45) (jQ g137_12 (.ret)) (.skip)))))))))))))) (jQ g137_13 (.ret)))
abbrev o137 : List RR:=[.tmp 4]
theorem k137 : CT 137 51 r137 o137:=ck Tryz.func137 Tryz.ntmps137 (by decide +kernel)
abbrev g96_0 : IL:=[jg 2 2 0,jg 3 3 1,jd 4 0]
abbrev g96_1 : IL:=[jb 6 0 2,jc 7 6,jb 8 0 3,jc 9 8,jn 10 7 9,ja 5 10]
abbrev g96_2 : IL:=[jd 4 (-1)]
abbrev g96_3 : IL:=[jb 12 0 2,jc 13 12,jb 14 0 3,jc 15 14,jai 16 13 15,ja 11 16]
abbrev g96_4 : IL:=[jd 4 1]
abbrev g96_5 : IL:=[jb 18 0 2,jc 19 18,jr 20 98 19,yb 21 20,ja 17 21]
abbrev g96_6 : IL:=[jd 4 0]
abbrev g96_7 : IL:=[jb 23 0 2,jc 24 23,jr 25 138 24,ja 26 25,jh 27 2 2 26,jo 28 27 26,jh 29 2 3 26,jo 30 29 26,⟨some 31,.val (.bin .str .lss (.t 28) (.t 30)),(some (26,true))⟩,ji 32 26 31,ja 22 32]
abbrev g96_8 : IL:=[jd 4 (-1)]
abbrev g96_9 : IL:=[jb 34 0 2,jc 35 34,jr 36 138 35,ja 37 36,jh 38 2 2 37,jo 39 38 37,jh 40 2 3 37,jo 41 40 37,⟨some 42,.val (.bin .str .gtr (.t 39) (.t 41)),(some (37,true))⟩,ji 43 37 42,ja 33 43]
abbrev g96_10 : IL:=[jd 4 1]
abbrev g96_11 : IL:=[jb 45 0 2,jc 46 45,jr 47 138 46,ja 44 47]
abbrev g96_12 : IL:=[jd 4 0]
abbrev g96_13 : IL:=[jx 49 0 2 7 2,jr 50 139 49,jx 51 0 3 7 3,jr 52 139 51,jn 53 50 52,ja 48 53]
abbrev g96_14 : IL:=[jd 4 (-1)]
abbrev g96_15 : IL:=[jx 55 0 2 7 2,jr 56 139 55,jx 57 0 3 7 3,jr 58 139 57,jai 59 56 58,ja 54 59]
abbrev g96_16 : IL:=[jd 4 1]
abbrev g96_17 : IL:=[jd 4 0]
abbrev r96 : RC:=jQ g96_0 (.seq (.block 0 (jQ g96_1 (.cond (.t 5) (jQ g96_2 (.ret)) (jQ g96_3 (.cond (.t 11) (jQ g96_4 (.ret)) (jQ g96_5 (.cond (.t 17) (jQ g96_6 (.ret)) (jQ g96_7 (.cond (.t 22) (jQ g96_8 (.ret)) (jQ g96_9 (.cond (.t 33) (jQ g96_10 (.ret)) (jQ g96_11 (.cond (.t 44) (jQ g96_12 (.ret)) (jD g96_13 (.cond (.t 48) (jQ g96_14 (.ret)) (jD g96_15 (.cond (.t 54) (jQ g96_16 (.ret)) (.skip)))))))))))))))))) (jQ g96_17 (.ret)))
abbrev o96 : List RR:=[.tmp 4]
theorem k96 : CT 96 60 r96 o96:=ck Tryz.func96 Tryz.ntmps96 (by decide +kernel)
abbrev g97_0 : IL:=[jd 2 0]
abbrev g97_1 : IL:=[ja 4 0,⟨some 5,.val (.bin .num .rem (.t 4) (.c (.int .u64 9223372036854775808))),none⟩,ja 3 5]
abbrev g97_2 : IL:=[ja 7 3,⟨some 8,.val (.bin .num .gtr (.t 7) (.c (.int .u64 9218868437227405312))),none⟩,ja 6 8]
abbrev g97_3 : IL:=[jd 2 0]
abbrev g97_4 : IL:=[ja 10 3,zw 11 10 9218868437227405312,ja 9 11]
abbrev g97_5 : IL:=[jd 2 1]
abbrev g97_6 : IL:=[ja 13 3,zw 14 13 0,ja 12 14]
abbrev g97_7 : IL:=[jd 2 2]
abbrev g97_8 : IL:=[ja 16 3,⟨some 17,.val (.bin .num .lss (.t 16) (.c (.int .u64 4503599627370496))),none⟩,ja 15 17]
abbrev g97_9 : IL:=[jd 2 3]
abbrev g97_10 : IL:=[jd 2 4]
abbrev r97 : RC:=jQ g97_0 (jQ g97_1 (.seq (.block 0 (jQ g97_2 (.cond (.t 6) (jQ g97_3 (.ret)) (jQ g97_4 (.cond (.t 9) (jQ g97_5 (.ret)) (jQ g97_6 (.cond (.t 12) (jQ g97_7 (.ret)) (jQ g97_8 (.cond (.t 15) (jQ g97_9 (.ret)) (.skip)))))))))) (jQ g97_10 (.ret))))
abbrev o97 : List RR:=[.tmp 2]
theorem k97 : CT 97 18 r97 o97:=ck Tryz.func97 Tryz.ntmps97 (by decide +kernel)
abbrev g139_0 : IL:=[jg 1 1 0,⟨some 2,.val (.mov (.c (.int .u64 0))),none⟩]
abbrev g139_1 : IL:=[jb 4 0 1,jc 5 4,jr 6 168 5,ja 3 6]
abbrev g139_2 : IL:=[jb 7 1 1,jc 8 7,⟨some 9,.val (.bin .num .add (.t 8) (.c (.int .u64 9223372036854775808))),none⟩,ja 2 9]
abbrev g139_3 : IL:=[jb 11 0 1,jc 12 11,ya 13 12 6,ja 10 13]
abbrev g139_4 : IL:=[jb 14 1 1,jc 15 14,ja 2 15]
abbrev g139_5 : IL:=[jb 17 1 1,jc 18 17,jr 19 97 18,jq 20 19 0,ja 16 20]
abbrev g139_6 : IL:=[⟨some 2,.val (.mov (.c (.int .u64 18446744073709551615))),none⟩]
abbrev g139_7 : IL:=[jb 22 1 1,jc 23 22,⟨some 24,.val (.bin .num .geq (.t 23) (.c (.int .u64 9223372036854775808))),none⟩,ja 21 24]
abbrev g139_8 : IL:=[jb 25 1 1,jc 26 25,⟨some 27,.val (.bin .num .sub (.c (.int .u64 18446744073709551615)) (.t 26)),none⟩,ja 2 27]
abbrev g139_9 : IL:=[jb 28 1 1,jc 29 28,⟨some 30,.val (.bin .num .add (.t 29) (.c (.int .u64 9223372036854775808))),none⟩,ja 2 30]
abbrev r139 : RC:=jQ g139_0 (.seq (.block 0 (jQ g139_1 (.cond (.t 3) (jQ g139_2 (.ret)) (jQ g139_3 (.cond (.t 10) (jQ g139_4 (.ret)) (jQ g139_5 (.cond (.t 16) (jQ g139_6 (.ret)) (jQ g139_7 (.cond (.t 21) (jQ g139_8 (.ret)) (.skip)))))))))) (jQ g139_9 (.ret)))
abbrev o139 : List RR:=[.tmp 2]
theorem k139 : CT 139 31 r139 o139:=ck Tryz.func139 Tryz.ntmps139 (by decide +kernel)
abbrev g168_0 : IL:=[jk 2]
abbrev g168_1 : IL:=[ja 3 0,jq 4 3 2,ja 5 4,jv 6 0 5,yo 7 6 3 5,jt 8 5 7,ja 2 8]
abbrev r168 : RC:=jQ g168_0 (jQ g168_1 (.ret))
abbrev o168 : List RR:=[.tmp 2]
theorem k168 : CT 168 9 r168 o168:=ck Tryz.func168 Tryz.ntmps168 (by decide +kernel)
abbrev g85_0 : IL:=[jg 2 2 0,jg 3 3 1,jk 4]
abbrev g85_1 : IL:=[je 5 7 2,je 6 7 3,ju 7 84 5 6,jq 8 7 0,ja 4 8]
abbrev r85 : RC:=jQ g85_0 (jQ g85_1 (.ret))
abbrev o85 : List RR:=[.tmp 4]
theorem k85 : CT 85 9 r85 o85:=ck Tryz.func85 Tryz.ntmps85 (by decide +kernel)
abbrev g84_0 : IL:=[jg 2 2 0,jg 3 3 1,jd 4 0]
abbrev g84_1 : IL:=[jb 11 0 2,jc 12 11,jb 13 0 3,jc 14 13,zq 15 12 14]
abbrev g84_2 : IL:=[jb 16 0 2,jc 17 16,jb 18 0 3,jc 19 18,ju 20 22 17 19,ja 4 20]
abbrev g84_3 : IL:=[je 21 7 3,jr 22 125 21,ja 5 22]
abbrev g84_4 : IL:=[je 23 7 2,jr 24 125 23]
abbrev g84_5 : IL:=[⟨some 25,.val (.tas 156 true (.agg [.int .i64 0,.int .u64 0,.str [],.nils,.nils,.nils,.nils]) (.t 24)),none⟩,jy 26 25 1,jy 27 25 0]
abbrev g84_6 : IL:=[yk 6 6,jp 7 6 27]
abbrev g84_7 : IL:=[je 28 7 6,je 29 7 3,ju 30 126 28 29,ja 4 30]
abbrev g84_8 : IL:=[⟨some 31,.val (.tas 157 true (.nils) (.t 24)),none⟩,jy 32 31 1,jy 33 31 0]
abbrev g84_9 : IL:=[ja 7 33]
abbrev g84_10 : IL:=[ja 34 7,ja 35 5,⟨some 36,.val (.tas 157 false (.nils) (.t 35)),none⟩,⟨some 37,.callF (.f 127) [(.t 34),(.t 36),(.f 84)],none⟩,ja 4 37]
abbrev g84_11 : IL:=[⟨some 38,.val (.tas 159 true (.nils) (.t 24)),none⟩,jy 39 38 1,jy 40 38 0]
abbrev g84_12 : IL:=[ja 8 40]
abbrev g84_13 : IL:=[ja 41 8,ja 42 5,⟨some 43,.val (.tas 159 false (.nils) (.t 42)),none⟩,⟨some 44,.callF (.f 128) [(.t 41),(.t 43),(.f 129)],none⟩,ja 4 44]
abbrev g84_14 : IL:=[⟨some 45,.val (.tas 162 true (.agg [.nils,.nils]) (.t 24)),none⟩,jy 46 45 1,jy 47 45 0]
abbrev g84_15 : IL:=[jak 9 9,jp 2 9 47]
abbrev g84_16 : IL:=[ja 48 5,⟨some 49,.val (.tas 162 false (.agg [.nils,.nils]) (.t 48)),none⟩,jak 10 10,jp 2 10 49]
abbrev g84_18 : IL:=[jd 4 0]
abbrev r84 : RC:=jQ g84_0 (.seq (jQ g84_1 (.cond (.t 15) (jQ g84_2 (.ret)) (.skip))) (jQ g84_3 (.seq (jQ g84_4 (.block 0 (jQ g84_5 (.cond (.t 26) (jQ g84_6 (jQ g84_7 (.ret))) (jQ g84_8 (.cond (.t 32) (jQ g84_9 (jQ g84_10 (.ret))) (jQ g84_11 (.cond (.t 39) (jQ g84_12 (jQ g84_13 (.ret))) (jQ g84_14 (.cond (.t 46) (jQ g84_15 (jQ g84_16 (.seq (.no) (.ret)))) (.skip))))))))))) (jQ g84_18 (.ret)))))
abbrev o84 : List RR:=[.tmp 4]
theorem k84 : CT 84 62 r84 o84:=ck Tryz.func84 Tryz.ntmps84 (by decide +kernel)
abbrev g125_0 : IL:=[jg 1 1 0,⟨some 2,.val (.mov (.c (.nili))),none⟩]
abbrev g125_1 : IL:=[jb 4 0 1,jc 5 4,jr 6 87 5,ja 3 6]
abbrev g125_2 : IL:=[je 7 7 1,⟨some 8,.val (.mki 156 (.t 7)),none⟩,ja 2 8]
abbrev g125_3 : IL:=[jb 10 0 1,jc 11 10,jq 12 11 11,ja 9 12]
abbrev g125_4 : IL:=[jb 13 3 1,jc 14 13,⟨some 15,.val (.mki 157 (.t 14)),none⟩,ja 2 15]
abbrev g125_5 : IL:=[jb 17 0 1,jc 18 17,jq 19 18 12,ja 16 19]
abbrev g125_6 : IL:=[jb 20 4 1,jc 21 20,⟨some 22,.val (.mki 159 (.t 21)),none⟩,ja 2 22]
abbrev g125_7 : IL:=[jb 24 0 1,jc 25 24,jq 26 25 10,ja 23 26]
abbrev g125_8 : IL:=[jb 27 5 1,jc 28 27,jb 29 6 1,jc 30 29,⟨some 31,.val (.build [.nils,.nils] [(0,1,(.t 28)),(1,1,(.t 30))]),none⟩,⟨some 32,.val (.mki 162 (.t 31)),none⟩,ja 2 32]
abbrev g125_9 : IL:=[⟨some 2,.val (.mov (.c (.nili))),none⟩]
abbrev r125 : RC:=jQ g125_0 (.seq (.block 0 (jQ g125_1 (.cond (.t 3) (jQ g125_2 (.ret)) (jQ g125_3 (.cond (.t 9) (jQ g125_4 (.ret)) (jQ g125_5 (.cond (.t 16) (jQ g125_6 (.ret)) (jQ g125_7 (.cond (.t 23) (jQ g125_8 (.ret)) (.skip)))))))))) (jQ g125_9 (.ret)))
abbrev o125 : List RR:=[.tmp 2]
theorem k125 : CT 125 33 r125 o125:=ck Tryz.func125 Tryz.ntmps125 (by decide +kernel)
abbrev g22_0 : IL:=[jd 4 0]
abbrev g22_1 : IL:=[ja 7 0,jr 8 54 7,ja 5 8]
abbrev g22_2 : IL:=[ja 9 1,jr 10 54 9,ja 6 10]
abbrev g22_3 : IL:=[ja 11 5]
abbrev g22_4 : IL:=[ja 12 6]
abbrev g22_5 : IL:=[jd 4 0]
abbrev g22_6 : IL:=[jd 4 (-1)]
abbrev g22_7 : IL:=[ja 13 6]
abbrev g22_8 : IL:=[jd 4 1]
abbrev g22_9 : IL:=[ja 14 0,ja 15 1,jn 16 14 15]
abbrev g22_10 : IL:=[jd 4 (-1)]
abbrev g22_11 : IL:=[ja 17 0,ja 18 1,jai 19 17 18]
abbrev g22_12 : IL:=[jd 4 1]
abbrev g22_13 : IL:=[jd 4 0]
abbrev r22 : RC:=jQ g22_0 (jQ g22_1 (jQ g22_2 (.seq (jQ g22_3 (.cond (.t 11) (.seq (jQ g22_4 (.cond (.t 12) (jQ g22_5 (.ret)) (.skip))) (jQ g22_6 (.ret))) (.skip))) (.seq (jQ g22_7 (.cond (.t 13) (jQ g22_8 (.ret)) (.skip))) (.seq (jQ g22_9 (.cond (.t 16) (jQ g22_10 (.ret)) (.skip))) (.seq (jQ g22_11 (.cond (.t 19) (jQ g22_12 (.ret)) (.skip))) (jQ g22_13 (.ret))))))))
abbrev o22 : List RR:=[.tmp 4]
theorem k22 : CT 22 20 r22 o22:=ck Tryz.func22 Tryz.ntmps22 (by decide +kernel)
abbrev g164_0 : IL:=[jd 4 0]
abbrev g164_1 : IL:=[ja 7 0,jr 8 193 7,ja 5 8]
abbrev g164_2 : IL:=[ja 9 1,jr 10 193 9,ja 6 10]
abbrev g164_3 : IL:=[ja 11 5]
abbrev g164_4 : IL:=[ja 12 6]
abbrev g164_5 : IL:=[jd 4 0]
abbrev g164_6 : IL:=[jd 4 (-1)]
abbrev g164_7 : IL:=[ja 13 6]
abbrev g164_8 : IL:=[jd 4 1]
abbrev g164_9 : IL:=[ja 14 0,ja 15 1,⟨some 16,.val (.bin .str .lss (.t 14) (.t 15)),none⟩]
abbrev g164_10 : IL:=[jd 4 (-1)]
abbrev g164_11 : IL:=[ja 17 0,ja 18 1,⟨some 19,.val (.bin .str .gtr (.t 17) (.t 18)),none⟩]
abbrev g164_12 : IL:=[jd 4 1]
abbrev g164_13 : IL:=[jd 4 0]
abbrev r164 : RC:=jQ g164_0 (jQ g164_1 (jQ g164_2 (.seq (jQ g164_3 (.cond (.t 11) (.seq (jQ g164_4 (.cond (.t 12) (jQ g164_5 (.ret)) (.skip))) (jQ g164_6 (.ret))) (.skip))) (.seq (jQ g164_7 (.cond (.t 13) (jQ g164_8 (.ret)) (.skip))) (.seq (jQ g164_9 (.cond (.t 16) (jQ g164_10 (.ret)) (.skip))) (.seq (jQ g164_11 (.cond (.t 19) (jQ g164_12 (.ret)) (.skip))) (jQ g164_13 (.ret))))))))
abbrev o164 : List RR:=[.tmp 4]
theorem k164 : CT 164 20 r164 o164:=ck Tryz.func164 Tryz.ntmps164 (by decide +kernel)
abbrev g165_0 : IL:=[jd 4 0]
abbrev g165_1 : IL:=[ja 7 0,jr 8 194 7,ja 5 8]
abbrev g165_2 : IL:=[ja 9 1,jr 10 194 9,ja 6 10]
abbrev g165_3 : IL:=[ja 11 5]
abbrev g165_4 : IL:=[ja 12 6]
abbrev g165_5 : IL:=[jd 4 0]
abbrev g165_6 : IL:=[jd 4 (-1)]
abbrev g165_7 : IL:=[ja 13 6]
abbrev g165_8 : IL:=[jd 4 1]
abbrev g165_9 : IL:=[ja 14 0,ja 15 1,jn 16 14 15]
abbrev g165_10 : IL:=[jd 4 (-1)]
abbrev g165_11 : IL:=[ja 17 0,ja 18 1,jai 19 17 18]
abbrev g165_12 : IL:=[jd 4 1]
abbrev g165_13 : IL:=[jd 4 0]
abbrev r165 : RC:=jQ g165_0 (jQ g165_1 (jQ g165_2 (.seq (jQ g165_3 (.cond (.t 11) (.seq (jQ g165_4 (.cond (.t 12) (jQ g165_5 (.ret)) (.skip))) (jQ g165_6 (.ret))) (.skip))) (.seq (jQ g165_7 (.cond (.t 13) (jQ g165_8 (.ret)) (.skip))) (.seq (jQ g165_9 (.cond (.t 16) (jQ g165_10 (.ret)) (.skip))) (.seq (jQ g165_11 (.cond (.t 19) (jQ g165_12 (.ret)) (.skip))) (jQ g165_13 (.ret))))))))
abbrev o165 : List RR:=[.tmp 4]
theorem k165 : CT 165 20 r165 o165:=ck Tryz.func165 Tryz.ntmps165 (by decide +kernel)
abbrev g54_0 : IL:=[jk 2]
abbrev g54_1 : IL:=[ja 3 0,ja 4 0,zq 5 3 4,ja 2 5]
abbrev r54 : RC:=jQ g54_0 (jQ g54_1 (.ret))
abbrev o54 : List RR:=[.tmp 2]
theorem k54 : CT 54 6 r54 o54:=ck Tryz.func54 Tryz.ntmps54 (by decide +kernel)
abbrev g193_0 : IL:=[jk 2]
abbrev g193_1 : IL:=[ja 3 0,ja 4 0,⟨some 5,.val (.bin .str .neq (.t 3) (.t 4)),none⟩,ja 2 5]
abbrev r193 : RC:=jQ g193_0 (jQ g193_1 (.ret))
abbrev o193 : List RR:=[.tmp 2]
theorem k193 : CT 193 6 r193 o193:=ck Tryz.func193 Tryz.ntmps193 (by decide +kernel)
abbrev g194_0 : IL:=[jk 2]
abbrev g194_1 : IL:=[ja 3 0,ja 4 0,zq 5 3 4,ja 2 5]
abbrev r194 : RC:=jQ g194_0 (jQ g194_1 (.ret))
abbrev o194 : List RR:=[.tmp 2]
theorem k194 : CT 194 6 r194 o194:=ck Tryz.func194 Tryz.ntmps194 (by decide +kernel)
abbrev g126_0 : IL:=[jg 2 2 0,jg 3 3 1,jd 4 0]
abbrev g126_1 : IL:=[jb 6 0 2,jc 7 6,jb 8 0 3,jc 9 8,zq 10 7 9,ja 5 10]
abbrev g126_2 : IL:=[jb 11 0 2,jc 12 11,jb 13 0 3,jc 14 13,ju 15 22 12 14,ja 4 15]
abbrev g126_3 : IL:=[jb 17 0 2,jc 18 17,jr 19 87 18,yb 20 19,ja 16 20]
abbrev g126_4 : IL:=[jd 4 0]
abbrev g126_5 : IL:=[jb 22 0 2,jc 23 22,jr 24 135 23,ja 21 24]
abbrev g126_6 : IL:=[jb 25 2 2,jc 26 25,jb 27 2 3,jc 28 27,ju 29 164 26 28,ja 4 29]
abbrev g126_7 : IL:=[jb 31 0 2,jc 32 31,jq 33 32 2,ja 34 33,js 35 0 2 34,jw 36 35 34,yo 37 36 3 34,jt 38 34 37,ja 30 38]
abbrev g126_8 : IL:=[jb 39 1 2,jc 40 39,⟨some 41,.val (.cvi .i64 (.t 40)),none⟩,jb 42 1 3,jc 43 42,⟨some 44,.val (.cvi .i64 (.t 43)),none⟩,ju 45 22 41 44,ja 4 45]
abbrev g126_9 : IL:=[jb 47 0 2,jc 48 47,jq 49 48 6,ja 46 49]
abbrev g126_10 : IL:=[jb 50 1 2,ye 51 0 2 50,jr 52 166 51,jb 53 1 3,ye 54 0 3 53,jr 55 166 54,ju 56 165 52 55,ja 4 56]
abbrev g126_11 : IL:=[jb 57 1 2,jc 58 57,jb 59 1 3,jc 60 59,ju 61 165 58 60,ja 4 61]
abbrev r126 : RC:=jQ g126_0 (.seq (.block 0 (jQ g126_1 (.cond (.t 5) (jQ g126_2 (.ret)) (jQ g126_3 (.cond (.t 16) (jQ g126_4 (.ret)) (jQ g126_5 (.cond (.t 21) (jQ g126_6 (.ret)) (jQ g126_7 (.cond (.t 30) (jQ g126_8 (.ret)) (jQ g126_9 (.cond (.t 46) (jD g126_10 (.ret)) (.skip)))))))))))) (jQ g126_11 (.ret)))
abbrev o126 : List RR:=[.tmp 4]
theorem k126 : CT 126 62 r126 o126:=ck Tryz.func126 Tryz.ntmps126 (by decide +kernel)
abbrev g51_0 : IL:=[jg 1 1 0,yk 2 2]
abbrev g51_1 : IL:=[jb 3 0 1,jc 4 3,jq 5 4 6,ja 6 5,jh 7 1 1 6,jo 8 7 6,yv 9 86 8 6,yh 10 9 0 6,ji 11 6 10]
abbrev g51_2 : IL:=[jb 12 1 1,⟨none,.store 1 (.t 12) (.c (.int .u64 9221120237041090560)),none⟩]
abbrev g51_3 : IL:=[je 13 7 1,jp 7 2 13]
abbrev r51 : RC:=jQ g51_0 (.seq (jQ g51_1 (.cond (.t 11) (.reg g51_2) (.skip))) (jQ g51_3 (.ret)))
abbrev o51 : List RR:=[.cell 2 (some 7)]
theorem k51 : CT 51 14 r51 o51:=ck Tryz.func51 Tryz.ntmps51 (by decide +kernel)
abbrev g86_0 : IL:=[jd 2 0]
abbrev g86_1 : IL:=[ja 5 0,⟨some 6,.val (.bin .num .and (.t 5) (.c (.int .u64 9218868437227405312))),none⟩,ja 7 0,⟨some 8,.val (.bin .num .and (.t 7) (.c (.int .u64 4503599627370495))),none⟩,ja 3 6,ja 4 8]
abbrev g86_2 : IL:=[ja 10 3,zw 11 10 9218868437227405312,ja 12 11,jf 13 4 12,⟨some 14,.val (.bin .num .neq (.t 13) (.c (.int .u64 0))),(some (12,true))⟩,ji 15 12 14,ja 9 15]
abbrev g86_3 : IL:=[jd 2 0]
abbrev g86_4 : IL:=[ja 17 3,zw 18 17 9218868437227405312,ja 16 18]
abbrev g86_5 : IL:=[jd 2 1]
abbrev g86_6 : IL:=[ja 20 3,zw 21 20 0,ja 22 21,jf 23 4 22,⟨some 24,.val (.bin .num .eql (.t 23) (.c (.int .u64 0))),(some (22,true))⟩,ji 25 22 24,ja 19 25]
abbrev g86_7 : IL:=[jd 2 2]
abbrev g86_8 : IL:=[ja 27 3,zw 28 27 0,ja 26 28]
abbrev g86_9 : IL:=[jd 2 3]
abbrev g86_10 : IL:=[jd 2 4]
abbrev r86 : RC:=jQ g86_0 (.seq (jQ g86_1 (.block 0 (jQ g86_2 (.cond (.t 9) (jQ g86_3 (.ret)) (jQ g86_4 (.cond (.t 16) (jQ g86_5 (.ret)) (jQ g86_6 (.cond (.t 19) (jQ g86_7 (.ret)) (jQ g86_8 (.cond (.t 26) (jQ g86_9 (.ret)) (.skip))))))))))) (jQ g86_10 (.ret)))
abbrev o86 : List RR:=[.tmp 2]
theorem k86 : CT 86 29 r86 o86:=ck Tryz.func86 Tryz.ntmps86 (by decide +kernel)
end Go.Proofs.YtgannjophilbiaaGreatDoor.Rc

namespace Go.Proofs.YtgannjophilbiaaGreatDoor.Bt
open Go

theorem wu64 (n : Int) : IntKind.u64.wrap n = n % 18446744073709551616:=by simp [IntKind.wrap,IntKind.bits,IntKind.signed]
theorem wi64 (n : Int) : IntKind.i64.wrap n = (n + 9223372036854775808) % 18446744073709551616 - 9223372036854775808:=IntKind.wrap_i64 n

theorem ofInt_nat {n : Nat} (h : n < 18446744073709551616) : (BitVec.ofInt 64 (n : Int)).toNat = n:=by
 simp
 omega

theorem and_u64 (a b : Nat) (ha : a < 18446744073709551616) (hb : b < 18446744073709551616) : bits .and .u64 (a : Int) (b : Int) = ((a &&& b : Nat) : Int):=by
 have hx : a &&& b < 2 ^ 64:=Nat.and_lt_two_pow _ (by omega)
 show IntKind.u64.wrap ((BitVec.ofInt 64 (a : Int) &&& BitVec.ofInt 64 (b : Int)).toNat : Int) = _
 rw [BitVec.toNat_and,ofInt_nat ha,ofInt_nat hb,wu64]
 omega
end Go.Proofs.YtgannjophilbiaaGreatDoor.Bt

set_option linter.unusedSimpArgs false
namespace Go.Proofs.YtgannjophilbiaaGreatDoor.Va
open Go Am Rc Bt

def RB (v : AV) : Prop:=∃ b,v = .bool b
theorem rb (b : Bool) : RB (.bool b) = True:=eq_true ⟨b,rfl⟩
theorem RB.rf {v : AV} {l : List AV} (h : RB v) : v.rf = true ∧ (AV.rfL l = true ∨ v.nl = true):=by
 obtain ⟨b,rfl⟩:=h
 exact ⟨rfl,.inr rfl⟩


def isk (k : Int) : Bool:=decide (k ≥ 1) && decide (k ≤ 9)
def txk (k : Int) : Bool:=k == 7 || k == 8
theorem x98 (k : Int) : Fn1 Tryz.prog 98 [.int .i64 k] (.bool (isk k)):=by
 refine k98.fn (by simp) ?_
 simp only [isk,eES,seval]
 cases h : decide (k ≥ 1) <;> simp only [Bool.true_and,Bool.false_and,eES,seval]

theorem x87 (k : Int) : Fn1 Tryz.prog 87 [.int .i64 k] (.bool (isk k)):=by
 refine k87.fn (by simp) ?_
 simp only [isk,eES,seval]
 cases h : decide (k ≥ 1) <;> simp only [Bool.true_and,Bool.false_and,eES,seval]

theorem x138 (k : Int) : Fn1 Tryz.prog 138 [.int .i64 k] (.bool (txk k)):=by
 refine k138.fn (by simp) ?_
 simp only [txk,eES,seval]
 cases h : (k == 7) <;> simp only [Bool.true_or,Bool.false_or,eES,seval]

theorem x135 (k : Int) : Fn1 Tryz.prog 135 [.int .i64 k] (.bool (txk k)):=by
 refine k135.fn (by simp) ?_
 simp only [txk,eES,seval]
 cases h : (k == 7) <;> simp only [Bool.true_or,Bool.false_or,eES,seval]

def oc (n : Int) (s a : List UInt8) (c k kd t u : Int) : AV:=.agg [.int .i64 n,.str s,.str a,.int .i64 c,.int .i64 k,.int .i64 kd,.int .i64 t,.int .i64 u]

section
variable (n : Int) (s a : List UInt8) (c k kd t u : Int)

end


theorem wi64_s (i : Nat) (n : Nat) (h : i < n) (hn : n ≤ maxLen) : IntKind.i64.wrap ((i : Int) + 1) = ((i + 1 : Nat) : Int):=by
 simp only [maxLen] at hn
 rw [wi64]; omega

theorem lt_t {i n : Nat} (h : i < n) : decide ((i : Int) < (n : Int)) = true:=by simp; omega
theorem lt_f {i n : Nat} (h : ¬ i < n) : decide ((i : Int) < (n : Int)) = false:=by simp; omega
theorem nneg (i : Nat) : (0 ≤ (i : Int)) = True:=by simp

end Go.Proofs.YtgannjophilbiaaGreatDoor.Va

namespace Go.Proofs.YtgannjophilbiaaGreatDoor.Br
open Go Am Go.RowKit Go.WideShapes Go.ChangeShapes Go.ChangeAt Go.Joins Go.Deep Go.WideElems Go.Maps

section
variable {H : Type} {enc : TypeId × Value → H} {P : Program} {W : World} {base : Nat} {sp : Nat → Bool} {held : Bool}

end


theorem flatMap_get {X α : Type} {f : X → List α} {sz : Nat} (hsz : 0 < sz) (hf : ∀ x,(f x).length = sz) : ∀ (xs : List X) (j : Nat),(xs.flatMap f)[j]? = (xs[j / sz]?).bind fun x => (f x)[j % sz]?
 | [],j => by simp
 | x :: xs,j => by
  rw [List.flatMap_cons]
  by_cases hj : j < sz
  ·rw [List.getElem?_append_left (by rw [hf]; exact hj),Nat.div_eq_of_lt hj,Nat.mod_eq_of_lt hj]; rfl
  ·obtain ⟨i,rfl⟩ : ∃ i,j = sz + i:=⟨j - sz,by omega⟩
   rw [List.getElem?_append_right (by rw [hf]; omega),hf,flatMap_get hsz hf xs,show sz + i - sz = i by omega,show (sz + i) / sz = i / sz + 1 by rw [Nat.add_div_left _ hsz],Nat.add_mod_left]
   rfl

section
variable {H : Type} {enc : TypeId × Value → H} {P : Program} {W : World}

structure El (enc : TypeId × Value → H) (P : Program) (e : TypeId) (sz : Nat) (X : Type) where
 av : X → AV
 vals : X → List Value
 dat : X → DataW H
 ok : X → Prop
 pos : 0 < sz
 len : ∀ x,(vals x).length = sz
 cells : ∀ x,(av x).cells.length = sz
 rfl' : ∀ x,AV.rfL (av x).cells = true
 leaf : ∀ x,(av x).cells.all AV.leaf = true
 rep : ∀ (G : Gh) x,RepL G (av x).cells (vals x)
 opened : ∀ {W : World} {n : Nat} {cs : List Value} {d : DataW H} {pl : List MemPlace},cs.length = sz → DataW.trod enc P W 0 (fun _ => true) true n e cs = some (d,pl) → ∃ x,ok x ∧ cs = vals x ∧ d = dat x ∧ pl = []
 shut : ∀ (W : World) (sp : Nat → Bool) x,ok x → ∃ n,DataW.trod enc P W 0 sp true n e (vals x) = some (dat x,[])

end

def elemV : List AV → AV
 | [x] => x
 | l => .agg l

def consec (P : Program) : Nat → List Field → Nat → Bool
 | o,[],n => Nat.beq o n
 | o,f :: fs,n => Nat.beq f.offset o && consec P (o + P.cellsOf f.type) fs n

def plain1 (P : Program) (ts : List TypeId) (t : TypeId) : Bool :=
 match P.underlying t with
 | some (.int _) | some .bool | some .string => P.cellsOf t == 1
 | some (.struct fs) => consec P 0 fs.toList (P.cellsOf t) && fs.toList.all fun f => ts.contains f.type
 | some (.slice e) => P.cellsOf t == 1 && (decide (0 < P.cellsOf e) && decide (0 < P.bytesOf e)) && ts.contains e
 | _ => false
def plainS (P : Program) (ts : List TypeId) : Bool:=ts.all (plain1 P ts)

def Has (P : Program) (M : Nat) : Nat → TypeId → List AV → Prop
 | 0,_,_ => False
 | k + 1,t,cs => match P.underlying t with
  | some (.int ik) => ∃ n,cs = [.int ik n] ∧ (Lit.int ik n).wf = true
  | some .bool => ∃ b,cs = [.bool b]
  | some .string => ∃ s,cs = [.str s] ∧ s.length ≤ M
  | some (.struct fs) => HasL (Has P M k) fs.toList cs
  | some (.slice e) => ∃ l : List (List AV),cs = [.list (l.map elemV)] ∧ (l.length ≤ maxLen ∧ (M = reachBytes → l.length * P.bytesOf e ≤ M)) ∧ (∀ c ∈ l,Has P M k e c) ∧ l.length ≤ M
  | _ => False
where
 HasL (h : TypeId → List AV → Prop) : List Field → List AV → Prop
  | [],cs => cs = []
  | f :: fs,cs => ∃ a b,cs = a ++ b ∧ h f.type a ∧ HasL h fs b

theorem elemV_cells {l : List AV} (h : l.all AV.leaf = true) : (elemV l).cells = l:=by
 match l,h with
 | [],_ => rfl
 | [x],h => cases x <;> first | rfl | simp [AV.leaf] at h
 | _ :: _ :: _,_ => rfl

mutual
def wt : AV → Nat
 | .list l => 1 + wtL l
 | .agg l => wtL l
 | _ => 1
def wtL : List AV → Nat
 | [] => 0
 | x :: l => wt x + wtL l
end
theorem wtL_app (a b : List AV) : wtL (a ++ b) = wtL a + wtL b:=by
 induction a with
 | nil => simp [wtL]
 | cons x a ih => simp only [List.cons_append,wtL,ih]; omega
theorem wt_elemV : ∀ l : List AV,wt (elemV l) = wtL l
 | [] => by simp [elemV,wt]
 | [x] => by simp [elemV,wtL]
 | _ :: _ :: _ => by simp [elemV,wt]

theorem repL_flatten {G : Gh} : ∀ {ls : List (List AV)} {cs : List (List Value)},ls.length = cs.length → (∀ i (h1 : i < ls.length) (h2 : i < cs.length),RepL G ls[i] cs[i]) → RepL G ls.flatten cs.flatten
 | [],[],_,_ => .nil
 | l :: ls,c :: cs,hn,h => by
  rw [List.flatten_cons,List.flatten_cons]
  exact RepL.append (h 0 (by simp) (by simp)) (repL_flatten (by simpa using hn) fun i h1 h2 => h (i + 1) (by simpa using h1) (by simpa using h2))
 | [],_ :: _,hn,_ => by simp at hn
 | _ :: _,[],hn,_ => by simp at hn

section
variable {H : Type} {enc : TypeId × Value → H} {P : Program} {W : World} {M : Nat}

theorem bulk_mem {d : DataW H} : ∀ {l : List (DataW H)},d ∈ l → Rows.uptoBulk d ≤ Rows.uptoBulkAll l
 | [],h => by cases h
 | x :: l,h => by
  rw [Rows.uptoBulkAll]
  rcases List.mem_cons.1 h with rfl | h
  ·omega
  ·have:=bulk_mem h
   omega

theorem bulk_pos (d : DataW H) : 1 ≤ Rows.uptoBulk d:=by unfold Rows.uptoBulk; split <;> omega
theorem wt_one {x : AV} (h : wt x = 1) (d : DataW H) : wtL [x] ≤ Rows.uptoBulk d:=by
 have:=bulk_pos d
 rw [wtL,wtL,h]; exact this
theorem bulk_app (a b : List (DataW H)) : Rows.uptoBulkAll (a ++ b) = Rows.uptoBulkAll a + Rows.uptoBulkAll b:=by
 induction a with
 | nil => simp [Rows.uptoBulkAll]
 | cons x a ih => simp only [List.cons_append,Rows.uptoBulkAll,ih]; omega
theorem wt_range (F : Nat → List AV) (xs : List (DataW H)) (h : ∀ i d,xs[i]? = some d → wtL (F i) ≤ Rows.uptoBulk d) : ∀ n,n ≤ xs.length → wtL (((List.range n).map F).map elemV) ≤ Rows.uptoBulkAll (xs.take n)
 | 0,_ => Nat.zero_le _
 | n + 1,hn => by
  have hx : xs[n]? = some xs[n]:=List.getElem?_eq_getElem (by omega)
  have:=wt_range F xs h n (by omega)
  have h1:=h n _ hx
  rw [List.range_succ,List.map_append,List.map_append,wtL_app,List.take_add_one,hx,bulk_app]
  simp only [List.map_cons,List.map_nil,wtL,wt_elemV,Option.toList_some,Rows.uptoBulkAll]
  omega

def Fit (P : Program) (M : Nat) (t : TypeId) (d : DataW H) : Prop:=M = maxLen ∨ (M ≠ reachBytes ∧ Rows.uptoBulk d ≤ M) ∨ (d.weights P t).all (· ≤ M) = true

theorem weights_at {t : TypeId} {d : DataW H} : ∀ {ts : List TypeId} {ds : List (DataW H)} (i : Nat),(DataW.weightsEach P ts ds).all (· ≤ M) = true → ts[i]? = some t → ds[i]? = some d → (d.weights P t).all (· ≤ M) = true
 | [],_,_,_,h,_ => by simp at h
 | _ :: _,[],_,_,_,h => by simp at h
 | t' :: ts,d' :: ds,0,h,h1,h2 => by
  rw [DataW.weightsEach,List.all_append,Bool.and_eq_true] at h
  cases h1; cases h2
  exact h.1
 | t' :: ts,d' :: ds,i + 1,h,h1,h2 => by
  rw [DataW.weightsEach,List.all_append,Bool.and_eq_true] at h
  exact weights_at i h.2 (by simpa using h1) (by simpa using h2)

theorem weightsAll_mem {e : TypeId} {d : DataW H} : ∀ {ds : List (DataW H)},(DataW.weightsAll P e ds).all (· ≤ M) = true → d ∈ ds → (d.weights P e).all (· ≤ M) = true
 | [],_,h => by cases h
 | d' :: ds,h,hd => by
  rw [DataW.weightsAll,List.all_append,Bool.and_eq_true] at h
  rcases List.mem_cons.1 hd with rfl | hd
  ·exact h.1
  ·exact weightsAll_mem h.2 hd

def Opn (W : World) (h : List AV → Prop) (B n : Nat) (cs : List Value) : Prop :=
 ∃ avs,h avs ∧ RepL (Gh.bare fun b o => sv W b o) avs cs ∧ avs.length = n ∧ AV.rfL avs = true ∧ avs.all AV.leaf = true ∧ wtL avs ≤ B

theorem open_fields {h : TypeId → List AV → Prop} {cs : List Value} : ∀ (fs : List Field) (ds : List (DataW H)) (o : Nat),consec P o fs cs.length = true → fs.length = ds.length → (∀ (i : Nat) (f : Field) (d : DataW H),fs[i]? = some f → ds[i]? = some d → Opn W (h f.type) (Rows.uptoBulk d) (P.cellsOf f.type) ((cs.drop f.offset).take (P.cellsOf f.type))) →
  Opn W (Has.HasL h fs) (Rows.uptoBulkAll ds) (cs.length - o) (cs.drop o)
 | [],_,o,hc,_,_ => by
  have e : o = cs.length:=Nat.eq_of_beq_eq_true hc
  refine ⟨[],rfl,?_,by simp [e],rfl,rfl,Nat.zero_le _⟩
  rw [e,List.drop_length]
  exact .nil
 | _ :: _,[],_,_,hl,_ => by simp at hl
 | f :: fs,d :: ds,o,hc,hl,hf => by
  simp only [consec,Bool.and_eq_true] at hc
  have eo : f.offset = o:=Nat.eq_of_beq_eq_true hc.1
  obtain ⟨a,a1,a2,a3,a4,a5,a6⟩:=hf 0 f d rfl rfl
  obtain ⟨b,b1,b2,b3,b4,b5,b6⟩:=open_fields fs ds _ hc.2 (by simpa using hl) fun i g d hg hd => hf (i + 1) g d (by simpa using hg) (by simpa using hd)
  rw [eo] at a2
  refine ⟨a ++ b,⟨a,b,rfl,a1,b1⟩,?_,?_,by rw [rfL_append,a4,b4] <;> rfl,by rw [List.all_append,a5,b5] <;> rfl,by rw [wtL_app,Rows.uptoBulkAll]; omega⟩
  ·have:=RepL.append a2 b2
   rwa [← List.drop_drop,List.take_append_drop] at this
  ·have hlen : a.length = ((cs.drop o).take (P.cellsOf f.type)).length:=(RepL.length a2).symm
   rw [List.length_append,a3,b3]
   rw [a3,List.length_take,List.length_drop] at hlen
   omega

theorem open_deep {ts : List TypeId} (hP : plainS P ts = true) : ∀ (k : Nat) (t : TypeId) (cs : List Value) (d : DataW H) (pl : List MemPlace),ts.contains t = true → DataW.trod enc P W 0 (fun _ => true) true k t cs = some (d,pl) → Fit P M t d →
  Opn W (Has P M k t) (Rows.uptoBulk d) (P.cellsOf t) cs
 | 0,_,_,_,_,_,h,_ => by simp [DataW.trod] at h
 | k + 1,t,cs,d,pl,ht,h,hb => by
  have hp:=List.all_eq_true.1 hP t (by simpa using ht)
  unfold plain1 at hp
  split at hp
  ·rename_i ik hu
   obtain ⟨v,rfl,_,hw⟩:=DataW.trod_int hu h
   refine ⟨[.int ik v],?_,.cons (.int ik v) .nil,by rw [beq_iff_eq] at hp; simp [hp],rfl,rfl,wt_one rfl _⟩
   simp only [Has,hu]
   exact ⟨v,rfl,hw⟩
  ·rename_i hu
   obtain ⟨b,rfl,_⟩:=DataW.trod_bool hu h
   refine ⟨[.bool b],?_,.cons (.bool b) .nil,by rw [beq_iff_eq] at hp; simp [hp],rfl,rfl,wt_one rfl _⟩
   simp only [Has,hu]
   exact ⟨b,rfl⟩
  ·rename_i hu
   obtain ⟨⟨⟨s⟩⟩,rfl,e,hw⟩:=DataW.trod_string hu h
   have hw : s.length ≤ M:=by
    cases e
    rcases hb with rfl | hb | hb
    ·exact hw
    ·replace hb:=hb.2
     rw [Rows.uptoBulk] at hb
     exact Nat.le_trans (Nat.le_succ _) hb
    ·rw [DataW.weights] at hb
     simpa using hb
   refine ⟨[.str s],?_,.cons (.str s) .nil,by rw [beq_iff_eq] at hp; simp [hp],rfl,rfl,wt_one rfl _⟩
   simp only [Has,hu]
   exact ⟨s,rfl,hw⟩
  ·rename_i fs hu
   simp only [Bool.and_eq_true,List.all_eq_true] at hp
   obtain ⟨xs,n',hk,e,hlen,hxl,hx⟩:=DataW.trod_struct hu h
   obtain rfl : k = n':=by omega
   have hbx : ∀ (i : Nat) x (f : Field),xs[i]? = some x → fs[i]? = some f → Fit P M f.type x.1:=fun i x f hx hf => by
    cases e
    refine hb.imp id fun hb => hb.imp (fun hb => ⟨hb.1,?_⟩) fun hb => ?_
    ·replace hb:=hb.2
     rw [Rows.uptoBulk] at hb
     have:=bulk_mem (l:=xs.map (·.1)) (List.mem_map.2 ⟨x,List.mem_of_getElem? hx,rfl⟩)
     omega
    ·rw [DataW.weights,hu] at hb
     exact weights_at i hb (by simp [hf]) (by simp [hx])
   have:=open_fields (W:=W) (h:=Has P M k) (cs:=cs) fs.toList (xs.map (·.1)) 0 (by rw [hlen]; exact hp.1) (by simp [hxl]) (fun i f d hi hd => by
    have hi' : fs[i]? = some f:=by simpa using hi
    have hf : f ∈ fs.toList:=List.mem_of_getElem? hi
    obtain ⟨x,hxi,rfl⟩ : ∃ x,xs[i]? = some x ∧ x.1 = d:=by
     rw [List.getElem?_map] at hd
     obtain ⟨x,h1,h2⟩:=Option.map_eq_some_iff.1 hd
     exact ⟨x,h1,h2⟩
    have h2:=hx i f hi'
    rw [hxi] at h2
    exact open_deep hP k f.type _ _ _ (hp.2 f hf) h2 (hbx i _ f hxi hi'))
   rw [List.drop_zero,Nat.sub_zero,hlen] at this
   obtain ⟨avs,h1,h2,h3,h4,h5,h6⟩:=this
   refine ⟨avs,?_,h2,h3,h4,h5,by cases e; rw [Rows.uptoBulk]; omega⟩
   simp only [Has,hu]
   exact h1
  ·rename_i e hu
   simp only [Bool.and_eq_true,decide_eq_true_eq,beq_iff_eq] at hp
   obtain ⟨⟨h1,h0,hby⟩,hpe⟩:=hp
   rcases DataW.trod_slice hu h with ⟨rfl,_⟩ | ⟨a,len,cap,elems,rest,n',hk,rfl,e0,_,hl,hm,hln0,hel,_⟩
   ·refine ⟨[.list []],?_,.cons (.list (cs:=[]) (sz:=0) .nil (by simp) rfl rfl (by simp) rfl (Nat.zero_le _) (Nat.zero_le _)) .nil,by simp [h1],rfl,rfl,wt_one rfl _⟩
    simp only [Has,hu]
    exact ⟨[],rfl,⟨Nat.zero_le _,fun _ => by simp⟩,by simp,Nat.zero_le _⟩
   ·obtain rfl : k = n':=by omega
    have hbx : ∀ x ∈ elems,Fit P M e x.1:=fun x hx => by
     cases e0
     refine hb.imp id fun hb => hb.imp (fun hb => ⟨hb.1,?_⟩) fun hb => ?_
     ·replace hb:=hb.2
      rw [Rows.uptoBulk] at hb
      have:=bulk_mem (l:=elems.map (·.1)) (List.mem_map.2 ⟨x,hx,rfl⟩)
      omega
     ·rw [DataW.weights,hu,List.all_cons,List.all_append,Bool.and_eq_true,Bool.and_eq_true] at hb
      exact weightsAll_mem hb.2.1 (List.mem_map.2 ⟨x,hx,rfl⟩)
    have hlenM : len ≤ M:=by
     cases e0
     rcases hb with rfl | hb | hb
     ·omega
     ·have key : ∀ l : List (DataW H),l.length ≤ Rows.uptoBulkAll l:=by
       intro l
       induction l with
       | nil => simp
       | cons x l ih =>
        have : 1 ≤ Rows.uptoBulk x:=by unfold Rows.uptoBulk; split <;> omega
        rw [Rows.uptoBulkAll,List.length_cons]
        omega
      replace hb:=hb.2
      rw [Rows.uptoBulk] at hb
      have:=key (elems.map (·.1))
      rw [List.length_map] at this
      omega
     ·rw [DataW.weights,hu,List.all_cons,Bool.and_eq_true] at hb
      have h5:=hb.1
      simp only [decide_eq_true_eq,List.length_map] at h5
      have h6 : elems.length * 1 ≤ (elems.length + rest.length) * P.bytesOf e:=Nat.mul_le_mul (Nat.le_add_right _ _) hby
      omega
    have hlenB : M = reachBytes → len * P.bytesOf e ≤ M:=fun hM => by
     cases e0
     rcases hb with rfl | hb | hb
     ·exact absurd hM (by unfold maxLen reachBytes; omega)
     ·exact absurd hM hb.1
     ·rw [DataW.weights,hu,List.all_cons,Bool.and_eq_true] at hb
      have h5:=hb.1
      simp only [decide_eq_true_eq,List.length_map] at h5
      have h6 : elems.length * P.bytesOf e ≤ (elems.length + rest.length) * P.bytesOf e:=Nat.mul_le_mul (Nat.le_add_right _ _) (Nat.le_refl _)
      have h7 : len * P.bytesOf e = elems.length * P.bytesOf e:=by rw [show len = elems.length by omega]
      omega
    haveI : Inhabited ({c : List Value // c.length = P.cellsOf e} × List AV):=⟨(⟨List.replicate (P.cellsOf e) (.bool false),by simp⟩,[])⟩
    obtain ⟨F,hF⟩:=choose_lt (α:={c : List Value // c.length = P.cellsOf e} × List AV) (n:=len) (p:=fun i x => W.cells? 0 (a.add (i * P.cellsOf e)) (P.cellsOf e) = some x.1.1 ∧ Has P M k e x.2 ∧ RepL (Gh.bare fun b o => sv W b o) x.2 x.1.1 ∧ x.2.length = P.cellsOf e ∧ AV.rfL x.2 = true ∧ x.2.all AV.leaf = true ∧ ∀ d,elems[i]? = some d → wtL x.2 ≤ Rows.uptoBulk d.1) (fun i hi => by
     have hb:=hel i hi
     rw [List.getElem?_eq_getElem (by omega)] at hb
     obtain ⟨cs',c1,c2⟩:=Option.bind_eq_some_iff.1 hb
     obtain ⟨_,hln,_⟩:=World.cells?_some c1
     obtain ⟨avs,o1,o2,o3,o4,o5,o6⟩:=open_deep hP k e cs' _ _ hpe c2 (hbx _ (List.getElem_mem _))
     exact ⟨(⟨cs',hln⟩,avs),c1,o1,o2,o3,o4,o5,fun d hd => by
      rw [List.getElem?_eq_getElem (by omega)] at hd
      cases hd
      exact o6⟩)
    have cellAt : ∀ i j,i < len → j < P.cellsOf e → W.cell? (a.add (i * P.cellsOf e + j)) = (F i).1.1[j]?:=by
     intro i j hi hj
     obtain ⟨_,_,h3⟩:=World.cells?_some (hF i hi).1
     rw [← h3 j hj,add_add]
    have hspot : 0 < len → a.spot = none:=by
     intro hc
     have:=cellAt 0 0 hc h0
     rw [Nat.zero_mul,show a.add (0 + 0) = a from rfl,List.getElem?_eq_getElem (by rw [(F 0).1.2]; exact h0)] at this
     unfold World.cell? at this
     split at this
     ·split at this
      ·cases this
      ·rename_i h; simpa using h
     ·cases this
    have hel' : ∀ c ∈ (List.range len).map (fun i => (F i).2),∃ i,i < len ∧ c = (F i).2:=by
     intro c hc
     obtain ⟨i,hi,rfl⟩:=List.mem_map.1 hc
     exact ⟨i,List.mem_range.1 hi,rfl⟩
    have hflat : ∀ L : List (List AV),(∀ c ∈ L,c.all AV.leaf = true) → flat (L.map elemV) = L.flatten:=by
     intro L
     induction L with
     | nil => intro _; rfl
     | cons c L ih =>
      intro hh
      show (elemV c).cells ++ flat (L.map elemV) = c ++ L.flatten
      rw [elemV_cells (hh c (by simp)),ih fun x hx => hh x (by simp [hx])]
    have hrf : ∀ L : List (List AV),(∀ c ∈ L,AV.rfL c = true) → AV.rfL L.flatten = true:=by
     intro L
     induction L with
     | nil => intro _; rfl
     | cons c L ih =>
      intro hh
      rw [List.flatten_cons,rfL_append,hh c (by simp),ih fun x hx => hh x (by simp [hx])] <;> rfl
    have hlf : ∀ L : List (List AV),(∀ c ∈ L,c.all AV.leaf = true) → L.flatten.all AV.leaf = true:=by
     intro L
     induction L with
     | nil => intro _; rfl
     | cons c L ih =>
      intro hh
      rw [List.flatten_cons,List.all_append,hh c (by simp),ih fun x hx => hh x (by simp [hx])] <;> rfl
    have hl1 : ∀ c ∈ (List.range len).map (fun i => (F i).2),c.all AV.leaf = true:=fun c hc => by
     obtain ⟨i,hi,rfl⟩:=hel' c hc
     exact (hF i hi).2.2.2.2.2.1
    have hl2 : ∀ c ∈ (List.range len).map (fun i => (F i).2),AV.rfL c = true:=fun c hc => by
     obtain ⟨i,hi,rfl⟩:=hel' c hc
     exact (hF i hi).2.2.2.2.1
    have hwt : wtL [.list (((List.range len).map fun i => (F i).2).map elemV)] ≤ Rows.uptoBulk d:=by
     cases e0
     have hw:=fun n hn => wt_range (fun i => if i < len then (F i).2 else []) (elems.map (·.1)) (fun i d hd => by
      rw [List.getElem?_map] at hd
      obtain ⟨x,h1,rfl⟩:=Option.map_eq_some_iff.1 hd
      by_cases hi : i < len
      ·rw [if_pos hi]; exact (hF i hi).2.2.2.2.2.2 x h1
      ·rw [if_neg hi]; exact Nat.zero_le _) n hn
     have h1:=hw len (by rw [List.length_map]; omega)
     rw [List.take_of_length_le (by rw [List.length_map]; omega)] at h1
     have h2 : (List.range len).map (fun i => if i < len then (F i).2 else []) = (List.range len).map fun i => (F i).2:=by
      refine List.map_congr_left fun i hi => ?_
      rw [if_pos (List.mem_range.1 hi)]
     rw [h2] at h1
     rw [wtL,wtL,wt,Rows.uptoBulk]
     omega
    refine ⟨[.list (((List.range len).map fun i => (F i).2).map elemV)],?_,.cons (.list (cs:=((List.range len).map fun i => (F i).1.1).flatten) (sz:=P.cellsOf e) ?_ ?_ ?_ ?_ ?_ (by simp) hl (by omega)) .nil,by simp [h1],rfl,rfl,hwt⟩
    ·simp only [Has,hu]
     refine ⟨_,rfl,⟨by simp; omega,fun hM => by simpa using hlenB hM⟩,?_,by simpa using hlenM⟩
     intro c hc
     obtain ⟨i,hi,rfl⟩:=hel' c hc
     exact (hF i hi).2.1
    ·rw [hflat _ hl1]
     refine repL_flatten (by simp) fun i g1 g2 => ?_
     simp only [List.length_map,List.length_range] at g1
     simp only [List.getElem_map,List.getElem_range]
     exact (hF i (by omega)).2.2.1
    ·intro x hx
     obtain ⟨c,hc,rfl⟩:=List.mem_map.1 hx
     rw [elemV_cells (hl1 c hc)]
     obtain ⟨i,hi,rfl⟩:=hel' c hc
     exact (hF i hi).2.2.2.1
    ·rw [hflat _ hl1]; exact hrf _ hl2
    ·rw [hflat _ hl1]; exact hlf _ hl1
    ·intro j u hj
     rw [← List.flatMap_def,flatMap_get h0 (fun i => (F i).1.2)] at hj
     by_cases hi : j / P.cellsOf e < len
     ·rw [List.getElem?_range hi] at hj
      have hj : (F (j / P.cellsOf e)).1.1[j % P.cellsOf e]? = some u:=hj
      have hk:=cellAt (j / P.cellsOf e) (j % P.cellsOf e) (by omega) (Nat.mod_lt _ h0)
      rw [hj,Nat.div_add_mod'] at hk
      have hs:=hspot (Nat.lt_of_le_of_lt (Nat.zero_le _) hi)
      obtain ⟨b,o,s⟩:=a
      subst hs
      refine ⟨b,o,rfl,?_⟩
      refine sv_cell ?_
      show W.cell? ⟨b,o + j,none⟩ = some u
      rw [← hk]
      unfold Addr.add
      split
      ·rename_i h; rw [h]; rfl
      ·rfl
     ·rw [List.getElem?_eq_none (by simp; omega)] at hj
      cases hj
  ·cases hp

theorem deep_stays {t : TypeId} {v : Value} {d : DataW H} {p : List MemPlace} (hl : laidOutB P = true) (hr : P.readableRec t = true) (hrow : t < P.types.size) (h : DataW.Trod enc P W 0 (fun _ => true) true t v d p) :
  ∀ (W' : World) (sp : Nat → Bool),Below W.heap.size W W' → (∀ q ∈ p,sp q.block = true) → DataW.Trod enc P W' 0 sp true t v d p:=by
 intro W' sp hb hs
 obtain ⟨n,hn⟩:=h
 exact Trod_stays hl hr hrow ⟨n,hn⟩ (fun x hx => hb.same (DataW.trod_lt n _ _ _ hn x hx)) hs

theorem open_struct {t : TypeId} {fs : Array Field} {ts : List TypeId} {r : Reach} {b0 : Nat} {v : Value} {d : DataW H} {p : List MemPlace} (hP : plainS P ts = true) (ht : ts.contains t = true) (hs : P.underlying t = some (.struct fs)) (hv : Value.okWide P W r b0 t v)
  (h : DataW.Trod enc P W 0 (fun _ => true) true t v d p) (hb : Fit P M t d) : ∃ k avs,Has P M k t avs ∧ Rep (Gh.bare fun b o => sv W b o) (.agg avs) v:=by
 obtain ⟨⟨cs⟩,rfl,_⟩:=okWide_struct hs hv
 obtain ⟨n,hn⟩:=h
 obtain ⟨avs,h1,h2,_⟩:=open_deep hP n t _ _ _ ht hn hb
 exact ⟨n,avs,h1,.agg h2⟩
theorem open_struct_w {t : TypeId} {fs : Array Field} {ts : List TypeId} {r : Reach} {b0 : Nat} {v : Value} {d : DataW H} {p : List MemPlace} (hP : plainS P ts = true) (ht : ts.contains t = true) (hs : P.underlying t = some (.struct fs)) (hv : Value.okWide P W r b0 t v)
  (h : DataW.Trod enc P W 0 (fun _ => true) true t v d p) (hb : Fit P M t d) : ∃ k avs,Has P M k t avs ∧ Rep (Gh.bare fun b o => sv W b o) (.agg avs) v ∧ wtL avs ≤ Rows.uptoBulk d:=by
 obtain ⟨⟨cs⟩,rfl,_⟩:=okWide_struct hs hv
 obtain ⟨n,hn⟩:=h
 obtain ⟨avs,h1,h2,_,_,_,h6⟩:=open_deep hP n t _ _ _ ht hn hb
 exact ⟨n,avs,h1,.agg h2,h6⟩

theorem list_of {X : Type} {f : X → List AV} {ok : X → Prop} : ∀ {l : List (List AV)},(∀ c ∈ l,∃ x,ok x ∧ c = f x) → ∃ xs : List X,l = xs.map f ∧ ∀ x ∈ xs,ok x
 | [],_ => ⟨[],rfl,by simp⟩
 | c :: l,h => by
  obtain ⟨x,hx,rfl⟩:=h c (by simp)
  obtain ⟨xs,rfl,hxs⟩:=list_of (l:=l) fun c hc => h c (by simp [hc])
  exact ⟨x :: xs,rfl,by simpa using ⟨hx,hxs⟩⟩

end

end Go.Proofs.YtgannjophilbiaaGreatDoor.Br

namespace Go.Proofs.YtgannjophilbiaaGreatDoor.Br
open Go Am

section
variable {P : Program} {M k : Nat} {t : TypeId} {cs : List AV}

theorem has_int {ik : IntKind} (hu : P.underlying t = some (.int ik)) (h : Has P M k t cs) : ∃ n,cs = [.int ik n] ∧ (Lit.int ik n).wf = true:=by
 cases k with
 | zero => cases h
 | succ k => simpa only [Has,hu] using h

theorem has_bool (hu : P.underlying t = some .bool) (h : Has P M k t cs) : ∃ b,cs = [.bool b]:=by
 cases k with
 | zero => cases h
 | succ k => simpa only [Has,hu] using h

theorem has_str (hu : P.underlying t = some .string) (h : Has P M k t cs) : ∃ s,cs = [.str s] ∧ s.length ≤ M:=by
 cases k with
 | zero => cases h
 | succ k => simpa only [Has,hu] using h

theorem has_slice {e : TypeId} (hu : P.underlying t = some (.slice e)) (h : Has P M k t cs) : ∃ (k' : Nat) (l : List (List AV)),cs = [.list (l.map elemV)] ∧ l.length ≤ maxLen ∧ ∀ c ∈ l,Has P M k' e c:=by
 cases k with
 | zero => cases h
 | succ k =>
  simp only [Has,hu] at h
  obtain ⟨l,h1,h2,h3,_⟩:=h
  exact ⟨k,l,h1,h2.1,h3⟩

theorem has_sliceM {e : TypeId} (hu : P.underlying t = some (.slice e)) (h : Has P M k t cs) : ∃ (k' : Nat) (l : List (List AV)),cs = [.list (l.map elemV)] ∧ l.length ≤ M ∧ ∀ c ∈ l,Has P M k' e c:=by
 cases k with
 | zero => cases h
 | succ k =>
  simp only [Has,hu] at h
  obtain ⟨l,h1,_,h3,h4⟩:=h
  exact ⟨k,l,h1,h4,h3⟩

theorem has_struct {fs : Array Field} (hu : P.underlying t = some (.struct fs)) (h : Has P M k t cs) : ∃ k',Has.HasL (Has P M k') fs.toList cs:=by
 cases k with
 | zero => cases h
 | succ k =>
  simp only [Has,hu] at h
  exact ⟨k,h⟩

end

structure PO where
 num : Int
 name : List UInt8
 alias : List UInt8
 card : Int
 key : Int
 kind : Int
 target : Int
 union : Int

def PO.cells (o : PO) : List AV:=[.int .i64 o.num,.str o.name,.str o.alias,.int .i64 o.card,.int .i64 o.key,.int .i64 o.kind,.int .i64 o.target,.int .i64 o.union]

structure PO.ok (M : Nat) (o : PO) : Prop where
 num : (Lit.int .i64 o.num).wf = true
 name : o.name.length ≤ M
 alias : o.alias.length ≤ M
 card : (Lit.int .i64 o.card).wf = true
 key : (Lit.int .i64 o.key).wf = true
 kind : (Lit.int .i64 o.kind).wf = true
 target : (Lit.int .i64 o.target).wf = true
 union : (Lit.int .i64 o.union).wf = true

theorem has_op {M k : Nat} {cs : List AV} (h : Has Tryz.prog M k 51 cs) : ∃ o : PO,o.ok M ∧ cs = o.cells:=by
 obtain ⟨k,h⟩:=has_struct Tryz.underlying51 h
 simp only [Has.HasL] at h
 obtain ⟨_,_,rfl,h0,_,_,rfl,h1,_,_,rfl,h2,_,_,rfl,h3,_,_,rfl,h4,_,_,rfl,h5,_,_,rfl,h6,_,_,rfl,h7,rfl⟩:=h
 obtain ⟨a0,rfl,w0⟩:=has_int Tryz.underlying3 h0
 obtain ⟨a1,rfl,w1⟩:=has_str Tryz.underlying9 h1
 obtain ⟨a2,rfl,w2⟩:=has_str Tryz.underlying9 h2
 obtain ⟨a3,rfl,w3⟩:=has_int Tryz.underlying3 h3
 obtain ⟨a4,rfl,w4⟩:=has_int Tryz.underlying3 h4
 obtain ⟨a5,rfl,w5⟩:=has_int Tryz.underlying3 h5
 obtain ⟨a6,rfl,w6⟩:=has_int Tryz.underlying3 h6
 obtain ⟨a7,rfl,w7⟩:=has_int Tryz.underlying3 h7
 exact ⟨⟨a0,a1,a2,a3,a4,a5,a6,a7⟩,⟨w0,w1,w2,w3,w4,w5,w6,w7⟩,rfl⟩

structure PG where
 name : List UInt8
 ops : List PO
 unions : Int

def PG.cells (g : PG) : List AV:=[.str g.name,.list (g.ops.map fun o => .agg o.cells),.int .i64 g.unions]

structure PG.ok (M : Nat) (g : PG) : Prop where
 name : g.name.length ≤ M
 len : g.ops.length ≤ maxLen
 ops : ∀ o ∈ g.ops,o.ok M
 unions : (Lit.int .i64 g.unions).wf = true

theorem has_prog {M k : Nat} {cs : List AV} (h : Has Tryz.prog M k 56 cs) : ∃ g : PG,g.ok M ∧ cs = g.cells:=by
 obtain ⟨k,h⟩:=has_struct Tryz.underlying56 h
 simp only [Has.HasL] at h
 obtain ⟨_,_,rfl,h0,_,_,rfl,h1,_,_,rfl,h2,rfl⟩:=h
 obtain ⟨a0,rfl,w0⟩:=has_str Tryz.underlying9 h0
 obtain ⟨k',l,rfl,w1,hl⟩:=has_slice Tryz.underlying54 h1
 obtain ⟨a2,rfl,w2⟩:=has_int Tryz.underlying3 h2
 obtain ⟨ops,rfl,hok⟩:=list_of (f:=PO.cells) (ok:=PO.ok M) fun c hc => has_op (hl c hc)
 refine ⟨⟨a0,ops,a2⟩,⟨w0,by simpa using w1,hok,w2⟩,?_⟩
 simp only [PG.cells,List.map_map,List.cons_append,List.nil_append]
 rfl

structure PS where
 lo : Int
 hi : Int

def PS.cells (x : PS) : List AV:=[.int .i64 x.lo,.int .i64 x.hi]
def PS.ok (x : PS) : Prop:=(Lit.int .i64 x.lo).wf = true ∧ (Lit.int .i64 x.hi).wf = true

theorem has_span {M k : Nat} {cs : List AV} (h : Has Tryz.prog M k 114 cs) : ∃ x : PS,x.ok ∧ cs = x.cells:=by
 obtain ⟨k,h⟩:=has_struct Tryz.underlying114 h
 simp only [Has.HasL] at h
 obtain ⟨_,_,rfl,h0,_,_,rfl,h1,rfl⟩:=h
 obtain ⟨a0,rfl,w0⟩:=has_int Tryz.underlying3 h0
 obtain ⟨a1,rfl,w1⟩:=has_int Tryz.underlying3 h1
 exact ⟨⟨a0,a1⟩,⟨w0,w1⟩,rfl⟩

structure PN where
 name : List UInt8
 val : List AV

def PN.cells (x : PN) : List AV:=.str x.name :: x.val
def PN.ok (P : Program) (M : Nat) (t : TypeId) (x : PN) : Prop:=x.name.length ≤ M ∧ ∃ k,Has P M k t x.val

theorem has_note {M k : Nat} {cs : List AV} (h : Has Tryz.prog M k 116 cs) : ∃ x : PN,x.ok Tryz.prog M 32 ∧ cs = x.cells:=by
 obtain ⟨k,h⟩:=has_struct Tryz.underlying116 h
 simp only [Has.HasL] at h
 obtain ⟨_,_,rfl,h0,a1,_,rfl,h1,rfl⟩:=h
 obtain ⟨a0,rfl,w0⟩:=has_str Tryz.underlying9 h0
 exact ⟨⟨a0,a1⟩,⟨w0,k,h1⟩,by simp [PN.cells]⟩

structure PI where
 name : List UInt8
 num : Int
 notes : List PN

def PI.cells (x : PI) : List AV:=[.str x.name,.int .i64 x.num,.list (x.notes.map fun n => elemV n.cells)]

structure PI.ok (M : Nat) (x : PI) : Prop where
 name : x.name.length ≤ M
 num : (Lit.int .i64 x.num).wf = true
 len : x.notes.length ≤ maxLen
 notes : ∀ n ∈ x.notes,n.ok Tryz.prog M 32

theorem has_item {M k : Nat} {cs : List AV} (h : Has Tryz.prog M k 111 cs) : ∃ x : PI,x.ok M ∧ cs = x.cells:=by
 obtain ⟨k,h⟩:=has_struct Tryz.underlying111 h
 simp only [Has.HasL] at h
 obtain ⟨_,_,rfl,h0,_,_,rfl,h1,_,_,rfl,h2,rfl⟩:=h
 obtain ⟨a0,rfl,w0⟩:=has_str Tryz.underlying9 h0
 obtain ⟨a1,rfl,w1⟩:=has_int Tryz.underlying3 h1
 obtain ⟨k',l,rfl,w2,hl⟩:=has_slice Tryz.underlying66 h2
 obtain ⟨ns,rfl,hok⟩:=list_of (f:=PN.cells) (ok:=PN.ok Tryz.prog M 32) fun c hc => has_note (hl c hc)
 refine ⟨⟨a0,a1,ns⟩,⟨w0,w1,by simpa using w2,hok⟩,?_⟩
 simp only [PI.cells,List.map_map,List.cons_append,List.nil_append]
 rfl

structure PE where
 name : List UInt8
 opn : Bool
 items : List PI
 free : List PS
 notes : List PN

def PE.cells (x : PE) : List AV:=[.str x.name,.bool x.opn,.list (x.items.map fun n => .agg n.cells),.list (x.free.map fun n => .agg n.cells),.list (x.notes.map fun n => elemV n.cells)]

structure PE.ok (M : Nat) (x : PE) : Prop where
 name : x.name.length ≤ M
 len1 : x.items.length ≤ maxLen
 items : ∀ n ∈ x.items,n.ok M
 len2 : x.free.length ≤ maxLen
 free : ∀ n ∈ x.free,n.ok
 len3 : x.notes.length ≤ maxLen
 notes : ∀ n ∈ x.notes,n.ok Tryz.prog M 32

theorem has_enum {M k : Nat} {cs : List AV} (h : Has Tryz.prog M k 107 cs) : ∃ x : PE,x.ok M ∧ cs = x.cells:=by
 obtain ⟨k,h⟩:=has_struct Tryz.underlying107 h
 simp only [Has.HasL] at h
 obtain ⟨_,_,rfl,h0,_,_,rfl,h1,_,_,rfl,h2,_,_,rfl,h3,_,_,rfl,h4,rfl⟩:=h
 obtain ⟨a0,rfl,w0⟩:=has_str Tryz.underlying9 h0
 obtain ⟨a1,rfl⟩:=has_bool Tryz.underlying4 h1
 obtain ⟨k2,l2,rfl,w2,hl2⟩:=has_slice Tryz.underlying105 h2
 obtain ⟨k3,l3,rfl,w3,hl3⟩:=has_slice Tryz.underlying72 h3
 obtain ⟨k4,l4,rfl,w4,hl4⟩:=has_slice Tryz.underlying66 h4
 obtain ⟨x2,rfl,o2⟩:=list_of (f:=PI.cells) (ok:=PI.ok M) fun c hc => has_item (hl2 c hc)
 obtain ⟨x3,rfl,o3⟩:=list_of (f:=PS.cells) (ok:=PS.ok) fun c hc => has_span (hl3 c hc)
 obtain ⟨x4,rfl,o4⟩:=list_of (f:=PN.cells) (ok:=PN.ok Tryz.prog M 32) fun c hc => has_note (hl4 c hc)
 refine ⟨⟨a0,a1,x2,x3,x4⟩,⟨w0,by simpa using w2,o2,by simpa using w3,o3,by simpa using w4,o4⟩,?_⟩
 simp only [PE.cells,List.map_map,List.cons_append,List.nil_append]
 rfl

structure PL where
 progs : List PG
 enums : List PE

def PL.av (p : PL) : AV:=.agg [.list (p.progs.map fun n => .agg n.cells),.list (p.enums.map fun n => .agg n.cells)]

structure PL.ok (M : Nat) (x : PL) : Prop where
 len1 : x.progs.length ≤ maxLen
 progs : ∀ n ∈ x.progs,n.ok M
 len2 : x.enums.length ≤ maxLen
 enums : ∀ n ∈ x.enums,n.ok M

theorem has_plan {M k : Nat} {cs : List AV} (h : Has Tryz.prog M k 25 cs) : ∃ x : PL,x.ok M ∧ .agg cs = x.av:=by
 obtain ⟨k,h⟩:=has_struct Tryz.underlying25 h
 simp only [Has.HasL] at h
 obtain ⟨_,_,rfl,h0,_,_,rfl,h1,rfl⟩:=h
 obtain ⟨k2,l2,rfl,w2,hl2⟩:=has_slice Tryz.underlying22 h0
 obtain ⟨k3,l3,rfl,w3,hl3⟩:=has_slice Tryz.underlying23 h1
 obtain ⟨x2,rfl,o2⟩:=list_of (f:=PG.cells) (ok:=PG.ok M) fun c hc => has_prog (hl2 c hc)
 obtain ⟨x3,rfl,o3⟩:=list_of (f:=PE.cells) (ok:=PE.ok M) fun c hc => has_enum (hl3 c hc)
 refine ⟨⟨x2,x3⟩,⟨by simpa using w2,o2,by simpa using w3,o3⟩,?_⟩
 simp only [PL.av,List.map_map,List.cons_append,List.nil_append]
 rfl

end Go.Proofs.YtgannjophilbiaaGreatDoor.Br

namespace Go.Proofs.YtgannjophilbiaaGreatDoor.Va
open Go Am Rc Bt Br

def fxi {α : Type} (p : α → Bool) : List α → Nat → Int
 | [],_ => -1
 | x :: l,i => if p x = true then (i : Int) else fxi p l (i + 1)

theorem fxi_spec {α : Type} (p : α → Bool) : ∀ (l : List α) (i : Nat),(fxi p l i = -1 ∧ l.find? p = none) ∨ ∃ k o,fxi p l i = ((i + k : Nat) : Int) ∧ l[k]? = some o ∧ l.find? p = some o
 | [],_ => .inl ⟨rfl,rfl⟩
 | x :: l,i => by
  unfold fxi
  rw [List.find?_cons]
  cases h : p x with
  | true => exact .inr ⟨0,x,by simp,rfl,rfl⟩
  | false =>
   simp only [Bool.false_eq_true,if_false]
   rcases fxi_spec p l (i + 1) with h' | ⟨k,o,h1,h2,h3⟩
   ·exact .inl h'
   ·exact .inr ⟨k + 1,o,by rw [h1]; congr 1; omega,by simpa using h2,h3⟩

theorem fxi_drop {α : Type} (p : α → Bool) {l : List α} {i : Nat} {x : α} (hx : l[i]? = some x) : fxi p (l.drop i) i = if p x = true then (i : Int) else fxi p (l.drop (i + 1)) (i + 1):=by
 have hlt : i < l.length:=(List.getElem?_eq_some_iff.1 hx).1
 rw [List.drop_eq_getElem_cons hlt,show l[i] = x from (List.getElem?_eq_some_iff.1 hx).2]
 rfl

def oav (o : PO) : AV:=.agg o.cells
def gav (g : PG) : AV:=.agg g.cells
def iav (x : PI) : AV:=.agg x.cells
def eav (x : PE) : AV:=.agg x.cells

section ops
variable (L : List PO) (hl : L.length ≤ maxLen) (p : PO → Bool) (c : Nat) (cap : AV) (m : Mem)

def IxO (k : Nat) (st : St) : Prop :=
 ∃ f i,st = ⟨f,noObs :: m,[]⟩ ∧ k = L.length - i ∧ fxi p L 0 = fxi p (L.drop i) i ∧ f 0 = .list (L.map oav) ∧ f 1 = .fn (.func c) [] [cap.sh] ∧ f 7 = .int .i64 (L.length : Nat) ∧ f 8 = .int .i64 (i : Nat)

include hl in
theorem y80 (hc : ∀ o ∈ L,ACalls Tryz.prog c [oav o,cap.sh] (noObs :: m) fun y m1 => y = .bool (p o) ∧ m1 = noObs :: m) :
  ACalls Tryz.prog 80 [.list (L.map oav),.fn (.func c) [] [cap]] m fun y m1 => y = .int .i64 (fxi p L 0) ∧ m1 = m:=by
 refine k80.go (by simp) ?_
 simp only [List.length_map,eES,seval]
 refine awp_loop (IxO L p c cap m) _ ⟨_,0,rfl,rfl,rfl,(by rfl),(by rfl),(by rfl),(by rfl)⟩ ?_
 rintro _ st ⟨f,i,rfl,rfl,hx,h0,h1,h7,h8⟩
 simp only [h7,h8,eES,seval]
 by_cases hlt : i < L.length
 ·obtain ⟨x,hi⟩ : ∃ x,L[i]? = some x:=⟨L[i],List.getElem?_eq_getElem hlt⟩
  have hcl:=hc x (List.mem_of_getElem? hi)
  have hg : (L.map oav)[i]? = some (oav x):=by simp [hi]
  have e1:=wi64_s i _ hlt hl
  simp only [oav,PO.cells] at hcl
  simp only [lt_t hlt,nneg,Int.toNat_natCast,aiaddr,hg,oav,PO.cells,h0,h1,h8,eES,eEX,seval]
  refine aops_callV (fa:=[]) (fb:=[cap.sh]) (by rfl) hcl (by simp only [List.map_cons,List.map_nil,List.nil_append,List.cons_append,eES,seval]) ?_
  rw [fxi_drop p hi] at hx
  cases hp : p x
  ·rw [hp] at hx
   simp only [Bool.false_eq_true,if_false] at hx
   simp only [h8,e1,eES,seval]
   exact ⟨L.length - (i + 1),by omega,_,i + 1,rfl,rfl,hx,(by exact h0),(by exact h1),(by exact h7),(by rfl)⟩
  ·rw [hp] at hx
   simp only [if_true] at hx
   simp only [hx,eES,seval]
 ·have hx' : fxi p L 0 = -1:=by rw [hx,List.drop_of_length_le (by omega)]; rfl
  simp only [lt_f hlt,hx',eES,seval]

end ops

def PO0 : PO:=⟨0,[],[],0,0,0,0,0⟩
def opr (p : PO → Bool) (L : List PO) : AV:=.tup [oav ((L.find? p).getD PO0),.bool (L.find? p).isSome]

theorem y48 (g : PG) (hl : g.ops.length ≤ maxLen) (p : PO → Bool) (c : Nat) (cap : AV) (m : Mem) (hc : ∀ fr,∀ o ∈ g.ops,ACalls Tryz.prog c [oav o,cap.sh.sh] (noObs :: fr :: m) fun y m1 => y = .bool (p o) ∧ m1 = noObs :: fr :: m) :
  ACalls Tryz.prog 48 [.agg [.fn (.func c) [] [cap]],gav g] m fun y m1 => y = opr p g.ops ∧ m1 = m:=by
 refine k48.go (by simp) ?_
 simp only [gav,PG.cells,eES,eEX,seval]
 refine aops_callF (y80 g.ops hl p c cap.sh _ fun o ho => hc _ o ho) (by simp only [List.map_cons,List.map_nil,eES,seval]; rfl) ?_
 rcases fxi_spec p g.ops 0 with ⟨h1,h2⟩ | ⟨j,o,h1,h2,h3⟩
 ·simp only [h1,opr,h2,Option.getD_none,Option.isSome_none,PO0,oav,PO.cells,splice,List.take_zero,List.nil_append,List.drop_succ_cons,List.drop_zero,List.drop_nil,List.append_nil,List.length_cons,List.length_nil,List.all_cons,List.all_nil,AV.leaf,eES,eEX,seval]
 ·have hj : (g.ops.map fun o => AV.agg o.cells)[j]? = some (.agg o.cells):=by simp [h2]
  have d : decide ((j : Int) < 0) = false:=decide_eq_false (by omega)
  rw [Nat.zero_add] at h1
  simp only [PO.cells] at hj
  simp only [h1,d,nneg,Int.toNat_natCast,aiaddr,Nat.zero_add,hj,opr,h3,Option.getD_some,Option.isSome_some,oav,PO.cells,splice,List.take_zero,List.nil_append,List.drop_succ_cons,List.drop_zero,List.drop_nil,List.append_nil,List.length_cons,List.length_nil,List.all_cons,List.all_nil,AV.leaf,eES,eEX,seval]

section
variable (o : PO) (fr frO : Nat → Ob)

theorem y47 (n : Int) (hf : frO 3 = .cells [.int .i64 n]) : ACalls Tryz.prog 47 [oav o,.ptr 2 3 0] [noObs,fr,frO] fun y m1 => y = .bool (o.num == n) ∧ m1 = [noObs,fr,frO]:=by
 refine k47.go (by simp) ?_
 simp only [hf,oav,PO.cells,eES,eEX,seval]

end

theorem y17 (g : PG) (hl : g.ops.length ≤ maxLen) (n : Int) : Fn1 Tryz.prog 17 [gav g,.int .i64 n] (opr (fun o => o.num == n) g.ops):=by
 refine k17.fn (by simp) ?_
 simp only [gav,PG.cells,eES,eEX,seval]
 refine aops_callF (y48 g hl (fun o => o.num == n) 47 (.ptr 0 3 0) _ fun fr o _ => y47 o fr _ n (by rfl)) (by simp only [List.map_cons,List.map_nil,gav,PG.cells,eES,seval]) ?_
 simp only [opr,oav,PO.cells,splice,List.take_zero,List.nil_append,List.drop_succ_cons,List.drop_zero,List.drop_nil,List.append_nil,List.length_cons,List.length_nil,List.all_cons,List.all_nil,AV.leaf,eES,eEX,seval]


def allU (p : Nat → Bool) : Nat → Bool
 | 0 => true
 | n + 1 => allU p n && p n

theorem allU_iff {p : Nat → Bool} {n : Nat} : allU p n = true ↔ ∀ i,i < n → p i = true:=by
 induction n with
 | zero => simp [allU]
 | succ n ih =>
  simp only [allU,Bool.and_eq_true,ih]
  constructor
  ·rintro ⟨h1,h2⟩ i hi
   rcases Nat.lt_succ_iff_lt_or_eq.1 hi with h | rfl
   ·exact h1 i h
   ·exact h2
  ·intro h
   exact ⟨fun i hi => h i (by omega),h n (by omega)⟩

theorem allU_and {p q : Nat → Bool} {n : Nat} : allU (fun i => p i && q i) n = (allU p n && allU q n):=by
 induction n with
 | zero => rfl
 | succ n ih =>
  simp only [allU,ih]
  cases allU p n <;> cases allU q n <;> cases p n <;> cases q n <;> rfl

def ask {α : Type} (l : List α) (q : α → Bool) (i : Nat) : Bool:=match l[i]? with
 | some x => q x
 | none => true

theorem ask_at {α : Type} {l : List α} {q : α → Bool} {i : Nat} {x : α} (h : l[i]? = some x) : ask l q i = q x:=by
 unfold ask; rw [h]

theorem allU_ask {α : Type} (l : List α) (q : α → Bool) : allU (ask l q) l.length = l.all q:=by
 rw [Bool.eq_iff_iff,allU_iff,List.all_eq_true]
 constructor
 ·intro h x hx
  obtain ⟨i,hi⟩:=List.mem_iff_getElem?.1 hx
  have:=h i (List.getElem?_eq_some_iff.1 hi).1
  rwa [ask_at hi] at this
 ·intro h i hi
  rw [ask_at (List.getElem?_eq_getElem hi)]
  exact h _ (List.getElem_mem _)

def two {α : Type} (l : List α) (lt : α → α → Bool) (i : Nat) : Bool:=match i with
 | 0 => true
 | k + 1 => match l[k]?,l[k + 1]? with
  | some x,some y => lt x y
  | _,_ => true

theorem two_at {α : Type} {l : List α} {lt : α → α → Bool} {k : Nat} {x y : α} (h : l[k]? = some x) (h' : l[k + 1]? = some y) : two l lt (k + 1) = lt x y:=by
 unfold two; simp only [h,h']
theorem two_zero {α : Type} {l : List α} {lt : α → α → Bool} : two l lt 0 = true:=rfl

def adj {α : Type} (l : List α) (lt : α → α → Bool) : Bool:=allU (two l lt) l.length

def uniq {α : Type} (l : List α) (nm : α → List UInt8) (i : Nat) : Bool:=match l[i]? with
 | some x => (l.take i).all fun y => !(nm y == nm x)
 | none => true
theorem uniq_at {α : Type} {l : List α} {nm : α → List UInt8} {i : Nat} {x : α} (h : l[i]? = some x) : uniq l nm i = (l.take i).all fun y => !(nm y == nm x):=by
 unfold uniq; rw [h]
def once {α : Type} (l : List α) (nm : α → List UInt8) : Bool:=allU (uniq l nm) l.length

theorem take_all {α : Type} {l : List α} {q : α → Bool} {i : Nat} {x : α} (h : l[i]? = some x) : (l.take (i + 1)).all q = ((l.take i).all q && q x):=by
 rw [List.take_add_one,h]
 simp
theorem take_any {α : Type} {l : List α} {q : α → Bool} {i : Nat} {x : α} (h : l[i]? = some x) : (l.take (i + 1)).any q = ((l.take i).any q || q x):=by
 rw [List.take_add_one,h]
 simp
def letter (c : UInt8) : Bool:=(decide (97 ≤ c.toNat) && decide (c.toNat ≤ 122)) || (decide (65 ≤ c.toNat) && decide (c.toNat ≤ 90))
def pchar (c : UInt8) : Bool:=letter c || c.toNat == 95 || (decide (48 ≤ c.toNat) && decide (c.toNat ≤ 57))
def isPart : List UInt8 → Bool
 | [] => false
 | c :: t => decide ((c :: t).length ≤ 40) && letter c && t.all pchar
def words : List (List UInt8):=[[109,101,115,115,97,103,101],[101,110,117,109],[115,101,114,118,105,99,101],[117,110,105,111,110],[109,97,112],[108,105,115,116],[114,101,113,117,105,114,101,100],[111,112,116,105,111,110,97,108],[112,108,97,105,110],[100,101,102,97,117,108,116],[114,101,115,101,114,118,101,100],
 [105,109,112,111,114,116],[115,112,97,99,101],[114,112,99],[115,116,114,101,97,109],[114,101,116,117,114,110,115],[111,112,101,110],[116,114,117,101],[102,97,108,115,101],[110,97,110],[105,110,102]]
def isWord (s : List UInt8) : Bool:=words.any fun w => s == w
def usab (s : List UInt8) : Bool:=isPart s && !isWord s
def parts : List UInt8 → List (List UInt8)
 | [] => [[]]
 | c :: t => if c = 46 then [] :: parts t else match parts t with
  | [] => [[c]]
  | p :: ps => (c :: p) :: ps
def full (s : List UInt8) : Bool:=decide (s.length ≤ 120) && (parts s).all isPart && !(parts s).any isWord

theorem parts_ne : ∀ s : List UInt8,parts s ≠ []
 | [] => by simp [parts]
 | c :: t => by
  unfold parts
  split
  ·simp
  ·split <;> simp

theorem parts_app (a : List UInt8) : ∀ s : List UInt8,(∀ c ∈ a,c ≠ 46) → parts (a ++ s) = match parts s with
  | [] => [a]
  | p :: ps => (a ++ p) :: ps:=by
 induction a with
 | nil => intro s _; cases h : parts s with
  | nil => exact absurd h (parts_ne s)
  | cons p ps => simp [h]
 | cons c a ih =>
  intro s h
  have hc : c ≠ 46:=h c (by simp)
  rw [List.cons_append,parts,if_neg hc,ih s fun x hx => h x (by simp [hx])]
  cases hs : parts s with
  | nil => exact absurd hs (parts_ne s)
  | cons p ps => rfl

theorem parts_one {s : List UInt8} (h : ∀ c ∈ s,c ≠ 46) : parts s = [s]:=by
 have:=parts_app s [] h
 simpa [parts] using this

theorem parts_cons {a t : List UInt8} (h : ∀ c ∈ a,c ≠ 46) : parts (a ++ 46 :: t) = a :: parts t:=by
 rw [parts_app a _ h,parts,if_pos rfl]
 simp

theorem parts_snoc {a t : List UInt8} (h : ∀ c ∈ t,c ≠ 46) : parts (a ++ 46 :: t) = parts a ++ [t]:=by
 induction a with
 | nil =>
  show parts (46 :: t) = [[]] ++ [t]
  rw [show parts (46 :: t) = [] :: parts t from by rw [parts,if_pos rfl],parts_one h]
  rfl
 | cons c a ih =>
  rw [List.cons_append,parts,parts,ih]
  split
  ·rfl
  ·cases hs : parts a with
   | nil => exact absurd hs (parts_ne a)
   | cons p ps => rfl

def lim1 (g : PG) : Bool:=decide (g.ops.length ≤ 64)
def lim2 (e : PE) : Bool:=decide (1 ≤ e.items.length) && decide (e.items.length ≤ 64) && decide (e.free.length ≤ 16)
def lim (P : PL) : Bool:=decide (P.progs.length ≤ 64) && decide (P.enums.length ≤ 64) && P.progs.all lim1 && P.enums.all lim2
def nam1 (g : PG) : Bool:=full g.name && g.ops.all fun o => usab o.name
def nam2 (e : PE) : Bool:=full e.name && e.items.all fun o => usab o.name
def nam (P : PL) : Bool:=P.progs.all nam1 && P.enums.all nam2
def ordn {α : Type} (f : α → Int) (x y : α) : Bool:=decide (f x < f y)
def ords {α : Type} (f : α → List UInt8) (x y : α) : Bool:=Op.bytesLess (f x) (f y)
def ord1 (g : PG) : Bool:=adj g.ops (ordn PO.num)
def ord2 (e : PE) : Bool:=adj e.items (ordn PI.num)
def ord (P : PL) : Bool:=adj P.progs (ords PG.name) && adj P.enums (ords PE.name) && P.progs.all ord1 && P.enums.all ord2
def sin1 (P : PL) (g : PG) : Bool:=(P.enums.all fun e => !(e.name == g.name)) && once g.ops PO.name
def sin2 (e : PE) : Bool:=once e.items PI.name
def sin (P : PL) : Bool:=P.progs.all (sin1 P) && P.enums.all sin2
def rngO (o : PO) : Bool:=decide (o.num ≥ 1) && decide (o.num ≤ 65535)
def spn (x : PS) : Bool:=decide (x.lo ≥ 0) && decide (x.hi ≤ 2147483647) && decide (x.lo ≤ x.hi)
def spt (x y : PS) : Bool:=decide (y.lo > x.hi)
def kept (l : List PS) (n : Int) : Bool:=l.any fun x => decide (x.lo ≤ n) && decide (n ≤ x.hi)
def rngI (e : PE) (x : PI) : Bool:=decide (x.num ≤ 2147483647) && !kept e.free x.num
def frst (e : PE) : Bool:=match e.items with
 | [] => true
 | x :: _ => x.num == 0
def rng2 (e : PE) : Bool:=e.free.all spn && adj e.free spt && frst e && e.items.all (rngI e)
def rng (P : PL) : Bool:=P.progs.all (fun g => g.ops.all rngO) && P.enums.all rng2


def spav (x : PS) : AV:=.agg x.cells
theorem wp64 (k n : Nat) (h : k + 1 < n) (hn : n ≤ maxLen) : IntKind.i64.wrap (((k + 1 : Nat) : Int) - 1) = (k : Int):=by
 rw [wi64]; simp only [maxLen] at hn; omega

section
variable (L : List PG) (hl : L.length ≤ maxLen) (p : PG → Bool) (c : Nat) (cs : List AV) (m : Mem)

end

section
variable (L : List PO) (hl : L.length ≤ maxLen) (p : PO → Bool) (c : Nat) (cs : List AV) (m : Mem)

end

section
variable (L : List PE) (hl : L.length ≤ maxLen) (p : PE → Bool) (c : Nat) (cs : List AV) (m : Mem)

end

section
variable (L : List PI) (hl : L.length ≤ maxLen) (p : PI → Bool) (c : Nat) (cs : List AV) (m : Mem)

end

section
variable (L : List PS) (hl : L.length ≤ maxLen) (p : PS → Bool) (c : Nat) (cs : List AV) (m : Mem)

end

section
variable (L : List (List UInt8)) (hl : L.length ≤ maxLen) (p : (List UInt8) → Bool) (c : Nat) (cs : List AV) (m : Mem)

end

section
variable (L : List PG) (hl : L.length ≤ maxLen) (lt : PG → PG → Bool) (c : Nat) (cs : List AV) (m : Mem)

end

section
variable (L : List PO) (hl : L.length ≤ maxLen) (lt : PO → PO → Bool) (c : Nat) (cs : List AV) (m : Mem)

end

section
variable (L : List PE) (hl : L.length ≤ maxLen) (lt : PE → PE → Bool) (c : Nat) (cs : List AV) (m : Mem)

end

section
variable (L : List PI) (hl : L.length ≤ maxLen) (lt : PI → PI → Bool) (c : Nat) (cs : List AV) (m : Mem)

end


def cl (c : Nat) : Int:=if 97 ≤ c ∧ c ≤ 122 then 1 else if 65 ≤ c ∧ c ≤ 90 then 2 else if 48 ≤ c ∧ c ≤ 57 then 3 else if c = 95 then 4 else 0

def pq (s : List UInt8) (j : Nat) : Bool:=match s[j]? with
 | some c => if j = 0 then letter c else pchar c
 | none => true
theorem pq_at {s : List UInt8} {j : Nat} {c : UInt8} (h : s[j]? = some c) : pq s j = if j = 0 then letter c else pchar c:=by
 unfold pq; rw [h]

theorem isPart_pq (s : List UInt8) : isPart s = (decide (1 ≤ s.length) && decide (s.length ≤ 40) && allU (pq s) s.length):=by
 cases s with
 | nil => rfl
 | cons c t =>
  have h1 : decide (1 ≤ (c :: t).length) = true:=by simp
  rw [h1,Bool.true_and]
  show (decide ((c :: t).length ≤ 40) && letter c && t.all pchar) = _
  rw [Bool.and_assoc]
  congr 1
  rw [Bool.eq_iff_iff,Bool.and_eq_true,allU_iff,List.all_eq_true]
  constructor
  ·rintro ⟨h2,h3⟩ i hi
   cases i with
   | zero => rw [pq_at (c:=c) rfl,if_pos rfl]; exact h2
   | succ i =>
    have hlt : i < t.length:=by simpa using hi
    rw [pq_at (c:=t[i]) (by simp [List.getElem?_eq_getElem hlt]),if_neg (by omega)]
    exact h3 _ (List.getElem_mem _)
  ·intro h
   refine ⟨?_,fun x hx => ?_⟩
   ·have:=h 0 (by simp)
    rwa [pq_at (c:=c) rfl,if_pos rfl] at this
   ·obtain ⟨i,hi⟩:=List.mem_iff_getElem?.1 hx
    have hlt:=(List.getElem?_eq_some_iff.1 hi).1
    have:=h (i + 1) (by simpa using hlt)
    rwa [pq_at (c:=x) (by simpa using hi),if_neg (by omega)] at this



def sml (c : UInt8) : Bool:=decide (97 ≤ c.toNat) && decide (c.toNat ≤ 122)
def cpt (c : UInt8) : Bool:=decide (65 ≤ c.toNat) && decide (c.toNat ≤ 90)

theorem z157 (c : UInt8) : Fn1 Tryz.prog 157 [.int .u8 (c.toNat : Nat)] (.bool (sml c)):=by
 refine k157.fn (by simp) ?_
 have e1 : decide ((c.toNat : Int) ≥ 97) = decide (97 ≤ c.toNat):=by rw [decide_eq_decide]; omega
 have e2 : decide ((c.toNat : Int) ≤ 122) = decide (c.toNat ≤ 122):=by rw [decide_eq_decide]; omega
 simp only [e1,sml,eES,seval]
 cases h : decide (97 ≤ c.toNat) <;> simp only [e2,Bool.true_and,Bool.false_and,eES,seval]

theorem z158 (c : UInt8) : Fn1 Tryz.prog 158 [.int .u8 (c.toNat : Nat)] (.bool (cpt c)):=by
 refine k158.fn (by simp) ?_
 have e1 : decide ((c.toNat : Int) ≥ 65) = decide (65 ≤ c.toNat):=by rw [decide_eq_decide]; omega
 have e2 : decide ((c.toNat : Int) ≤ 90) = decide (c.toNat ≤ 90):=by rw [decide_eq_decide]; omega
 simp only [e1,cpt,eES,seval]
 cases h : decide (65 ≤ c.toNat) <;> simp only [e2,Bool.true_and,Bool.false_and,eES,seval]

theorem pchar_eq (c : UInt8) : pchar c = (sml c || cpt c || !((c.toNat : Int) != 95) || !(decide ((c.toNat : Int) < 48) || decide ((c.toNat : Int) > 57))):=by
 unfold pchar letter sml cpt
 generalize c.toNat = x
 rw [Bool.eq_iff_iff]
 simp only [Bool.or_eq_true,Bool.and_eq_true,decide_eq_true_eq,beq_iff_eq,Bool.not_eq_true',bne_eq_false_iff_eq,Bool.or_eq_false_iff,decide_eq_false_iff_not]
 omega

def PrI (s : List UInt8) (k : Nat) (st : St) : Prop :=
 ∃ f i,st = ⟨f,[noObs],[]⟩ ∧ k = s.length - i ∧ 1 ≤ i ∧ allU (pq s) i = true ∧ f 0 = .str s ∧ f 3 = .int .i64 (i : Nat)

theorem z115 (s : List UInt8) : Fn1 Tryz.prog 115 [.str s] (.bool (isPart s)):=by
 refine k115.fn (by simp) ?_
 simp only [eES,seval]
 by_cases hl : s.length = 0
 ·have d0 : ((s.length : Int) == 0) = true:=by rw [hl]; rfl
  have e : isPart s = false:=by rw [isPart_pq,hl]; rfl
  simp only [d0,e,eES,seval]
 have d0 : ((s.length : Int) == 0) = false:=by rw [beq_eq_false_iff_ne]; omega
 by_cases hm : s.length ≤ 40
 case neg =>
  have d1 : decide ((s.length : Int) > 40) = true:=decide_eq_true (by omega)
  have e : isPart s = false:=by rw [isPart_pq,decide_eq_false hm,Bool.and_false,Bool.false_and]
  simp only [d0,d1,e,eES,seval]
 have d1 : decide ((s.length : Int) > 40) = false:=decide_eq_false (by omega)
 have hp : isPart s = allU (pq s) s.length:=by rw [isPart_pq,decide_eq_true hm,decide_eq_true (by omega : 1 ≤ s.length)]; rfl
 obtain ⟨c,hc⟩ : ∃ c,s[0]? = some c:=⟨s[0]'(by omega),List.getElem?_eq_getElem (by omega)⟩
 have hq0 : allU (pq s) 1 = (sml c || cpt c):=by
  show (true && pq s 0) = _
  rw [pq_at hc,if_pos rfl]; rfl
 have h1:=z157 c
 have h2:=z158 c
 have hn : allU (pq s) 1 = false → isPart s = false:=fun h => by
  rw [hp,Bool.eq_false_iff]
  intro h'
  rw [allU_iff.2 fun k hk => allU_iff.1 h' k (by omega)] at h
  cases h
 have z1 : Int.toNat 0 = 0:=rfl
 have go : allU (pq s) 1 = true → ∀ (f : Fr),f 0 = .str s → f 3 = .int .i64 1 → ∀ Q : Exit → St → Prop,(∀ f,allU (pq s) s.length = true → Q (.exit 0) ⟨f,[noObs],[]⟩) → (∀ f,f 2 = .bool false → allU (pq s) s.length = false → Q .ret ⟨f,[noObs],[]⟩) → awp Tryz.prog (.loop l115_0) ⟨f,[noObs],[]⟩ Q:=by
  intro hq1 f h0 h3 Q hx hr
  refine awp_loop (PrI s) _ ⟨_,1,rfl,rfl,Nat.le_refl _,hq1,h0,h3⟩ ?_
  clear h0 h3 hc hq0 h1 h2 hn
  rintro _ st ⟨f,i,rfl,rfl,h1i,hx1,h0,h3⟩
  simp only [h0,h3,eES,seval]
  by_cases hlt : i < s.length
  ·obtain ⟨c,hc⟩ : ∃ c,s[i]? = some c:=⟨s[i],List.getElem?_eq_getElem hlt⟩
   have e1:=wi64_s i _ hlt (by simp only [maxLen]; omega)
   have hs1:=z157 c
   have hs2:=z158 c
   have hstep : allU (pq s) (i + 1) = pchar c:=by
    rw [allU,hx1,Bool.true_and,pq_at hc,if_neg (by omega)]
   have hend : pchar c = false → allU (pq s) s.length = false:=fun h => by
    rw [Bool.eq_false_iff]
    intro h'
    rw [allU_iff.2 fun k hk => allU_iff.1 h' k (by omega)] at hstep
    rw [h] at hstep; cases hstep
   have fin : ∀ f' : Fr,pchar c = true → f' 0 = .str s → f' 3 = .int .i64 ((i + 1 : Nat) : Int) → ∃ k,k < s.length - i ∧ PrI s k ⟨f',[noObs],[]⟩:=by
    intro f' hp h0 h3
    exact ⟨s.length - (i + 1),by omega,f',i + 1,rfl,rfl,by omega,by rw [hstep,hp],h0,h3⟩
   have hpc:=pchar_eq c
   simp only [lt_t hlt,nneg,Int.toNat_natCast,hc,h0,h3,eES,seval]
   refine aops_call hs1 rfl rfl rfl (.inl rfl) ?_
   cases a1 : sml c
   ·simp only [nneg,Int.toNat_natCast,hc,h0,h3,Bool.not_false,eES,seval]
    refine aops_call hs2 rfl rfl rfl (.inl rfl) ?_
    cases a2 : cpt c
    ·cases a3 : ((c.toNat : Int) != 95)
     ·rw [a1,a2,a3] at hpc
      simp only [a3,nneg,Int.toNat_natCast,hc,h0,h3,e1,Bool.not_false,eES,seval]
      exact fin _ (by rw [hpc]; rfl) (by exact h0) (by rfl)
     ·cases a4 : decide ((c.toNat : Int) < 48)
      ·cases a5 : decide ((c.toNat : Int) > 57)
       ·rw [a1,a2,a3,a4,a5] at hpc
        simp only [a3,a4,a5,nneg,Int.toNat_natCast,hc,h0,h3,e1,Bool.not_false,eES,seval]
        exact fin _ (by rw [hpc]; rfl) (by exact h0) (by rfl)
       ·rw [a1,a2,a3,a4,a5] at hpc
        simp only [a3,a4,a5,nneg,Int.toNat_natCast,hc,h0,h3,Bool.not_false,eES,seval]
        exact hr _ (by rfl) (hend (by rw [hpc]; rfl))
      ·rw [a1,a2,a3,a4] at hpc
       simp only [a3,a4,nneg,Int.toNat_natCast,hc,h0,h3,Bool.not_false,eES,seval]
       exact hr _ (by rfl) (hend (by rw [hpc]; rfl))
    ·rw [a1,a2] at hpc
     simp only [h3,e1,Bool.not_true,eES,seval]
     exact fin _ (by rw [hpc]; rfl) (by exact h0) (by rfl)
   ·rw [a1] at hpc
    simp only [h3,e1,Bool.not_true,eES,seval]
    exact fin _ (by rw [hpc]; rfl) (by exact h0) (by rfl)
  ·simp only [lt_f hlt,eES,seval]
   exact hx _ (allU_iff.2 fun k hk => allU_iff.1 hx1 k (by omega))
 simp only [d0,d1,z1,hc,eES,seval]
 refine aops_call h1 rfl rfl rfl (.inl rfl) ?_
 cases a1 : sml c
 ·simp only [z1,hc,Bool.not_false,eES,seval]
  refine aops_call h2 rfl rfl rfl (.inl rfl) ?_
  cases a2 : cpt c
  ·rw [a1,a2] at hq0
   simp only [hn hq0,Bool.not_false,eES,seval]
  ·rw [a1,a2] at hq0
   simp only [Bool.not_true,eES,seval]
   refine go hq0 _ (by rfl) (by rfl) _ (fun f h => ?_) (fun f h2 h => ?_)
   ·simp only [hp,h,eES,seval]
   ·simp only [hp,h,h2,eES,seval]
 ·rw [a1,Bool.true_or] at hq0
  simp only [Bool.not_true,eES,seval]
  refine go hq0 _ (by rfl) (by rfl) _ (fun f h => ?_) (fun f h2 h => ?_)
  ·simp only [hp,h,eES,seval]
  ·simp only [hp,h,h2,eES,seval]

theorem z114 (s : List UInt8) : Fn1 Tryz.prog 114 [.str s] (.bool (isWord s)):=by
 refine k114.fn (by simp) ?_
 simp only [astr,eES,seval]
 have e : isWord s = words.any fun w => s == w:=rfl
 simp only [words,List.any_cons,List.any_nil,Bool.or_false] at e
 repeat' (first | (refine csel_of (fun h => ?_) (fun h => ?_) <;> simp only [h,astr,eES,seval]) | (refine gsel_t (fun h => ?_) (fun h => ?_) <;> simp only [h,updO,astr,eES,eEX,seval]) | (refine gsel_f (fun h => ?_) (fun h => ?_) <;> simp only [h,updO,astr,eES,eEX,seval]))
 all_goals (simp only [*,Bool.true_or,Bool.or_true,Bool.or_false] at e; simp only [e])

theorem z71 (s : List UInt8) : Fn1 Tryz.prog 71 [.str s] (.bool (usab s)):=by
 refine k71.fn (by simp) ?_
 simp only [usab,eES,seval]
 refine aops_call (z115 s) rfl rfl rfl (.inl rfl) ?_
 cases isPart s
 ·simp only [Bool.false_and,eES,seval]
 ·simp only [Bool.true_and,eES,seval]
  refine aops_call (z114 s) rfl rfl rfl (.inl rfl) ?_
  simp only [eES,seval]

def FuI (s : List UInt8) (k : Nat) (st : St) : Prop :=
 ∃ f i p,st = ⟨f,[noObs],[]⟩ ∧ k = s.length - i ∧ i ≤ s.length ∧ p.length ≤ i ∧ (∀ c ∈ p,c ≠ (46 : UInt8)) ∧ (parts s).all isPart = (parts (p ++ s.drop i)).all isPart ∧ f 0 = .str s ∧ f 3 = .str p ∧ f 4 = .int .i64 (i : Nat)

theorem z112 (s : List UInt8) : Fn1 Tryz.prog 112 [.str s] (.bool (decide (s.length ≤ 120) && (parts s).all isPart)):=by
 refine k112.fn (by simp) ?_
 simp only [eES,seval]
 by_cases hm : s.length ≤ 120
 case neg =>
  have d1 : decide ((s.length : Int) > 120) = true:=decide_eq_true (by omega)
  simp only [d1,decide_eq_false hm,Bool.false_and,eES,seval]
 have d1 : decide ((s.length : Int) > 120) = false:=decide_eq_false (by omega)
 simp only [d1,decide_eq_true hm,Bool.true_and,eES,seval]
 refine awp_loop (FuI s) _ ⟨_,0,[],rfl,rfl,Nat.zero_le _,Nat.le_refl _,by simp,rfl,(by rfl),(by rfl),(by rfl)⟩ ?_
 rintro _ st ⟨f,i,p,rfl,rfl,hi,hpl,hpd,hx,h0,h3,h4⟩
 simp only [h0,h4,eES,seval]
 by_cases hlt : i < s.length
 ·obtain ⟨c,hc⟩ : ∃ c,s[i]? = some c:=⟨s[i],List.getElem?_eq_getElem hlt⟩
  have e1:=wi64_s i _ hlt (by simp only [maxLen]; omega)
  have hd : s.drop i = c :: s.drop (i + 1):=by
   rw [List.drop_eq_getElem_cons hlt]
   congr 1
   exact (List.getElem?_eq_some_iff.1 hc).2
  have hts : (s.drop i).take (i + 1 - i) = [c]:=by
   rw [hd,show i + 1 - i = 1 by omega]; rfl
  simp only [lt_t hlt,nneg,Int.toNat_natCast,hc,h0,h4,eES,seval]
  by_cases hdot : c = 46
  ·subst hdot
   have b0 : ((((46 : UInt8).toNat : Nat) : Int) != 46) = false:=rfl
   have hs : (parts s).all isPart = (isPart p && (parts (s.drop (i + 1))).all isPart):=by
    rw [hx,hd,parts_cons hpd]; rfl
   simp only [h3,eES,seval]
   refine aops_call (z115 p) rfl rfl rfl (.inl rfl) ?_
   cases hp : isPart p
   ·rw [hp,Bool.false_and] at hs
    simp only [hs,Bool.not_false,eES,seval]
   ·rw [hp,Bool.true_and] at hs
    simp only [h4,e1,Bool.not_true,eES,seval]
    exact ⟨s.length - (i + 1),by omega,_,i + 1,[],rfl,rfl,by omega,Nat.zero_le _,by simp,by rw [hs]; rfl,(by exact h0),(by rfl),(by rfl)⟩
  ·have b0 : (((c.toNat : Nat) : Int) != 46) = true:=by
    rw [bne_iff_ne]
    intro h
    apply hdot
    rw [← UInt8.toNat_inj]
    have : c.toNat = 46:=by omega
    rw [this]; rfl
   have hle : (i ≤ i + 1 ∧ i + 1 ≤ s.length) = True:=eq_true ⟨by omega,by omega⟩
   have hsum : (p.length ≤ 9223372036854775806) = True:=eq_true (by omega)
   simp only [b0,h0,h3,h4,e1,bnd,lenA,aslice,nneg,Int.toNat_natCast,hle,hts,astr,hsum,eES,seval]
   exact ⟨s.length - (i + 1),by omega,_,i + 1,p ++ [c],rfl,rfl,by omega,by simp; omega,fun x hx => by
    rcases List.mem_append.1 hx with h | h
    ·exact hpd x h
    ·simp at h; subst h; exact hdot,by rw [hx,hd]; simp,(by exact h0),(by rfl),(by rfl)⟩
 ·have hx' : (parts s).all isPart = isPart p:=by
   rw [hx,List.drop_of_length_le (by omega),List.append_nil,parts_one hpd]
   simp
  simp only [lt_f hlt,h3,hx',eES,seval]
  refine aops_call (z115 p) rfl rfl rfl (.inl rfl) ?_
  simp only [eES,seval]

def ldot (s : List UInt8) : Nat → Option Nat
 | 0 => none
 | j + 1 => if s[j]? = some 46 then some j else ldot s j

theorem ldot_spec (s : List UInt8) : ∀ n,match ldot s n with
  | none => ∀ k,k < n → s[k]? ≠ some 46
  | some j => j < n ∧ s[j]? = some 46 ∧ ∀ k,j < k → k < n → s[k]? ≠ some 46
 | 0 => by simp [ldot]
 | n + 1 => by
  unfold ldot
  split
  ·rename_i h
   split at h
   ·cases h
   ·rename_i h'
    have:=ldot_spec s n
    rw [h] at this
    intro k hk
    rcases Nat.lt_succ_iff_lt_or_eq.1 hk with h1 | rfl
    ·exact this k h1
    ·exact h'
  ·rename_i j h
   split at h
   ·rename_i h'
    cases h
    exact ⟨by omega,h',fun k h1 h2 => by omega⟩
   ·rename_i h'
    have:=ldot_spec s n
    rw [h] at this
    exact ⟨by omega,this.2.1,fun k h1 h2 => by
     rcases Nat.lt_succ_iff_lt_or_eq.1 h2 with h3 | rfl
     ·exact this.2.2 k h1 h3
     ·exact h'⟩

def spl (s : List UInt8) : List UInt8 × List UInt8:=match ldot s s.length with
 | none => ([],s)
 | some j => (s.take j,s.drop (j + 1))

theorem spl_spec (s : List UInt8) : ((spl s).1 = [] ∧ (spl s).2 = s ∧ ∀ c ∈ s,c ≠ 46) ∨ (s = (spl s).1 ++ 46 :: (spl s).2 ∧ ∀ c ∈ (spl s).2,c ≠ 46):=by
 have h:=ldot_spec s s.length
 unfold spl
 cases hl : ldot s s.length with
 | none =>
  rw [hl] at h
  refine .inl ⟨rfl,rfl,fun c hc e => ?_⟩
  subst e
  obtain ⟨k,hk⟩:=List.mem_iff_getElem?.1 hc
  exact h k (List.getElem?_eq_some_iff.1 hk).1 hk
 | some j =>
  rw [hl] at h
  obtain ⟨h1,h2,h3⟩:=h
  refine .inr ⟨?_,fun c hc e => ?_⟩
  ·have : s[j] = 46:=(List.getElem?_eq_some_iff.1 h2).2
   show s = s.take j ++ 46 :: s.drop (j + 1)
   rw [← this,← List.drop_eq_getElem_cons h1,List.take_append_drop]
  ·subst e
   obtain ⟨k,hk⟩:=List.mem_iff_getElem?.1 hc
   rw [List.getElem?_drop] at hk
   exact h3 (j + 1 + k) (by omega) (List.getElem?_eq_some_iff.1 hk).1 hk

def SdI (s : List UInt8) (k : Nat) (st : St) : Prop :=
 ∃ f,st = ⟨f,[noObs],[]⟩ ∧ k ≤ s.length ∧ ldot s s.length = ldot s k ∧ f 0 = .str s ∧ f 4 = .int .i64 ((k : Int) - 1)

theorem z113 (s : List UInt8) (hs : s.length ≤ 120) : Fn1 Tryz.prog 113 [.str s] (.tup [.str (spl s).1,.str (spl s).2]):=by
 refine k113.fn (by simp) ?_
 have w0 : IntKind.i64.wrap ((s.length : Int) - 1) = (s.length : Int) - 1:=by rw [wi64]; omega
 simp only [w0,eES,seval]
 refine awp_loop (SdI s) _ ⟨_,rfl,Nat.le_refl _,rfl,(by rfl),(by rfl)⟩ ?_
 rintro k st ⟨f,rfl,hk,hx,h0,h4⟩
 simp only [h4,eES,seval]
 cases k with
 | zero =>
  have d0 : decide (((0 : Nat) : Int) - 1 ≥ 0) = false:=rfl
  have e : spl s = ([],s):=by unfold spl; rw [hx]; rfl
  simp only [e,h0,eES,seval]
 | succ j =>
  have j1 : ((j + 1 : Nat) : Int) - 1 = (j : Int):=by omega
  have d0 : decide (((j : Nat) : Int) ≥ 0) = true:=decide_eq_true (by omega)
  have w1 : IntKind.i64.wrap ((j : Int) - 1) = (j : Int) - 1:=by rw [wi64]; omega
  have w2 : IntKind.i64.wrap ((j : Int) + 1) = ((j + 1 : Nat) : Int):=by rw [wi64]; omega
  obtain ⟨c,hc⟩ : ∃ c,s[j]? = some c:=⟨s[j]'(by omega),List.getElem?_eq_getElem (by omega)⟩
  simp only [j1,nneg,Int.toNat_natCast,hc,h0,h4,eES,seval]
  by_cases hdot : c = 46
  ·subst hdot
   have b0 : ((((46 : UInt8).toNat : Nat) : Int) == 46) = true:=rfl
   have e : spl s = (s.take j,s.drop (j + 1)):=by
    unfold spl
    rw [hx]
    show (match (if s[j]? = some 46 then some j else ldot s j) with | none => ([],s) | some j => (s.take j,s.drop (j + 1))) = _
    rw [if_pos hc]
   have hle : (0 ≤ j ∧ j ≤ s.length) = True:=eq_true ⟨by omega,by omega⟩
   have hle2 : (j + 1 ≤ s.length ∧ s.length ≤ s.length) = True:=eq_true ⟨by omega,Nat.le_refl _⟩
   have ht : ((s.drop 0).take j) = s.take j:=by simp
   have ht2 : ((s.drop (j + 1)).take (s.length - (j + 1))) = s.drop (j + 1):=List.take_of_length_le (by simp)
   simp only [w2,j1,e,bnd,lenA,aslice,Nat.sub_zero,nneg,Int.toNat_natCast,hle,hle2,ht2,h0,h4,eES,seval]
  ·have b0 : (((c.toNat : Nat) : Int) == 46) = false:=by
    rw [beq_eq_false_iff_ne]
    intro h
    apply hdot
    rw [← UInt8.toNat_inj]
    have : c.toNat = 46:=by omega
    rw [this]; rfl
   have hne : ¬ s[j]? = some 46:=fun h => by rw [hc] at h; cases h; exact hdot rfl
   simp only [b0,j1,w1,h4,eES,seval]
   exact ⟨j,by omega,_,rfl,by omega,by rw [hx]; show (if s[j]? = some 46 then some j else ldot s j) = _; rw [if_neg hne],(by exact h0),(by rfl)⟩

def wrd (u : List UInt8) : Bool:=if u = [] then false else (parts u).any isWord

def DfI (s : List UInt8) (k : Nat) (st : St) : Prop :=
 ∃ f u,st = ⟨f,[noObs],[]⟩ ∧ k = u.length ∧ u.length ≤ 120 ∧ (u ≠ [] → (parts u).all isPart = true) ∧ (parts s).any isWord = wrd u ∧ f 0 = .str u

theorem z70 (s : List UInt8) : Fn1 Tryz.prog 70 [.str s] (.bool (full s)):=by
 refine k70.fn (by simp) ?_
 simp only [full,eES,seval]
 refine aops_call (z112 s) rfl rfl rfl (.inl rfl) ?_
 cases hf : (decide (s.length ≤ 120) && (parts s).all isPart)
 ·simp only [Bool.false_and,Bool.not_false,eES,seval]
 simp only [Bool.true_and,Bool.not_true,eES,seval]
 obtain ⟨hl,ha⟩:=Bool.and_eq_true_iff.1 hf
 have hl:=of_decide_eq_true hl
 have hne : s ≠ []:=by
  rintro rfl
  cases ha
 refine awp_loop (DfI s) _ ⟨_,s,rfl,rfl,hl,fun _ => ha,by unfold wrd; rw [if_neg hne],(by rfl)⟩ ?_
 rintro _ st ⟨f,u,rfl,rfl,hul,hua,hx,h0⟩
 simp only [h0,astr,eES,seval]
 by_cases hu : u = []
 ·subst hu
  have b0 : (!(([] : List UInt8) == [])) = false:=rfl
  have e : (parts s).any isWord = false:=hx
  simp only [b0,e,Bool.not_false,eES,seval]
 ·have b0 : (!(u == [])) = true:=by simp [hu]
  simp only [b0,h0,eES,seval]
  refine aops_call (z113 u hul) rfl rfl rfl (.inl rfl) ?_
  simp only [eES,seval]
  refine aops_call (z114 (spl u).2) rfl rfl rfl (.inl rfl) ?_
  have hw : wrd u = (wrd (spl u).1 || isWord (spl u).2):=by
   unfold wrd
   rw [if_neg hu]
   rcases spl_spec u with ⟨h1,h2,h3⟩ | ⟨h1,h2⟩
   ·rw [h1,h2,if_pos rfl,parts_one h3]; simp
   ·have hp : parts u = parts (spl u).1 ++ [(spl u).2]:=by
     conv => lhs; rw [h1]
     exact parts_snoc h2
    have ha':=hua hu
    rw [hp,List.all_append,Bool.and_eq_true] at ha'
    have hn : (spl u).1 ≠ []:=by
     intro h
     rw [h] at ha'
     cases ha'.1
    rw [if_neg hn,hp]
    simp
  cases hq : isWord (spl u).2
  ·rw [hq,Bool.or_false] at hw
   simp only [eES,seval]
   have hlen : (spl u).1.length < u.length ∧ ((spl u).1 ≠ [] → (parts (spl u).1).all isPart = true):=by
    rcases spl_spec u with ⟨h1,h2,h3⟩ | ⟨h1,h2⟩
    ·rw [h1]
     exact ⟨List.length_pos_iff.2 hu,fun h => absurd rfl h⟩
    ·have hp : parts u = parts (spl u).1 ++ [(spl u).2]:=by
      conv => lhs; rw [h1]
      exact parts_snoc h2
     have ha':=hua hu
     rw [hp,List.all_append,Bool.and_eq_true] at ha'
     refine ⟨?_,fun _ => ha'.1⟩
     have:=congrArg List.length h1
     simp at this
     omega
   exact ⟨(spl u).1.length,hlen.1,_,(spl u).1,rfl,rfl,by omega,hlen.2,by rw [hx,hw],(by rfl)⟩
  ·rw [hq,Bool.or_true] at hw
   have e : (parts s).any isWord = true:=hx.trans hw
   simp only [e,Bool.not_true,eES,seval]


section
variable (m : Mem)

end

section
variable {M : Nat} (P : PL) (hP : P.ok M) (hM : M ≤ 17592186044000)
include hP hM

end


section
variable (L : List PO) (hl : L.length ≤ maxLen) (nm : PO → List UInt8) (c : Nat) (m : Mem)

end

section
variable (L : List PI) (hl : L.length ≤ maxLen) (nm : PI → List UInt8) (c : Nat) (m : Mem)

end

section
variable {M : Nat} (P : PL) (hP : P.ok M)
include hP

end

def spq (l : List PS) (i : Nat) : Bool:=ask l spn i && two l spt i
theorem spq_all (l : List PS) : allU (spq l) l.length = (l.all spn && adj l spt):=by
 unfold spq adj
 rw [allU_and,allU_ask]

end Go.Proofs.YtgannjophilbiaaGreatDoor.Va

namespace Go.Proofs.YtgannjophilbiaaGreatDoor.Va
open Go Am Rc Bt

def bt (s : List UInt8) (i lo hi : Nat) : Bool :=
 match s[i]? with
 | some b => decide (lo ≤ b.toNat) && decide (b.toNat ≤ hi)
 | none => false
def tl (s : List UInt8) : Nat → Nat → Bool
 | _,0 => true
 | i,n + 1 => bt s i 128 191 && tl s (i + 1) n
def szb (s : List UInt8) (i b : Nat) : Nat :=
 if b < 128 then 1
 else if 194 ≤ b ∧ b ≤ 223 ∧ tl s (i + 1) 1 = true then 2
 else if b = 224 ∧ bt s (i + 1) 160 191 = true ∧ tl s (i + 2) 1 = true then 3
 else if b = 237 ∧ bt s (i + 1) 128 159 = true ∧ tl s (i + 2) 1 = true then 3
 else if 225 ≤ b ∧ b ≤ 239 ∧ b ≠ 237 ∧ tl s (i + 1) 2 = true then 3
 else if b = 240 ∧ bt s (i + 1) 144 191 = true ∧ tl s (i + 2) 2 = true then 4
 else if 241 ≤ b ∧ b ≤ 243 ∧ tl s (i + 1) 3 = true then 4
 else if b = 244 ∧ bt s (i + 1) 128 143 = true ∧ tl s (i + 2) 2 = true then 4
 else 0
def sz (s : List UInt8) (i : Nat) : Nat :=
 match s[i]? with
 | none => 0
 | some c => szb s i c.toNat
def bad (s : List UInt8) : Nat → Nat → Int
 | 0,_ => -1
 | k + 1,i => if i < s.length then (if sz s i = 0 then (i : Int) else bad s k (i + sz s i)) else -1
def vld (s : List UInt8) : Bool:=decide (bad s s.length 0 < 0)

theorem geu8 (c : UInt8) (n : Nat) : decide ((c.toNat : Int) ≥ (n : Int)) = decide (n ≤ c.toNat):=by simp
theorem leu8 (c : UInt8) (n : Nat) : decide ((c.toNat : Int) ≤ (n : Int)) = decide (c.toNat ≤ n):=by simp

theorem c216 (s : List UInt8) (i lo hi : Nat) : Fn1 Tryz.prog 216 [.str s,.int .i64 (i : Nat),.int .u8 (lo : Nat),.int .u8 (hi : Nat)] (.bool (bt s i lo hi)):=by
 refine k216.fn (by simp) ?_
 by_cases hlt : i < s.length
 ·obtain ⟨c,hc⟩ : ∃ c,s[i]? = some c:=⟨s[i],List.getElem?_eq_getElem hlt⟩
  have hb : bt s i lo hi = (decide (lo ≤ c.toNat) && decide (c.toNat ≤ hi)):=by simp only [bt,hc]
  simp only [lt_t hlt,nneg,Int.toNat_natCast,hc,geu8,eES,seval]
  by_cases h1 : lo ≤ c.toNat
  ·have d1 : decide (lo ≤ c.toNat) = true:=by simpa using h1
   simp only [d1,nneg,Int.toNat_natCast,hc,hb,leu8,Bool.true_and,eES,seval]
  ·have d1 : decide (lo ≤ c.toNat) = false:=by simpa using h1
   simp only [d1,hb,Bool.false_and,eES,seval]
 ·have hb : bt s i lo hi = false:=by simp only [bt,List.getElem?_eq_none (Nat.le_of_not_lt hlt)]
  simp only [lt_f hlt,hb,eES,seval]

def TailI (s : List UInt8) (i n : Nat) (k : Nat) (st : St) : Prop :=
 ∃ f j,st = ⟨f,[noObs],[]⟩ ∧ k = n - j ∧ j ≤ n ∧ tl s i n = tl s (i + j) (n - j) ∧ f 0 = .str s ∧ f 1 = .int .i64 (i : Nat) ∧ f 2 = .int .i64 (n : Nat) ∧ f 7 = .int .i64 (j : Nat)

theorem wadd (a b : Nat) (h : a + b ≤ maxLen) : IntKind.i64.wrap ((a : Int) + (b : Int)) = ((a + b : Nat) : Int):=by
 simp only [maxLen] at h
 rw [wi64]; omega

theorem c215 (s : List UInt8) (i n : Nat) (hi : i + n ≤ maxLen) : Fn1 Tryz.prog 215 [.str s,.int .i64 (i : Nat),.int .i64 (n : Nat)] (.bool (tl s i n)):=by
 refine k215.fn (by simp) ?_
 simp only [eES,seval]
 refine awp_loop (TailI s i n) _ ⟨_,0,rfl,rfl,Nat.zero_le _,rfl,rfl,rfl,rfl,rfl⟩ ?_
 rintro _ st ⟨f,j,rfl,rfl,hj,ht,h0,h1,h2,h7⟩
 simp only [h2,h7,eES,seval]
 by_cases hlt : j < n
 ·have e0:=wadd i j (by omega)
  have e1:=wi64_s j _ hlt (by omega)
  simp only [lt_t hlt,h0,h1,h7,e0,eES,seval]
  refine aops_call (c216 s (i + j) 128 191) rfl rfl rfl (.inl rfl) ?_
  have hs : tl s i n = (bt s (i + j) 128 191 && tl s (i + (j + 1)) (n - (j + 1))):=by
   rw [ht]
   obtain ⟨m,hm⟩ : ∃ m,n - j = m + 1:=⟨n - j - 1,by omega⟩
   rw [hm,show n - (j + 1) = m by omega]
   rfl
  cases hb : bt s (i + j) 128 191
  ·rw [hb] at hs
   simp only [hs,Bool.false_and,eES,seval]
  ·rw [hb,Bool.true_and] at hs
   simp only [h7,e1,eES,seval]
   exact ⟨n - (j + 1),by omega,_,j + 1,rfl,rfl,by omega,hs,(by exact h0),(by exact h1),(by exact h2),(by rfl)⟩
 ·have hs : tl s i n = true:=by
   rw [ht,show n - j = 0 by omega]
   rfl
  simp only [lt_f hlt,hs,eES,seval]

def Stg (s : List UInt8) (i : Nat) (c : UInt8) (D : Nat) (cond : Prop) (g : List Am.Item) : Prop :=
 ∀ Q : St → Prop,(∀ f' B,(B = true ↔ cond) → f' 0 = .str s → f' 1 = .int .i64 (i : Nat) → f' 5 = .int .u8 (c.toNat : Nat) → f' D = .bool B → Q ⟨f',[noObs],[]⟩) →
  ∀ f,f 0 = .str s → f 1 = .int .i64 (i : Nat) → f 5 = .int .u8 (c.toNat : Nat) → aops Tryz.prog g ⟨f,[noObs],[]⟩ Q

section
variable {s : List UInt8} {i : Nat} {c : UInt8} (hi : i < s.length) (hs : s.length + 8 ≤ maxLen)
include hi hs

theorem stg4 : Stg s i c 12 (194 ≤ c.toNat ∧ c.toNat ≤ 223 ∧ tl s (i + 1) 1 = true) g190_4:=by
 intro Q hQ f h0 h1 h5
 have e1 : IntKind.i64.wrap ((i : Int) + 1) = ((i + 1 : Nat) : Int):=wadd i 1 (by omega)
 have e2 : IntKind.i64.wrap ((i : Int) + 2) = ((i + 2 : Nat) : Int):=wadd i 2 (by omega)
 simp only [g190_4,h5,eES,seval]
 repeat' (first | (refine csel_of (fun h => ?_) (fun h => ?_) <;> simp only [h,h0,h1,h5,e1,e2,eES,eEX,seval]) | (refine gsel_t (fun h => ?_) (fun h => ?_) <;> simp only [h,updO,h0,h1,h5,e1,eES,seval]) | (refine gsel_f (fun h => ?_) (fun h => ?_) <;> simp only [h,updO,h0,h1,h5,e1,e2,eES,eEX,seval]) | ((with_reducible apply aops_call (k:=215)); (case hy => rfl); (case h1 => rfl); (case hk => exact c215 s (i + 1) 1 (by omega)); (case h2 => rfl); (case h3 => first | exact .inl rfl | exact .inr rfl); simp only [eES,seval]))
 all_goals (refine hQ _ _ ?_ (by exact h0) (by exact h1) (by exact h5) rfl)
 all_goals simp only [decide_eq_true_eq,decide_eq_false_iff_not] at *
 all_goals
  constructor
  ·intro hh
   first
    | cases hh
    | (refine ⟨by omega,?_⟩; first | exact hh | (refine ⟨by omega,?_⟩; first | exact hh | (refine ⟨by omega,?_⟩; exact hh)) | exact ⟨by assumption,hh⟩)
  ·intro hh
   first
    | exact hh.2.2.2
    | exact hh.2.2
    | (exfalso; omega)
    | (exfalso; simp_all; done)

theorem stg6 : Stg s i c 25 (c.toNat = 224 ∧ bt s (i + 1) 160 191 = true ∧ tl s (i + 2) 1 = true) g190_6:=by
 intro Q hQ f h0 h1 h5
 have e1 : IntKind.i64.wrap ((i : Int) + 1) = ((i + 1 : Nat) : Int):=wadd i 1 (by omega)
 have e2 : IntKind.i64.wrap ((i : Int) + 2) = ((i + 2 : Nat) : Int):=wadd i 2 (by omega)
 simp only [g190_6,h5,eES,seval]
 repeat' (first | (refine csel_of (fun h => ?_) (fun h => ?_) <;> simp only [h,h0,h1,h5,e1,e2,eES,eEX,seval]) | (refine gsel_t (fun h => ?_) (fun h => ?_) <;> simp only [h,updO,h0,h1,e1,e2,eES,seval]) | (refine gsel_f (fun h => ?_) (fun h => ?_) <;> simp only [h,updO,h0,h1,h5,e1,e2,eES,eEX,seval]) | ((with_reducible apply aops_call (k:=216)); (case hy => rfl); (case h1 => rfl); (case hk => exact c216 s (i + 1) 160 191); (case h2 => rfl); (case h3 => first | exact .inl rfl | exact .inr rfl); simp only [eES,seval]) | ((with_reducible apply aops_call (k:=215)); (case hy => rfl); (case h1 => rfl); (case hk => exact c215 s (i + 2) 1 (by omega)); (case h2 => rfl); (case h3 => first | exact .inl rfl | exact .inr rfl); simp only [eES,seval]))
 all_goals (refine hQ _ _ ?_ (by exact h0) (by exact h1) (by exact h5) rfl)
 all_goals simp only [beq_iff_eq,beq_eq_false_iff_ne,ne_eq] at *
 all_goals
  constructor
  ·intro hh
   first
    | cases hh
    | (refine ⟨by omega,?_⟩; first | exact hh | (refine ⟨by omega,?_⟩; first | exact hh | (refine ⟨by omega,?_⟩; exact hh)) | exact ⟨by assumption,hh⟩)
  ·intro hh
   first
    | exact hh.2.2.2
    | exact hh.2.2
    | (exfalso; omega)
    | (exfalso; simp_all; done)

theorem stg8 : Stg s i c 40 (c.toNat = 237 ∧ bt s (i + 1) 128 159 = true ∧ tl s (i + 2) 1 = true) g190_8:=by
 intro Q hQ f h0 h1 h5
 have e1 : IntKind.i64.wrap ((i : Int) + 1) = ((i + 1 : Nat) : Int):=wadd i 1 (by omega)
 have e2 : IntKind.i64.wrap ((i : Int) + 2) = ((i + 2 : Nat) : Int):=wadd i 2 (by omega)
 simp only [g190_8,h5,eES,seval]
 repeat' (first | (refine csel_of (fun h => ?_) (fun h => ?_) <;> simp only [h,h0,h1,h5,e1,e2,eES,eEX,seval]) | (refine gsel_t (fun h => ?_) (fun h => ?_) <;> simp only [h,updO,h0,h1,e1,e2,eES,seval]) | (refine gsel_f (fun h => ?_) (fun h => ?_) <;> simp only [h,updO,h0,h1,h5,e1,e2,eES,eEX,seval]) | ((with_reducible apply aops_call (k:=216)); (case hy => rfl); (case h1 => rfl); (case hk => exact c216 s (i + 1) 128 159); (case h2 => rfl); (case h3 => first | exact .inl rfl | exact .inr rfl); simp only [eES,seval]) | ((with_reducible apply aops_call (k:=215)); (case hy => rfl); (case h1 => rfl); (case hk => exact c215 s (i + 2) 1 (by omega)); (case h2 => rfl); (case h3 => first | exact .inl rfl | exact .inr rfl); simp only [eES,seval]))
 all_goals (refine hQ _ _ ?_ (by exact h0) (by exact h1) (by exact h5) rfl)
 all_goals simp only [beq_iff_eq,beq_eq_false_iff_ne,ne_eq] at *
 all_goals
  constructor
  ·intro hh
   first
    | cases hh
    | (refine ⟨by omega,?_⟩; first | exact hh | (refine ⟨by omega,?_⟩; first | exact hh | (refine ⟨by omega,?_⟩; exact hh)) | exact ⟨by assumption,hh⟩)
  ·intro hh
   first
    | exact hh.2.2.2
    | exact hh.2.2
    | (exfalso; omega)
    | (exfalso; simp_all; done)

theorem stg10 : Stg s i c 55 (225 ≤ c.toNat ∧ c.toNat ≤ 239 ∧ c.toNat ≠ 237 ∧ tl s (i + 1) 2 = true) g190_10:=by
 intro Q hQ f h0 h1 h5
 have e1 : IntKind.i64.wrap ((i : Int) + 1) = ((i + 1 : Nat) : Int):=wadd i 1 (by omega)
 have e2 : IntKind.i64.wrap ((i : Int) + 2) = ((i + 2 : Nat) : Int):=wadd i 2 (by omega)
 simp only [g190_10,h5,eES,seval]
 repeat' (first | (refine csel_of (fun h => ?_) (fun h => ?_) <;> simp only [h,h0,h1,h5,e1,e2,eES,eEX,seval]) | (refine gsel_t (fun h => ?_) (fun h => ?_) <;> simp only [h,updO,h0,h1,h5,e1,eES,seval]) | (refine gsel_f (fun h => ?_) (fun h => ?_) <;> simp only [h,updO,h0,h1,h5,e1,e2,eES,eEX,seval]) | ((with_reducible apply aops_call (k:=215)); (case hy => rfl); (case h1 => rfl); (case hk => exact c215 s (i + 1) 2 (by omega)); (case h2 => rfl); (case h3 => first | exact .inl rfl | exact .inr rfl); simp only [eES,seval]))
 all_goals (refine hQ _ _ ?_ (by exact h0) (by exact h1) (by exact h5) rfl)
 all_goals simp only [decide_eq_true_eq,decide_eq_false_iff_not,bne_iff_ne,bne_eq_false_iff_eq,ne_eq] at *
 all_goals
  constructor
  ·intro hh
   first
    | cases hh
    | (refine ⟨by omega,?_⟩; first | exact hh | (refine ⟨by omega,?_⟩; first | exact hh | (refine ⟨by omega,?_⟩; exact hh)) | exact ⟨by assumption,hh⟩)
  ·intro hh
   first
    | exact hh.2.2.2
    | exact hh.2.2
    | (exfalso; omega)
    | (exfalso; simp_all; done)

theorem stg12 : Stg s i c 72 (c.toNat = 240 ∧ bt s (i + 1) 144 191 = true ∧ tl s (i + 2) 2 = true) g190_12:=by
 intro Q hQ f h0 h1 h5
 have e1 : IntKind.i64.wrap ((i : Int) + 1) = ((i + 1 : Nat) : Int):=wadd i 1 (by omega)
 have e2 : IntKind.i64.wrap ((i : Int) + 2) = ((i + 2 : Nat) : Int):=wadd i 2 (by omega)
 simp only [g190_12,h5,eES,seval]
 repeat' (first | (refine csel_of (fun h => ?_) (fun h => ?_) <;> simp only [h,h0,h1,h5,e1,e2,eES,eEX,seval]) | (refine gsel_t (fun h => ?_) (fun h => ?_) <;> simp only [h,updO,h0,h1,e1,e2,eES,seval]) | (refine gsel_f (fun h => ?_) (fun h => ?_) <;> simp only [h,updO,h0,h1,h5,e1,e2,eES,eEX,seval]) | ((with_reducible apply aops_call (k:=216)); (case hy => rfl); (case h1 => rfl); (case hk => exact c216 s (i + 1) 144 191); (case h2 => rfl); (case h3 => first | exact .inl rfl | exact .inr rfl); simp only [eES,seval]) | ((with_reducible apply aops_call (k:=215)); (case hy => rfl); (case h1 => rfl); (case hk => exact c215 s (i + 2) 2 (by omega)); (case h2 => rfl); (case h3 => first | exact .inl rfl | exact .inr rfl); simp only [eES,seval]))
 all_goals (refine hQ _ _ ?_ (by exact h0) (by exact h1) (by exact h5) rfl)
 all_goals simp only [beq_iff_eq,beq_eq_false_iff_ne,ne_eq] at *
 all_goals
  constructor
  ·intro hh
   first
    | cases hh
    | (refine ⟨by omega,?_⟩; first | exact hh | (refine ⟨by omega,?_⟩; first | exact hh | (refine ⟨by omega,?_⟩; exact hh)) | exact ⟨by assumption,hh⟩)
  ·intro hh
   first
    | exact hh.2.2.2
    | exact hh.2.2
    | (exfalso; omega)
    | (exfalso; simp_all; done)

theorem stg14 : Stg s i c 87 (241 ≤ c.toNat ∧ c.toNat ≤ 243 ∧ tl s (i + 1) 3 = true) g190_14:=by
 intro Q hQ f h0 h1 h5
 have e1 : IntKind.i64.wrap ((i : Int) + 1) = ((i + 1 : Nat) : Int):=wadd i 1 (by omega)
 have e2 : IntKind.i64.wrap ((i : Int) + 2) = ((i + 2 : Nat) : Int):=wadd i 2 (by omega)
 simp only [g190_14,h5,eES,seval]
 repeat' (first | (refine csel_of (fun h => ?_) (fun h => ?_) <;> simp only [h,h0,h1,h5,e1,e2,eES,eEX,seval]) | (refine gsel_t (fun h => ?_) (fun h => ?_) <;> simp only [h,updO,h0,h1,h5,e1,eES,seval]) | (refine gsel_f (fun h => ?_) (fun h => ?_) <;> simp only [h,updO,h0,h1,h5,e1,e2,eES,eEX,seval]) | ((with_reducible apply aops_call (k:=215)); (case hy => rfl); (case h1 => rfl); (case hk => exact c215 s (i + 1) 3 (by omega)); (case h2 => rfl); (case h3 => first | exact .inl rfl | exact .inr rfl); simp only [eES,seval]))
 all_goals (refine hQ _ _ ?_ (by exact h0) (by exact h1) (by exact h5) rfl)
 all_goals simp only [decide_eq_true_eq,decide_eq_false_iff_not] at *
 all_goals
  constructor
  ·intro hh
   first
    | cases hh
    | (refine ⟨by omega,?_⟩; first | exact hh | (refine ⟨by omega,?_⟩; first | exact hh | (refine ⟨by omega,?_⟩; exact hh)) | exact ⟨by assumption,hh⟩)
  ·intro hh
   first
    | exact hh.2.2.2
    | exact hh.2.2
    | (exfalso; omega)
    | (exfalso; simp_all; done)

theorem stg16 : Stg s i c 100 (c.toNat = 244 ∧ bt s (i + 1) 128 143 = true ∧ tl s (i + 2) 2 = true) g190_16:=by
 intro Q hQ f h0 h1 h5
 have e1 : IntKind.i64.wrap ((i : Int) + 1) = ((i + 1 : Nat) : Int):=wadd i 1 (by omega)
 have e2 : IntKind.i64.wrap ((i : Int) + 2) = ((i + 2 : Nat) : Int):=wadd i 2 (by omega)
 simp only [g190_16,h5,eES,seval]
 repeat' (first | (refine csel_of (fun h => ?_) (fun h => ?_) <;> simp only [h,h0,h1,h5,e1,e2,eES,eEX,seval]) | (refine gsel_t (fun h => ?_) (fun h => ?_) <;> simp only [h,updO,h0,h1,e1,e2,eES,seval]) | (refine gsel_f (fun h => ?_) (fun h => ?_) <;> simp only [h,updO,h0,h1,h5,e1,e2,eES,eEX,seval]) | ((with_reducible apply aops_call (k:=216)); (case hy => rfl); (case h1 => rfl); (case hk => exact c216 s (i + 1) 128 143); (case h2 => rfl); (case h3 => first | exact .inl rfl | exact .inr rfl); simp only [eES,seval]) | ((with_reducible apply aops_call (k:=215)); (case hy => rfl); (case h1 => rfl); (case hk => exact c215 s (i + 2) 2 (by omega)); (case h2 => rfl); (case h3 => first | exact .inl rfl | exact .inr rfl); simp only [eES,seval]))
 all_goals (refine hQ _ _ ?_ (by exact h0) (by exact h1) (by exact h5) rfl)
 all_goals simp only [beq_iff_eq,beq_eq_false_iff_ne,ne_eq] at *
 all_goals
  constructor
  ·intro hh
   first
    | cases hh
    | (refine ⟨by omega,?_⟩; first | exact hh | (refine ⟨by omega,?_⟩; first | exact hh | (refine ⟨by omega,?_⟩; exact hh)) | exact ⟨by assumption,hh⟩)
  ·intro hh
   first
    | exact hh.2.2.2
    | exact hh.2.2
    | (exfalso; omega)
    | (exfalso; simp_all; done)

end

theorem c190 (s : List UInt8) (i : Nat) (hi : i < s.length) (hs : s.length + 8 ≤ maxLen) : Fn1 Tryz.prog 190 [.str s,.int .i64 (i : Nat)] (.int .i64 (sz s i : Nat)):=by
 refine k190.fn (by simp) ?_
 obtain ⟨c,hc⟩ : ∃ c,s[i]? = some c:=⟨s[i],List.getElem?_eq_getElem hi⟩
 have hz : sz s i = szb s i c.toNat:=by simp only [sz,hc]
 unfold szb at hz
 simp only [g190_0,g190_1,g190_2,g190_3,g190_5,g190_7,g190_9,g190_11,g190_13,g190_15,g190_17,g190_18,r190,o190,nneg,Int.toNat_natCast,hc,eES,seval]
 refine csel_of (fun h => ?_) (fun h => ?_)
 ·have h : c.toNat < 128:=by simp at h; omega
  rw [hz,if_pos h]
  simp only [eES,seval]
  try rfl
 have h : ¬ c.toNat < 128:=by simp at h; omega
 rw [hz,if_neg h]
 simp only [eES,seval]
 refine stg4 hi hs _ (fun f B hB h0 h1 h5 hd => ?_) _ (by rfl) (by rfl) (by rfl)
 by_cases hB1 : B = true
 ·rw [if_pos (hB.1 hB1)]
  subst hB1
  simp only [hd,eES,seval]
  try rfl
 rw [if_neg (fun hh => hB1 (hB.2 hh))]
 have hB2 : B = false:=by simpa using hB1
 subst hB2
 simp only [hd,eES,seval]
 refine stg6 hi hs _ (fun f B hB h0 h1 h5 hd => ?_) _ (by exact h0) (by exact h1) (by exact h5)
 by_cases hB1 : B = true
 ·rw [if_pos (hB.1 hB1)]
  subst hB1
  simp only [hd,eES,seval]
  try rfl
 rw [if_neg (fun hh => hB1 (hB.2 hh))]
 have hB2 : B = false:=by simpa using hB1
 subst hB2
 simp only [hd,eES,seval]
 refine stg8 hi hs _ (fun f B hB h0 h1 h5 hd => ?_) _ (by exact h0) (by exact h1) (by exact h5)
 by_cases hB1 : B = true
 ·rw [if_pos (hB.1 hB1)]
  subst hB1
  simp only [hd,eES,seval]
  try rfl
 rw [if_neg (fun hh => hB1 (hB.2 hh))]
 have hB2 : B = false:=by simpa using hB1
 subst hB2
 simp only [hd,eES,seval]
 refine stg10 hi hs _ (fun f B hB h0 h1 h5 hd => ?_) _ (by exact h0) (by exact h1) (by exact h5)
 by_cases hB1 : B = true
 ·rw [if_pos (hB.1 hB1)]
  subst hB1
  simp only [hd,eES,seval]
  try rfl
 rw [if_neg (fun hh => hB1 (hB.2 hh))]
 have hB2 : B = false:=by simpa using hB1
 subst hB2
 simp only [hd,eES,seval]
 refine stg12 hi hs _ (fun f B hB h0 h1 h5 hd => ?_) _ (by exact h0) (by exact h1) (by exact h5)
 by_cases hB1 : B = true
 ·rw [if_pos (hB.1 hB1)]
  subst hB1
  simp only [hd,eES,seval]
  try rfl
 rw [if_neg (fun hh => hB1 (hB.2 hh))]
 have hB2 : B = false:=by simpa using hB1
 subst hB2
 simp only [hd,eES,seval]
 refine stg14 hi hs _ (fun f B hB h0 h1 h5 hd => ?_) _ (by exact h0) (by exact h1) (by exact h5)
 by_cases hB1 : B = true
 ·rw [if_pos (hB.1 hB1)]
  subst hB1
  simp only [hd,eES,seval]
  try rfl
 rw [if_neg (fun hh => hB1 (hB.2 hh))]
 have hB2 : B = false:=by simpa using hB1
 subst hB2
 simp only [hd,eES,seval]
 refine stg16 hi hs _ (fun f B hB h0 h1 h5 hd => ?_) _ (by exact h0) (by exact h1) (by exact h5)
 by_cases hB1 : B = true
 ·rw [if_pos (hB.1 hB1)]
  subst hB1
  simp only [hd,eES,seval]
  try rfl
 rw [if_neg (fun hh => hB1 (hB.2 hh))]
 have hB2 : B = false:=by simpa using hB1
 subst hB2
 simp only [hd,eES,seval]
 try rfl


theorem sz_le (s : List UInt8) (i : Nat) (hi : i < s.length) (_h : sz s i ≠ 0) : i + sz s i ≤ s.length:=by
 have tl1 : ∀ n j,tl s j n = true → n ≠ 0 → j + n ≤ s.length:=by
  intro n
  induction n with
  | zero => intro j _ h; exact absurd rfl h
  | succ n ih =>
   intro j hj _
   simp only [tl,Bool.and_eq_true] at hj
   have hb : j < s.length:=by
    have h1:=hj.1
    unfold bt at h1
    split at h1
    ·rename_i b hb
     exact (List.getElem?_eq_some_iff.1 hb).1
    ·cases h1
   by_cases h0 : n = 0
   ·subst h0; omega
   ·have:=ih (j + 1) hj.2 h0
    omega
 obtain ⟨c,hc⟩ : ∃ c,s[i]? = some c:=⟨s[i],List.getElem?_eq_getElem hi⟩
 simp only [sz,hc] at _h ⊢
 unfold szb at _h ⊢
 (repeat' split) <;> first
  | omega
  | (rename_i hh; have:=tl1 _ _ hh.2.2 (by decide); omega)
  | (rename_i hh; have:=tl1 _ _ hh.2.2.2 (by decide); omega)
  | simp_all

def BadI (s : List UInt8) (k : Nat) (st : St) : Prop :=
 ∃ f i,st = ⟨f,[noObs],[]⟩ ∧ i ≤ s.length ∧ s.length - i ≤ k ∧ bad s s.length 0 = bad s k i ∧ f 0 = .str s ∧ f 3 = .int .i64 (i : Nat)

theorem c160 (s : List UInt8) (hs : s.length + 8 ≤ maxLen) : Fn1 Tryz.prog 160 [.str s] (.int .i64 (bad s s.length 0)):=by
 refine k160.fn (by simp) ?_
 simp only [eES,seval]
 refine awp_loop (BadI s) s.length ⟨_,0,rfl,Nat.zero_le _,Nat.le_refl _,rfl,rfl,rfl⟩ ?_
 rintro k st ⟨f,i,rfl,hi,hk,hb,h0,h3⟩
 simp only [h0,h3,eES,seval]
 by_cases hlt : i < s.length
 ·simp only [lt_t hlt,h0,h3,eES,seval]
  refine aops_call (c190 s i hlt hs) rfl rfl rfl (.inl rfl) ?_
  obtain ⟨k,rfl⟩ : ∃ n,k = n + 1:=⟨k - 1,by omega⟩
  have hbk : bad s (k + 1) i = if sz s i = 0 then (i : Int) else bad s k (i + sz s i):=by
   show (if i < s.length then _ else _) = _
   rw [if_pos hlt]
  by_cases hz : sz s i = 0
  ·have b0 : ((sz s i : Int) == 0) = true:=by simp [hz]
   simp only [b0,h3,hb,hbk,if_pos hz,eES,seval]
  ·have b0 : ((sz s i : Int) == 0) = false:=by simp; omega
   have hle:=sz_le s i hlt hz
   have e0:=wadd i (sz s i) (by omega)
   simp only [b0,h3,e0,eES,seval]
   exact ⟨k,by omega,_,i + sz s i,rfl,hle,by omega,by rw [hb,hbk,if_neg hz],(by exact h0),(by rfl)⟩
 ·have hbk : bad s k i = -1:=by
   cases k with
   | zero => rfl
   | succ k =>
    show (if i < s.length then _ else _) = _
    rw [if_neg hlt]
  simp only [lt_f hlt,hb,hbk,eES,seval]

theorem c119 (s : List UInt8) (hs : s.length + 8 ≤ maxLen) : Fn1 Tryz.prog 119 [.str s] (.bool (vld s)):=by
 refine k119.fn (by simp) ?_
 simp only [eES,seval]
 refine aops_call (c160 s hs) rfl rfl rfl (.inl rfl) ?_
 simp only [eES,seval]
 rfl

def repl (s : List UInt8) (i : Nat) : Bool:=(s.drop i).take 3 == [239,191,189]

theorem c243 (s t : List UInt8) : Fn1 Tryz.prog 243 [.str s,.str t] (.bool (s.take t.length == t)):=by
 refine k243.fn (by simp) ?_
 by_cases h : t.length ≤ s.length
 ·have d0 : decide ((s.length : Int) ≥ (t.length : Int)) = true:=by simp; omega
  have s1 : (0 ≤ t.length ∧ t.length ≤ s.length) = True:=by simp; omega
  simp only [d0,nneg,s1,Int.toNat_natCast,astr,Nat.sub_zero,List.drop_zero,eES,seval]
 ·have d0 : decide ((s.length : Int) ≥ (t.length : Int)) = false:=by simp; omega
  have e0 : (s.take t.length == t) = false:=by
   rw [beq_eq_false_iff_ne]
   intro hh
   have:=congrArg List.length hh
   simp at this
   omega
  simp only [d0,e0,eES,seval]

theorem c236 (s t : List UInt8) : Fn1 Tryz.prog 236 [.str s,.str t] (.bool (s.take t.length == t)):=by
 refine k236.fn (by simp) ?_
 simp only [eES,seval]
 refine aops_call (c243 s t) rfl rfl rfl (.inl rfl) ?_
 simp only [eES,seval]

theorem c227 (s : List UInt8) (i : Nat) (hi : i ≤ s.length) (c : Nat) : Fn1 Tryz.prog 227 [.str s,.int .i64 (i : Nat),.int .i32 (c : Nat)] (.bool (decide (c = 65533) && !repl s i)):=by
 refine k227.fn (by simp) ?_
 by_cases hc : c = 65533
 ·have b0 : ((c : Int) == 65533) = true:=by simp [hc]
  have s1 : (i ≤ s.length ∧ s.length ≤ s.length) = True:=by simp; omega
  simp only [b0,nneg,s1,Int.toNat_natCast,eES,seval]
  refine aops_call (c236 (List.take (s.length - i) (List.drop i s)) [239,191,189]) rfl rfl rfl (.inl rfl) ?_
  have ht : List.take (s.length - i) (List.drop i s) = List.drop i s:=List.take_of_length_le (by simp)
  simp only [ht,repl,hc,eES,seval]
 ·have b0 : ((c : Int) == 65533) = false:=by simp; omega
  simp only [b0,hc,eES,seval]
  simp

end Go.Proofs.YtgannjophilbiaaGreatDoor.Va

namespace Go.Proofs.YtgannjophilbiaaGreatDoor.Vp

def vput : Nat → Nat → List UInt8
 | 0,u => [UInt8.ofNat u]
 | k + 1,u => if u < 128 then [UInt8.ofNat u] else UInt8.ofNat (u % 128 + 128) :: vput k (u / 128)

def put (u : Nat) : List UInt8:=vput 9 u

def vtk : Nat → Nat → List UInt8 → Nat × Nat × Nat
 | _,_,[] => (0,0,4)
 | i,acc,c :: t =>
  if i = 9 ∧ 1 < c.toNat then (0,0,6)
  else if c.toNat < 128 then (acc + c.toNat * 128 ^ i,i + 1,0)
  else vtk (i + 1) (acc + (c.toNat - 128) * 128 ^ i) t

def take (s : List UInt8) : Nat × Nat × Nat:=vtk 0 0 s

theorem toNat_ofNat (n : Nat) (h : n < 256) : (UInt8.ofNat n).toNat = n:=by
 simp [UInt8.toNat_ofNat']; omega

theorem vput_len (k u : Nat) : 1 ≤ (vput k u).length ∧ (vput k u).length ≤ k + 1:=by
 induction k generalizing u with
 | zero => simp [vput]
 | succ k ih =>
  unfold vput
  split
  ·simp
  ·have:=ih (u / 128); simp; omega

theorem put_len (u : Nat) : 1 ≤ (put u).length ∧ (put u).length ≤ 10:=vput_len 9 u

theorem vtk_append (i acc : Nat) (s t : List UInt8) (h : (vtk i acc s).2.2 ≠ 4) : vtk i acc (s ++ t) = vtk i acc s:=by
 induction s generalizing i acc with
 | nil => simp [vtk] at h
 | cons c r ih =>
  simp only [List.cons_append]
  unfold vtk at h ⊢
  split
  ·rfl
  ·rename_i h1
   rw [if_neg h1] at h
   split
   ·rfl
   ·rename_i h2
    rw [if_neg h2] at h
    exact ih _ _ h

theorem vtk_ten (i acc : Nat) (s : List UInt8) (hi : i ≤ 9) (hl : 10 ≤ i + s.length) : (vtk i acc s).2.2 ≠ 4:=by
 induction s generalizing i acc with
 | nil => simp at hl; omega
 | cons c r ih =>
  unfold vtk
  split
  ·simp
  ·rename_i h1
   split
   ·simp
   ·rename_i h2
    exact ih _ _ (by omega) (by simp at hl; omega)

theorem take_take (s : List UInt8) : take (s.take 10) = take s:=by
 rcases Nat.lt_or_ge s.length 10 with h | h
 ·rw [List.take_of_length_le (by omega)]
 ·have:=vtk_append 0 0 (s.take 10) (s.drop 10) (vtk_ten 0 0 _ (by omega) (by simp; omega))
  rw [List.take_append_drop] at this
  exact this.symm

end Go.Proofs.YtgannjophilbiaaGreatDoor.Vp

namespace Go.Proofs.YtgannjophilbiaaGreatDoor.Va
open Go Am Rc Bt Vp

theorem get_at (s : List UInt8) (j : Nat) (c : UInt8) (h : s[j]? = some c) : (⟨⟨s⟩⟩ : ByteArray).get! j = c:=by
 show (⟨s⟩ : Array UInt8)[j]! = c
 simp [h]

theorem u8eq (a : UInt8) (n : Nat) (hn : n < 256) : (a == UInt8.ofNat n) = decide (a.toNat = n):=by
 rw [Bool.eq_iff_iff,beq_iff_eq,decide_eq_true_eq]
 constructor
 ·rintro rfl
  rw [toNat_ofNat _ hn]
 ·intro h
  rw [← UInt8.toNat_inj,toNat_ofNat _ hn,h]

set_option maxHeartbeats 4000000 in
theorem dec4 (s : List UInt8) (i : Nat) (a b c d : UInt8) (t : List UInt8) (hr : s.drop i = a :: b :: c :: d :: t) : (decide ((udec s i).1 = 65533) && !repl s i) = decide (sz s i = 0) ∧ (sz s i ≠ 0 → (udec s i).2 = sz s i):=by
 have hsz : ∀ j,(s[i + j]? = (a :: b :: c :: d :: t)[j]?):=fun j => by rw [← hr,List.getElem?_drop]
 have hn : ByteArray.size ⟨⟨s⟩⟩ = s.length:=rfl
 have hl : s.length = i + (a :: b :: c :: d :: t).length:=by
  have h:=congrArg List.length hr
  simp at h ⊢
  omega
 have h0:=hsz 0
 have h1:=hsz 1
 have h2:=hsz 2
 have h3:=hsz 3
 simp only [Nat.add_zero] at h0
 have g0:=get_at s i a h0
 have g1:=get_at s (i + 1) b h1
 have g2:=get_at s (i + 2) c h2
 have g3:=get_at s (i + 3) d h3
 have l1 : (i + 1 < s.length) = True:=by simp at hl ⊢; omega
 have l2 : (i + 2 < s.length) = True:=by simp at hl ⊢; omega
 have l3 : (i + 3 < s.length) = True:=by simp at hl ⊢; omega
 have wa:=a.toNat_lt
 have wb:=b.toNat_lt
 have wc:=c.toNat_lt
 have wd:=d.toNat_lt
 have hrep : repl s i = (decide (a.toNat = 239) && (decide (b.toNat = 191) && decide (c.toNat = 189))):=by
  rw [← u8eq a 239 (by decide),← u8eq b 191 (by decide),← u8eq c 189 (by decide)]
  simp [repl,hr]
 simp only [List.getElem?_cons_succ,List.getElem?_cons_zero] at h0 h1 h2 h3
 generalize hD : udec s i = D
 generalize hS : sz s i = S
 rw [hrep]
 simp only [udec,Utf8.decode,Utf8.valid,Utf8.runeError,hn,l1,l2,l3,Nat.add_zero,g0,g1,g2,g3,sz,h0,szb,tl,bt,Nat.add_assoc,seval,h1,h2,h3,decide_true,Bool.true_and,Bool.and_true,Bool.and_eq_true,Bool.or_eq_true,decide_eq_true_eq,beq_iff_eq,ge_iff_le] at hD hS
 clear hsz hr hl h0 h1 h2 h3 g0 g1 g2 g3 l1 l2 l3 hrep hn
 generalize a.toNat = x at *
 generalize b.toNat = y at *
 generalize c.toNat = z at *
 generalize d.toNat = u at *
 (repeat' split at hD) <;> subst hD <;> (repeat' split at hS) <;> subst hS <;> refine ⟨?_,?_⟩ <;> (try rw [Bool.eq_iff_iff]) <;> (try simp only [Bool.and_eq_true,decide_eq_true_eq,Bool.not_eq_true',Bool.and_eq_false_iff,decide_eq_false_iff_not]) <;> first | omega | (intro _; rfl) | (simp; done) | (simp; omega)

theorem dec_case (s : List UInt8) (i : Nat) (hi : i < s.length) : (decide ((udec s i).1 = 65533) && !repl s i) = decide (sz s i = 0) ∧ (sz s i ≠ 0 → (udec s i).2 = sz s i):=by
 have hsz : ∀ j,(s[i + j]? = (s.drop i)[j]?):=fun j => by rw [List.getElem?_drop]
 have hn : ByteArray.size ⟨⟨s⟩⟩ = s.length:=rfl
 have hl : s.length = i + (s.drop i).length:=by simp; omega
 generalize hr : s.drop i = r at hsz hl
 have h0:=hsz 0
 have h1:=hsz 1
 have h2:=hsz 2
 have h3:=hsz 3
 simp only [Nat.add_zero] at h0
 match r,hl with
 | [],hl => simp at hl; omega
 | [a],hl =>
  have g0:=get_at s i a h0
  have l1 : (i + 1 < s.length) = False:=by simp at hl ⊢; omega
  have l2 : (i + 2 < s.length) = False:=by simp at hl ⊢; omega
  have l3 : (i + 3 < s.length) = False:=by simp at hl ⊢; omega
  have wa:=a.toNat_lt
  have hrep : repl s i = false:=by simp [repl,hr]
  simp only [List.getElem?_cons_succ,List.getElem?_nil,List.getElem?_cons_zero] at h0 h1 h2 h3
  simp only [udec,Utf8.decode,Utf8.runeError,hn,l1,l2,l3,Nat.add_zero,g0,sz,h0,szb,tl,bt,Nat.add_assoc,seval,h1,h2,h3,hrep,decide_false,Bool.false_and,Bool.and_false,Bool.and_true,Bool.false_eq_true,and_false]
  (repeat' split) <;> refine ⟨?_,?_⟩ <;> (try rw [Bool.eq_iff_iff]) <;> (try simp only [decide_eq_true_eq,Bool.not_false,Bool.and_true]) <;> first | omega | (intro _; rfl) | (intro _; omega) | (simp; done) | (simp; omega)
 | [a,b],hl =>
  have g0:=get_at s i a h0
  have g1:=get_at s (i + 1) b h1
  have l1 : (i + 1 < s.length) = True:=by simp at hl ⊢; omega
  have l2 : (i + 2 < s.length) = False:=by simp at hl ⊢; omega
  have l3 : (i + 3 < s.length) = False:=by simp at hl ⊢; omega
  have wa:=a.toNat_lt
  have wb:=b.toNat_lt
  have hrep : repl s i = false:=by simp [repl,hr]
  simp only [List.getElem?_cons_succ,List.getElem?_nil,List.getElem?_cons_zero] at h0 h1 h2 h3
  simp only [udec,Utf8.decode,Utf8.runeError,hn,l1,l2,l3,Nat.add_zero,g0,g1,sz,h0,szb,tl,bt,Nat.add_assoc,seval,h1,h2,h3,hrep,decide_false,decide_true,Bool.false_and,Bool.and_false,Bool.true_and,Bool.and_true,Bool.false_eq_true,and_false,Bool.and_eq_true,decide_eq_true_eq,beq_iff_eq,ge_iff_le]
  (repeat' split) <;> refine ⟨?_,?_⟩ <;> (try rw [Bool.eq_iff_iff]) <;> (try simp only [decide_eq_true_eq,Bool.not_false,Bool.and_true]) <;> first | omega | (intro _; rfl) | (intro _; omega) | (simp; done) | (simp; omega)
 | [a,b,c],hl =>
  have g0:=get_at s i a h0
  have g1:=get_at s (i + 1) b h1
  have g2:=get_at s (i + 2) c h2
  have l1 : (i + 1 < s.length) = True:=by simp at hl ⊢; omega
  have l2 : (i + 2 < s.length) = True:=by simp at hl ⊢; omega
  have l3 : (i + 3 < s.length) = False:=by simp at hl ⊢; omega
  have wa:=a.toNat_lt
  have wb:=b.toNat_lt
  have wc:=c.toNat_lt
  have hrep : repl s i = (decide (a.toNat = 239) && (decide (b.toNat = 191) && decide (c.toNat = 189))):=by
   rw [← u8eq a 239 (by decide),← u8eq b 191 (by decide),← u8eq c 189 (by decide)]
   simp [repl,hr]
  simp only [List.getElem?_cons_succ,List.getElem?_nil,List.getElem?_cons_zero] at h0 h1 h2 h3
  simp only [udec,Utf8.decode,Utf8.valid,Utf8.runeError,hn,l1,l2,l3,Nat.add_zero,g0,g1,g2,sz,h0,szb,tl,bt,Nat.add_assoc,seval,h1,h2,h3,hrep,decide_false,decide_true,Bool.false_and,Bool.and_false,Bool.true_and,Bool.and_true,Bool.false_eq_true,and_false,Bool.and_eq_true,Bool.or_eq_true,decide_eq_true_eq,beq_iff_eq,ge_iff_le]
  (repeat' split) <;> refine ⟨?_,?_⟩ <;> (try rw [Bool.eq_iff_iff]) <;> (try simp only [Bool.and_eq_true,decide_eq_true_eq,Bool.not_eq_true',decide_eq_false_iff_not,Bool.and_eq_false_iff]) <;> first | omega | (intro _; rfl) | (intro _; omega) | (simp; done) | (simp; omega)
 | a :: b :: c :: d :: t,hl => exact dec4 s i a b c d t hr


def BadP (s : List UInt8) (k : Nat) (st : St) : Prop :=
 ∃ f fr i,st = ⟨f,[fr],[]⟩ ∧ i ≤ s.length ∧ s.length - i ≤ k ∧ bad s s.length 0 = bad s k i ∧ f 0 = .str s ∧ f 6 = .ptr 0 6 0 ∧ fr 6 = .iter (.str s) i

theorem x208 (s : List UInt8) : Fn1 Tryz.prog 208 [.str s] (.int .i64 (bad s s.length 0)):=by
 refine k208.fn (by simp) ?_
 simp only [eES,seval]
 refine aops_rngs rfl rfl ?_
 simp only [eES,seval]
 refine awp_loop (BadP s) s.length ⟨_,_,0,rfl,Nat.zero_le _,Nat.le_refl _,rfl,(by rfl),(by rfl),(by rfl)⟩ ?_
 rintro k st ⟨f,fr,i,rfl,hi,hk,hb,h0,h6,m6⟩
 simp only [eES,seval]
 refine aops_nxts (by exact h6) m6 (fun hlt => ?_) (fun hge => ?_)
 ·obtain ⟨hd,hw⟩:=dec_case s i hlt
  obtain ⟨k,rfl⟩ : ∃ n,k = n + 1:=⟨k - 1,by omega⟩
  have hbk : bad s (k + 1) i = if sz s i = 0 then (i : Int) else bad s k (i + sz s i):=by
   show (if i < s.length then _ else _) = _
   rw [if_pos hlt]
  have hwr:=c227 s i hi (udec s i).1
  rw [hd] at hwr
  generalize udec s i = cw at hw hwr
  obtain ⟨c,w⟩:=cw
  simp only [h0,eES,seval]
  refine aops_call hwr rfl rfl rfl (.inl rfl) ?_
  by_cases hz : sz s i = 0
  ·simp only [hz,decide_true,hb,hbk,eES,seval]
  ·have hw:=hw hz
   simp only at hw
   have hle:=sz_le s i hlt hz
   simp only [hz,decide_false,eES,seval]
   exact ⟨k,by omega,_,_,i + sz s i,rfl,hle,by omega,by rw [hb,hbk,if_neg hz],(by exact h0),(by exact h6),by rw [← hw] <;> first | rfl | simp only [eES,eEX,seval]⟩
 ·have hbk : bad s k i = -1:=by
   cases k with
   | zero => rfl
   | succ k =>
    show (if i < s.length then _ else _) = _
    rw [if_neg (by omega)]
  simp only [hb,hbk,eES,seval]

theorem x181 (s : List UInt8) : Fn1 Tryz.prog 181 [.str s] (.bool (vld s)):=by
 refine k181.fn (by simp) ?_
 simp only [eES,seval]
 refine aops_call (x208 s) rfl rfl rfl (.inl rfl) ?_
 simp only [eES,seval]
 rfl

end Go.Proofs.YtgannjophilbiaaGreatDoor.Va

namespace Go.Proofs.YtgannjophilbiaaGreatDoor.Va
open Go Am Rc Bt

def fitn (k : Int) (b : Nat) : Bool :=
 if k = 1 then decide ((b : Int) ≤ 1) else if k = 2 then decide (IntKind.i64.wrap (b : Int) ≥ -2147483648) && decide (IntKind.i64.wrap (b : Int) ≤ 2147483647)
 else if k = 4 then decide ((b : Int) < 4294967296) else if k = 9 then decide ((b : Int) < 2147483648) else true

theorem x218 (k : Int) (b : Nat) : Fn1 Tryz.prog 218 [.int .i64 k,.int .u64 (b : Nat)] (.bool (fitn k b)):=by
 have e1 : decide ((b : Int) ≤ 4294967295) = decide ((b : Int) < 4294967296):=by rw [decide_eq_decide]; omega
 have e2 : decide ((b : Int) ≤ 2147483647) = decide ((b : Int) < 2147483648):=by rw [decide_eq_decide]; omega
 refine k218.fn (by simp) ?_
 simp only [eES,seval]
 unfold fitn
 by_cases h1 : k = 1
 ·subst h1
  have b1 : ((1 : Int) == 1) = true:=rfl
  simp only [b1,eES,seval]
 ·have b1 : (k == 1) = false:=by simp [h1]
  by_cases h2 : k = 2
  ·subst h2
   have b2 : ((2 : Int) == 2) = true:=rfl
   simp only [b1,b2,h1,eES,seval]
   cases hd : decide (IntKind.i64.wrap (b : Int) ≥ -2147483648) <;> simp only [Bool.true_and,Bool.false_and,eES,seval]
  ·have b2 : (k == 2) = false:=by simp [h2]
   by_cases h9 : k = 9
   ·subst h9
    have b9 : ((9 : Int) == 9) = true:=rfl
    simp only [b1,b2,b9,h1,h2,e2,eES,seval]
   ·have b9 : (k == 9) = false:=by simp [h9]
    by_cases h4 : k = 4
    ·subst h4
     have b4 : ((4 : Int) == 4) = true:=rfl
     simp only [b1,b2,b9,b4,h1,h2,e1,eES,seval]
    ·have b4 : (k == 4) = false:=by simp [h4]
     simp only [b1,b2,b9,b4,h1,h2,h4,h9,eES,seval]

end Go.Proofs.YtgannjophilbiaaGreatDoor.Va

/- Parts of the proof, in order. -/
import Derived.Test.YtelhohgmmhbahaaGreatDoorMPlanFits3

set_option linter.unusedSimpArgs false
namespace Go.Proofs.YtelhohgmmhbahaaGreatDoor.Va
open Go Am Rc Bt Vp

theorem get_at (s : List UInt8) (j : Nat) (c : UInt8) (h : s[j]? = some c) : (⟨⟨s⟩⟩ : ByteArray).get! j = c:=by
 show (⟨s⟩ : Array UInt8)[j]! = c
 simp [h]

theorem u8eq (a : UInt8) (n : Nat) (hn : n < 256) : (a == UInt8.ofNat n) = decide (a.toNat = n):=by
 rw [Bool.eq_iff_iff,beq_iff_eq,decide_eq_true_eq]
 constructor
 ·rintro rfl
  rw [toNat_ofNat _ hn]
 ·intro h
  rw [← UInt8.toNat_inj,toNat_ofNat _ hn,h]

set_option maxHeartbeats 4000000 in
theorem dec4 (s : List UInt8) (i : Nat) (a b c d : UInt8) (t : List UInt8) (hr : s.drop i = a :: b :: c :: d :: t) : (decide ((udec s i).1 = 65533) && !repl s i) = decide (sz s i = 0) ∧ (sz s i ≠ 0 → (udec s i).2 = sz s i):=by
 have hsz : ∀ j,(s[i + j]? = (a :: b :: c :: d :: t)[j]?):=fun j => by rw [← hr,List.getElem?_drop]
 have hn : ByteArray.size ⟨⟨s⟩⟩ = s.length:=rfl
 have hl : s.length = i + (a :: b :: c :: d :: t).length:=by
  have h:=congrArg List.length hr
  simp at h ⊢
  omega
 have h0:=hsz 0
 have h1:=hsz 1
 have h2:=hsz 2
 have h3:=hsz 3
 simp only [Nat.add_zero] at h0
 have g0:=get_at s i a h0
 have g1:=get_at s (i + 1) b h1
 have g2:=get_at s (i + 2) c h2
 have g3:=get_at s (i + 3) d h3
 have l1 : (i + 1 < s.length) = True:=by simp at hl ⊢; omega
 have l2 : (i + 2 < s.length) = True:=by simp at hl ⊢; omega
 have l3 : (i + 3 < s.length) = True:=by simp at hl ⊢; omega
 have wa:=a.toNat_lt
 have wb:=b.toNat_lt
 have wc:=c.toNat_lt
 have wd:=d.toNat_lt
 have hrep : repl s i = (decide (a.toNat = 239) && (decide (b.toNat = 191) && decide (c.toNat = 189))):=by
  rw [← u8eq a 239 (by decide),← u8eq b 191 (by decide),← u8eq c 189 (by decide)]
  simp [repl,hr]
 simp only [List.getElem?_cons_succ,List.getElem?_nil,List.getElem?_cons_zero] at h0 h1 h2 h3
 generalize hD : udec s i = D
 generalize hS : sz s i = S
 rw [hrep]
 simp only [udec,Utf8.decode,Utf8.valid,Utf8.runeError,hn,l1,l2,l3,Nat.add_zero,g0,g1,g2,g3,sz,h0,szb,tl,bt,Nat.add_assoc,Nat.reduceAdd,h1,h2,h3,hrep,decide_false,decide_true,Bool.false_and,Bool.and_false,Bool.true_and,Bool.and_true,Bool.false_eq_true,if_false,false_and,and_false,Bool.and_eq_true,Bool.or_eq_true,decide_eq_true_eq,beq_iff_eq,ge_iff_le] at hD hS
 clear hsz hr hl h0 h1 h2 h3 g0 g1 g2 g3 l1 l2 l3 hrep hn
 generalize a.toNat = x at *
 generalize b.toNat = y at *
 generalize c.toNat = z at *
 generalize d.toNat = u at *
 (repeat' split at hD) <;> subst hD <;> (repeat' split at hS) <;> subst hS <;> refine ⟨?_,?_⟩ <;> (try rw [Bool.eq_iff_iff]) <;> (try simp only [Bool.and_eq_true,decide_eq_true_eq,Bool.not_eq_true',Bool.and_eq_false_iff,decide_eq_false_iff_not]) <;> first | omega | (intro _; rfl) | (simp; done) | (simp; omega)

theorem dec_case (s : List UInt8) (i : Nat) (hi : i < s.length) : (decide ((udec s i).1 = 65533) && !repl s i) = decide (sz s i = 0) ∧ (sz s i ≠ 0 → (udec s i).2 = sz s i):=by
 have hsz : ∀ j,(s[i + j]? = (s.drop i)[j]?):=fun j => by rw [List.getElem?_drop]
 have hn : ByteArray.size ⟨⟨s⟩⟩ = s.length:=rfl
 have hl : s.length = i + (s.drop i).length:=by simp; omega
 generalize hr : s.drop i = r at hsz hl
 have h0:=hsz 0
 have h1:=hsz 1
 have h2:=hsz 2
 have h3:=hsz 3
 simp only [Nat.add_zero] at h0
 match r,hl with
 | [],hl => simp at hl; omega
 | [a],hl =>
  have g0:=get_at s i a h0
  have l1 : (i + 1 < s.length) = False:=by simp at hl ⊢; omega
  have l2 : (i + 2 < s.length) = False:=by simp at hl ⊢; omega
  have l3 : (i + 3 < s.length) = False:=by simp at hl ⊢; omega
  have wa:=a.toNat_lt
  have hrep : repl s i = false:=by simp [repl,hr]
  simp only [List.getElem?_cons_succ,List.getElem?_nil,List.getElem?_cons_zero] at h0 h1 h2 h3
  simp only [udec,Utf8.decode,Utf8.valid,Utf8.runeError,hn,l1,l2,l3,Nat.add_zero,g0,sz,h0,szb,tl,bt,Nat.add_assoc,Nat.reduceAdd,h1,h2,h3,hrep,decide_false,decide_true,Bool.false_and,Bool.and_false,Bool.true_and,Bool.and_true,Bool.false_eq_true,if_false,false_and,and_false,Bool.and_eq_true,Bool.or_eq_true,decide_eq_true_eq,beq_iff_eq,ge_iff_le]
  (repeat' split) <;> refine ⟨?_,?_⟩ <;> (try rw [Bool.eq_iff_iff]) <;> (try simp only [Bool.and_eq_true,decide_eq_true_eq,Bool.not_eq_true',decide_eq_false_iff_not,Bool.not_false,Bool.and_true,Bool.and_eq_false_iff,Bool.and_eq_false_imp]) <;> first | omega | (intro _; rfl) | (intro _; omega) | (simp; done) | (simp; omega)
 | [a,b],hl =>
  have g0:=get_at s i a h0
  have g1:=get_at s (i + 1) b h1
  have l1 : (i + 1 < s.length) = True:=by simp at hl ⊢; omega
  have l2 : (i + 2 < s.length) = False:=by simp at hl ⊢; omega
  have l3 : (i + 3 < s.length) = False:=by simp at hl ⊢; omega
  have wa:=a.toNat_lt
  have wb:=b.toNat_lt
  have hrep : repl s i = false:=by simp [repl,hr]
  simp only [List.getElem?_cons_succ,List.getElem?_nil,List.getElem?_cons_zero] at h0 h1 h2 h3
  simp only [udec,Utf8.decode,Utf8.valid,Utf8.runeError,hn,l1,l2,l3,Nat.add_zero,g0,g1,sz,h0,szb,tl,bt,Nat.add_assoc,Nat.reduceAdd,h1,h2,h3,hrep,decide_false,decide_true,Bool.false_and,Bool.and_false,Bool.true_and,Bool.and_true,Bool.false_eq_true,if_false,false_and,and_false,Bool.and_eq_true,Bool.or_eq_true,decide_eq_true_eq,beq_iff_eq,ge_iff_le]
  (repeat' split) <;> refine ⟨?_,?_⟩ <;> (try rw [Bool.eq_iff_iff]) <;> (try simp only [Bool.and_eq_true,decide_eq_true_eq,Bool.not_eq_true',decide_eq_false_iff_not,Bool.not_false,Bool.and_true,Bool.and_eq_false_iff,Bool.and_eq_false_imp]) <;> first | omega | (intro _; rfl) | (intro _; omega) | (simp; done) | (simp; omega)
 | [a,b,c],hl =>
  have g0:=get_at s i a h0
  have g1:=get_at s (i + 1) b h1
  have g2:=get_at s (i + 2) c h2
  have l1 : (i + 1 < s.length) = True:=by simp at hl ⊢; omega
  have l2 : (i + 2 < s.length) = True:=by simp at hl ⊢; omega
  have l3 : (i + 3 < s.length) = False:=by simp at hl ⊢; omega
  have wa:=a.toNat_lt
  have wb:=b.toNat_lt
  have wc:=c.toNat_lt
  have hrep : repl s i = (decide (a.toNat = 239) && (decide (b.toNat = 191) && decide (c.toNat = 189))):=by
   rw [← u8eq a 239 (by decide),← u8eq b 191 (by decide),← u8eq c 189 (by decide)]
   simp [repl,hr]
  simp only [List.getElem?_cons_succ,List.getElem?_nil,List.getElem?_cons_zero] at h0 h1 h2 h3
  simp only [udec,Utf8.decode,Utf8.valid,Utf8.runeError,hn,l1,l2,l3,Nat.add_zero,g0,g1,g2,sz,h0,szb,tl,bt,Nat.add_assoc,Nat.reduceAdd,h1,h2,h3,hrep,decide_false,decide_true,Bool.false_and,Bool.and_false,Bool.true_and,Bool.and_true,Bool.false_eq_true,if_false,false_and,and_false,Bool.and_eq_true,Bool.or_eq_true,decide_eq_true_eq,beq_iff_eq,ge_iff_le]
  (repeat' split) <;> refine ⟨?_,?_⟩ <;> (try rw [Bool.eq_iff_iff]) <;> (try simp only [Bool.and_eq_true,decide_eq_true_eq,Bool.not_eq_true',decide_eq_false_iff_not,Bool.not_false,Bool.and_true,Bool.and_eq_false_iff,Bool.and_eq_false_imp]) <;> first | omega | (intro _; rfl) | (intro _; omega) | (simp; done) | (simp; omega)
 | a :: b :: c :: d :: t,hl => exact dec4 s i a b c d t hr

end Go.Proofs.YtelhohgmmhbahaaGreatDoor.Va

set_option linter.unusedSimpArgs false
namespace Go.Proofs.YtelhohgmmhbahaaGreatDoor.Va
open Go Am Rc Bt Vp

def BadP (s : List UInt8) (k : Nat) (st : St) : Prop :=
 ∃ f fr i,st = ⟨f,[fr],[]⟩ ∧ i ≤ s.length ∧ s.length - i ≤ k ∧ bad s s.length 0 = bad s k i ∧ f 0 = .str s ∧ f 6 = .ptr 0 6 0 ∧ fr 6 = .iter (.str s) i

theorem x158 (s : List UInt8) : Fn1 Tryz.prog 158 [.str s] (.int .i64 (bad s s.length 0)):=by
 refine fn1_of_awp (rc:=r158) (rs:=o158) Tryz.func158 rfl rfl Tryz.ntmps158 k158 q158 (by simp) ?_
 simp only [g158_0,g158_1,g158_6,r158,o158,eES,Nat.reduceBEq]
 refine aops_rngs rfl rfl ?_
 simp only [eES]
 refine awp_loop (BadP s) s.length ⟨_,_,0,rfl,Nat.zero_le _,Nat.le_refl _,rfl,(by first | rfl | simp only [eES,eEX,Nat.reduceBEq,↓reduceIte,reduceCtorEq,Nat.reduceEqDiff]),(by first | rfl | simp only [eES,eEX,Nat.reduceBEq,↓reduceIte,reduceCtorEq,Nat.reduceEqDiff]),(by first | rfl | simp only [eES,eEX,Nat.reduceBEq,↓reduceIte,reduceCtorEq,Nat.reduceEqDiff])⟩ ?_
 rintro k st ⟨f,fr,i,rfl,hi,hk,hb,h0,h6,m6⟩
 simp only [l158_0,g158_2,g158_3,g158_4,g158_5,eES]
 refine aops_nxts (by first | rfl | exact h6 | simp only [h6,eES,eEX,Nat.reduceBEq,↓reduceIte,reduceCtorEq,Nat.reduceEqDiff]) m6 (fun hlt => ?_) (fun hge => ?_)
 ·obtain ⟨hd,hw⟩:=dec_case s i hlt
  obtain ⟨k,rfl⟩ : ∃ n,k = n + 1:=⟨k - 1,by omega⟩
  have hbk : bad s (k + 1) i = if sz s i = 0 then (i : Int) else bad s k (i + sz s i):=by
   show (if i < s.length then _ else _) = _
   rw [if_pos hlt]
  have hwr:=c215 s i hi (udec s i).1
  rw [hd] at hwr
  generalize udec s i = cw at hw hwr
  obtain ⟨c,w⟩:=cw
  simp only [h0,eES,Nat.reduceBEq]
  refine aops_call hwr rfl rfl rfl (.inl rfl) ?_
  by_cases hz : sz s i = 0
  ·simp only [hz,decide_true,hb,hbk,eES,Nat.reduceBEq,↓reduceIte]
  ·have hw:=hw hz
   simp only at hw
   have hle:=sz_le s i hlt hz
   simp only [hz,decide_false,eES,Nat.reduceBEq]
   exact ⟨k,by omega,_,_,i + sz s i,rfl,hle,by omega,by rw [hb,hbk,if_neg hz],(by first | rfl | exact h0 | simp only [h0,eES,eEX,Nat.reduceBEq,↓reduceIte,reduceCtorEq,Nat.reduceEqDiff]),(by first | rfl | exact h6 | simp only [h6,eES,eEX,Nat.reduceBEq,↓reduceIte,reduceCtorEq,Nat.reduceEqDiff]),by rw [← hw] <;> first | rfl | simp only [eES,eEX,Nat.reduceBEq,Int.reduceLE,Int.reduceLT,Int.reduceToNat,Int.reduceEq,↓reduceIte,reduceCtorEq,Nat.reducePow,Nat.reduceAdd,Nat.reduceLeDiff,Nat.reduceLT,Nat.reduceSub,Nat.reduceEqDiff]⟩
 ·have hbk : bad s k i = -1:=by
   cases k with
   | zero => rfl
   | succ k =>
    show (if i < s.length then _ else _) = _
    rw [if_neg (by omega)]
  simp only [hb,hbk,eES,Nat.reduceBEq,↓reduceIte]

theorem x100 (s : List UInt8) : Fn1 Tryz.prog 100 [.str s] (.bool (vld s)):=by
 refine fn1_of_awp (rc:=r100) (rs:=o100) Tryz.func100 rfl rfl Tryz.ntmps100 k100 q100 (by simp) ?_
 simp only [g100_0,g100_1,r100,o100,eES,Nat.reduceBEq]
 refine aops_call (x158 s) rfl rfl rfl (.inl rfl) ?_
 simp only [eES,Nat.reduceBEq,↓reduceIte]
 rfl

end Go.Proofs.YtelhohgmmhbahaaGreatDoor.Va

set_option linter.unusedSimpArgs false
namespace Go.Proofs.YtelhohgmmhbahaaGreatDoor.Va
open Go Am Rc Bt

def fitn (k : Int) (b : Nat) : Bool :=
 if k = 1 then decide ((b : Int) ≤ 1) else if k = 2 then decide (IntKind.i64.wrap (b : Int) ≥ -2147483648) && decide (IntKind.i64.wrap (b : Int) ≤ 2147483647)
 else if k = 4 then decide ((b : Int) < 4294967296) else if k = 9 then decide ((b : Int) < 2147483648) else true

theorem x288 (k : Int) (b : Nat) : Fn1 Tryz.prog 288 [.int .i64 k,.int .u64 (b : Nat)] (.bool (fitn k b)):=by
 have e1 : decide ((b : Int) ≤ 4294967295) = decide ((b : Int) < 4294967296):=by rw [decide_eq_decide]; omega
 have e2 : decide ((b : Int) ≤ 2147483647) = decide ((b : Int) < 2147483648):=by rw [decide_eq_decide]; omega
 refine fn1_of_awp (rc:=r288) (rs:=o288) Tryz.func288 rfl rfl Tryz.ntmps288 k288 q288 (by simp) ?_
 simp only [g288_0,g288_1,g288_2,g288_3,g288_4,g288_5,g288_6,g288_7,g288_8,g288_9,g288_10,g288_11,r288,o288,eES,Nat.reduceBEq,↓reduceIte]
 unfold fitn
 by_cases h1 : k = 1
 ·subst h1
  have b1 : ((1 : Int) == 1) = true:=rfl
  simp only [b1,eES,Nat.reduceBEq,↓reduceIte]
 ·have b1 : (k == 1) = false:=by simp [h1]
  by_cases h2 : k = 2
  ·subst h2
   have b2 : ((2 : Int) == 2) = true:=rfl
   simp only [b1,b2,h1,eES,Nat.reduceBEq,↓reduceIte,Nat.reduceEqDiff]
   cases hd : decide (IntKind.i64.wrap (b : Int) ≥ -2147483648) <;> simp only [Bool.true_and,Bool.false_and,eES,Nat.reduceBEq,↓reduceIte]
  ·have b2 : (k == 2) = false:=by simp [h2]
   by_cases h9 : k = 9
   ·subst h9
    have b9 : ((9 : Int) == 9) = true:=rfl
    simp only [b1,b2,b9,h1,h2,e2,eES,Nat.reduceBEq,Int.reduceEq,↓reduceIte,Nat.reduceEqDiff]
   ·have b9 : (k == 9) = false:=by simp [h9]
    by_cases h4 : k = 4
    ·subst h4
     have b4 : ((4 : Int) == 4) = true:=rfl
     simp only [b1,b2,b9,b4,h1,h2,e1,eES,Nat.reduceBEq,↓reduceIte,Nat.reduceEqDiff]
    ·have b4 : (k == 4) = false:=by simp [h4]
     simp only [b1,b2,b9,b4,h1,h2,h4,h9,eES,Nat.reduceBEq,↓reduceIte,reduceCtorEq]

end Go.Proofs.YtelhohgmmhbahaaGreatDoor.Va

namespace Go.Proofs.YtelhohgmmhbahaaGreatDoor.Ev
open Go Am Rc

def tab : Tab:=fun k => match k with
 | 22 => some (r22,o22,27)
 | 64 => some (r64,o64,21)
 | 10 => some (r10,o10,40)
 | 21 => some (r21,o21,45)
 | 8 => some (r8,o8,32)
 | 61 => some (r61,o61,7)
 | 62 => some (r62,o62,68)
 | 18 => some (r18,o18,77)
 | 138 => some (r138,o138,99)
 | 139 => some (r139,o139,12)
 | 140 => some (r140,o140,19)
 | 141 => some (r141,o141,9)
 | 142 => some (r142,o142,19)
 | 144 => some (r144,o144,18)
 | 49 => some (r49,o49,74)
 | 51 => some (r51,o51,9)
 | 195 => some (r195,o195,56)
 | 196 => some (r196,o196,27)
 | 197 => some (r197,o197,20)
 | 198 => some (r198,o198,19)
 | 199 => some (r199,o199,42)
 | 200 => some (r200,o200,79)
 | 203 => some (r203,o203,19)
 | 207 => some (r207,o207,8)
 | 132 => some (r132,o132,19)
 | 148 => some (r148,o148,9)
 | 244 => some (r244,o244,19)
 | 245 => some (r245,o245,30)
 | 247 => some (r247,o247,11)
 | 248 => some (r248,o248,112)
 | 249 => some (r249,o249,52)
 | 250 => some (r250,o250,15)
 | 251 => some (r251,o251,11)
 | 252 => some (r252,o252,10)
 | 157 => some (r157,o157,8)
 | 255 => some (r255,o255,19)
 | 209 => some (r209,o209,19)
 | 274 => some (r274,o274,8)
 | 147 => some (r147,o147,19)
 | 149 => some (r149,o149,8)
 | 150 => some (r150,o150,27)
 | 275 => some (r275,o275,12)
 | 277 => some (r277,o277,19)
 | 278 => some (r278,o278,57)
 | 279 => some (r279,o279,50)
 | 280 => some (r280,o280,59)
 | 105 => some (r105,o105,31)
 | 152 => some (r152,o152,36)
 | 213 => some (r213,o213,9)
 | 210 => some (r210,o210,66)
 | 295 => some (r295,o295,9)
 | 300 => some (r300,o300,34)
 | 211 => some (r211,o211,27)
 | 260 => some (r260,o260,19)
 | 258 => some (r258,o258,34)
 | 308 => some (r308,o308,19)
 | _ => none

theorem tab_ok : TabOk Tryz.prog tab:=by
 intro k c rs N h
 unfold tab at h
 split at h
 ·cases h; exact ⟨Tryz.f22,_,Tryz.func22,rfl,rfl,Tryz.ntmps22,k22,q22⟩
 ·cases h; exact ⟨Tryz.f64,_,Tryz.func64,rfl,rfl,Tryz.ntmps64,k64,q64⟩
 ·cases h; exact ⟨Tryz.f10,_,Tryz.func10,rfl,rfl,Tryz.ntmps10,k10,q10⟩
 ·cases h; exact ⟨Tryz.f21,_,Tryz.func21,rfl,rfl,Tryz.ntmps21,k21,q21⟩
 ·cases h; exact ⟨Tryz.f8,_,Tryz.func8,rfl,rfl,Tryz.ntmps8,k8,q8⟩
 ·cases h; exact ⟨Tryz.f61,_,Tryz.func61,rfl,rfl,Tryz.ntmps61,k61,q61⟩
 ·cases h; exact ⟨Tryz.f62,_,Tryz.func62,rfl,rfl,Tryz.ntmps62,k62,q62⟩
 ·cases h; exact ⟨Tryz.f18,_,Tryz.func18,rfl,rfl,Tryz.ntmps18,k18,q18⟩
 ·cases h; exact ⟨Tryz.f138,_,Tryz.func138,rfl,rfl,Tryz.ntmps138,k138,q138⟩
 ·cases h; exact ⟨Tryz.f139,_,Tryz.func139,rfl,rfl,Tryz.ntmps139,k139,q139⟩
 ·cases h; exact ⟨Tryz.f140,_,Tryz.func140,rfl,rfl,Tryz.ntmps140,k140,q140⟩
 ·cases h; exact ⟨Tryz.f141,_,Tryz.func141,rfl,rfl,Tryz.ntmps141,k141,q141⟩
 ·cases h; exact ⟨Tryz.f142,_,Tryz.func142,rfl,rfl,Tryz.ntmps142,k142,q142⟩
 ·cases h; exact ⟨Tryz.f144,_,Tryz.func144,rfl,rfl,Tryz.ntmps144,k144,q144⟩
 ·cases h; exact ⟨Tryz.f49,_,Tryz.func49,rfl,rfl,Tryz.ntmps49,k49,q49⟩
 ·cases h; exact ⟨Tryz.f51,_,Tryz.func51,rfl,rfl,Tryz.ntmps51,k51,q51⟩
 ·cases h; exact ⟨Tryz.f195,_,Tryz.func195,rfl,rfl,Tryz.ntmps195,k195,q195⟩
 ·cases h; exact ⟨Tryz.f196,_,Tryz.func196,rfl,rfl,Tryz.ntmps196,k196,q196⟩
 ·cases h; exact ⟨Tryz.f197,_,Tryz.func197,rfl,rfl,Tryz.ntmps197,k197,q197⟩
 ·cases h; exact ⟨Tryz.f198,_,Tryz.func198,rfl,rfl,Tryz.ntmps198,k198,q198⟩
 ·cases h; exact ⟨Tryz.f199,_,Tryz.func199,rfl,rfl,Tryz.ntmps199,k199,q199⟩
 ·cases h; exact ⟨Tryz.f200,_,Tryz.func200,rfl,rfl,Tryz.ntmps200,k200,q200⟩
 ·cases h; exact ⟨Tryz.f203,_,Tryz.func203,rfl,rfl,Tryz.ntmps203,k203,q203⟩
 ·cases h; exact ⟨Tryz.f207,_,Tryz.func207,rfl,rfl,Tryz.ntmps207,k207,q207⟩
 ·cases h; exact ⟨Tryz.f132,_,Tryz.func132,rfl,rfl,Tryz.ntmps132,k132,q132⟩
 ·cases h; exact ⟨Tryz.f148,_,Tryz.func148,rfl,rfl,Tryz.ntmps148,k148,q148⟩
 ·cases h; exact ⟨Tryz.f244,_,Tryz.func244,rfl,rfl,Tryz.ntmps244,k244,q244⟩
 ·cases h; exact ⟨Tryz.f245,_,Tryz.func245,rfl,rfl,Tryz.ntmps245,k245,q245⟩
 ·cases h; exact ⟨Tryz.f247,_,Tryz.func247,rfl,rfl,Tryz.ntmps247,k247,q247⟩
 ·cases h; exact ⟨Tryz.f248,_,Tryz.func248,rfl,rfl,Tryz.ntmps248,k248,q248⟩
 ·cases h; exact ⟨Tryz.f249,_,Tryz.func249,rfl,rfl,Tryz.ntmps249,k249,q249⟩
 ·cases h; exact ⟨Tryz.f250,_,Tryz.func250,rfl,rfl,Tryz.ntmps250,k250,q250⟩
 ·cases h; exact ⟨Tryz.f251,_,Tryz.func251,rfl,rfl,Tryz.ntmps251,k251,q251⟩
 ·cases h; exact ⟨Tryz.f252,_,Tryz.func252,rfl,rfl,Tryz.ntmps252,k252,q252⟩
 ·cases h; exact ⟨Tryz.f157,_,Tryz.func157,rfl,rfl,Tryz.ntmps157,k157,q157⟩
 ·cases h; exact ⟨Tryz.f255,_,Tryz.func255,rfl,rfl,Tryz.ntmps255,k255,q255⟩
 ·cases h; exact ⟨Tryz.f209,_,Tryz.func209,rfl,rfl,Tryz.ntmps209,k209,q209⟩
 ·cases h; exact ⟨Tryz.f274,_,Tryz.func274,rfl,rfl,Tryz.ntmps274,k274,q274⟩
 ·cases h; exact ⟨Tryz.f147,_,Tryz.func147,rfl,rfl,Tryz.ntmps147,k147,q147⟩
 ·cases h; exact ⟨Tryz.f149,_,Tryz.func149,rfl,rfl,Tryz.ntmps149,k149,q149⟩
 ·cases h; exact ⟨Tryz.f150,_,Tryz.func150,rfl,rfl,Tryz.ntmps150,k150,q150⟩
 ·cases h; exact ⟨Tryz.f275,_,Tryz.func275,rfl,rfl,Tryz.ntmps275,k275,q275⟩
 ·cases h; exact ⟨Tryz.f277,_,Tryz.func277,rfl,rfl,Tryz.ntmps277,k277,q277⟩
 ·cases h; exact ⟨Tryz.f278,_,Tryz.func278,rfl,rfl,Tryz.ntmps278,k278,q278⟩
 ·cases h; exact ⟨Tryz.f279,_,Tryz.func279,rfl,rfl,Tryz.ntmps279,k279,q279⟩
 ·cases h; exact ⟨Tryz.f280,_,Tryz.func280,rfl,rfl,Tryz.ntmps280,k280,q280⟩
 ·cases h; exact ⟨Tryz.f105,_,Tryz.func105,rfl,rfl,Tryz.ntmps105,k105,q105⟩
 ·cases h; exact ⟨Tryz.f152,_,Tryz.func152,rfl,rfl,Tryz.ntmps152,k152,q152⟩
 ·cases h; exact ⟨Tryz.f213,_,Tryz.func213,rfl,rfl,Tryz.ntmps213,k213,q213⟩
 ·cases h; exact ⟨Tryz.f210,_,Tryz.func210,rfl,rfl,Tryz.ntmps210,k210,q210⟩
 ·cases h; exact ⟨Tryz.f295,_,Tryz.func295,rfl,rfl,Tryz.ntmps295,k295,q295⟩
 ·cases h; exact ⟨Tryz.f300,_,Tryz.func300,rfl,rfl,Tryz.ntmps300,k300,q300⟩
 ·cases h; exact ⟨Tryz.f211,_,Tryz.func211,rfl,rfl,Tryz.ntmps211,k211,q211⟩
 ·cases h; exact ⟨Tryz.f260,_,Tryz.func260,rfl,rfl,Tryz.ntmps260,k260,q260⟩
 ·cases h; exact ⟨Tryz.f258,_,Tryz.func258,rfl,rfl,Tryz.ntmps258,k258,q258⟩
 ·cases h; exact ⟨Tryz.f308,_,Tryz.func308,rfl,rfl,Tryz.ntmps308,k308,q308⟩
 ·cases h

end Go.Proofs.YtelhohgmmhbahaaGreatDoor.Ev

namespace Go.Proofs.YtelhohgmmhbahaaGreatDoor.Ev
open Go Am Rc

def nat : Cal:=fun _ _ _ => none

theorem nat_ok : CalOk Tryz.prog nat:=by
 intro k args m v m' h
 cases h

end Go.Proofs.YtelhohgmmhbahaaGreatDoor.Ev

namespace Go.Proofs.YtelhohgmmhbahaaGreatDoor.Ev
open Go Am Rc

theorem awake_run : evT nat tab 3000 10 [] = true:=by decide +kernel

theorem awake_ok : Fn1 Tryz.prog 10 [] (.bool true):=fn1_of_evT nat_ok tab_ok awake_run

end Go.Proofs.YtelhohgmmhbahaaGreatDoor.Ev

set_option linter.unusedSimpArgs false
namespace Go.Proofs.YtelhohgmmhbahaaGreatDoor.Va
open Go Am Rc Bt

def vo (k : Int) (b : Nat) (t : List UInt8) (l p s r : List AV) : AV:=.agg [.int .i64 k,.int .u64 (b : Nat),.str t,.list l,.list p,.list s,.list r]

section
variable (k : Int) (b : Nat) (t : List UInt8) (l p s r : List AV)

def lon : Bool:=(l.length : Int) == 0 && (p.length : Int) == 0 && (s.length : Int) == 0 && (r.length : Int) == 0
theorem y190 : Fn1 Tryz.prog 190 [vo k b t l p s r] (.bool (lon l p s r)):=by
 refine fn1_of_awp (rc:=r190) (rs:=o190) Tryz.func190 rfl rfl Tryz.ntmps190 k190 q190 (by simp) ?_
 simp only [g190_0,g190_1,r190,o190,vo,lon,eES,eEX,Nat.reduceBEq,↓reduceIte,Nat.reduceAdd]
 cases h0 : ((l.length : Int) == 0) <;> cases h1 : ((p.length : Int) == 0) <;> cases h2 : ((s.length : Int) == 0) <;> simp only [h1,h2,Bool.true_and,Bool.false_and,eES,eEX,Nat.reduceBEq,↓reduceIte,Nat.reduceAdd]

theorem y179 (hl : l.length ≤ 140737488351232) (hp : p.length ≤ 140737488351232) (hs : s.length ≤ 140737488351232) (hr : r.length ≤ 140737488351232) :
  Fn1 Tryz.prog 179 [vo k b t l p s r] (.bool (lon l p s r && (if txk k = true then (b : Int) == 0 else t == []))):=by
 refine fn1_of_awp (rc:=r179) (rs:=o179) Tryz.func179 rfl rfl Tryz.ntmps179 k179 q179 (by simp) ?_
 have w : IntKind.i64.wrap (IntKind.i64.wrap (IntKind.i64.wrap ((l.length : Int) + (p.length : Int)) + (s.length : Int)) + (r.length : Int)) = (l.length + p.length + s.length + r.length : Nat):=by
  simp only [wi64]; omega
 simp only [g179_0,g179_1,g179_2,g179_3,g179_4,g179_5,r179,o179,vo,w,eES,eEX,Nat.reduceBEq,↓reduceIte,Nat.reduceAdd]
 by_cases h : l.length + p.length + s.length + r.length = 0
 ·have d : decide (((l.length + p.length + s.length + r.length : Nat) : Int) > 0) = false:=decide_eq_false (by omega)
  have e : lon l p s r = true:=by
   unfold lon
   simp only [Bool.and_eq_true,beq_iff_eq]
   omega
  simp only [d,e,Bool.true_and,eES,eEX,Nat.reduceBEq,Nat.reduceAdd]
  refine aops_call (x235 k) rfl rfl rfl (.inl rfl) ?_
  cases txk k
  ·simp only [Bool.false_eq_true,astr,eES,eEX,Nat.reduceBEq,↓reduceIte,Nat.reduceAdd]
  ·simp only [eES,eEX,Nat.reduceBEq,↓reduceIte,Nat.reduceAdd]
 ·have d : decide (((l.length + p.length + s.length + r.length : Nat) : Int) > 0) = true:=decide_eq_true (by omega)
  have e : lon l p s r = false:=by
   unfold lon
   rw [Bool.eq_false_iff]
   simp only [ne_eq,Bool.and_eq_true,beq_iff_eq]
   omega
  simp only [d,e,Bool.false_and,eES,Nat.reduceBEq]

end

end Go.Proofs.YtelhohgmmhbahaaGreatDoor.Va

set_option linter.unusedSimpArgs false
namespace Go.Proofs.YtelhohgmmhbahaaGreatDoor.Va
open Go Am Rc Bt Br

def key (o : PO) : Bool:=if o.card = 5 then decide (o.key ≥ 1) && decide (o.key ≤ 7) && o.key != 6 else o.key == 0
def aim (P : PL) (o : PO) : Bool :=
 if o.kind = 10 then decide (o.target ≥ 0) && decide (o.target < (P.progs.length : Int)) && o.card != 3
 else if o.kind = 9 then decide (o.target ≥ 0) && decide (o.target < (P.enums.length : Int)) else isk o.kind && o.target == -1
def arg1 (P : PL) (o : PO) : Bool:=vld o.alias && decide ((o.alias.length : Int) ≤ 4096) && decide (o.card ≥ 1) && decide (o.card ≤ 5) && key o && aim P o
def uok (o : PO) : Bool:=o.union == -1 || o.card == 2
def joinU : List PO → Int → Int → Option Int
 | [],n,_ => some n
 | o :: l,n,b => if o.union = n then joinU l (n + 1) n else if o.union = -1 ∨ o.union = b then joinU l n o.union else none
def uniB (g : PG) : Bool:=match joinU g.ops 0 (-1) with
 | some n => g.unions == n
 | none => false
def fitv (k kd : Int) (b : Nat) (t : List UInt8) (l p s r : List AV) : Bool :=
 isk k && kd == k && lon l p s r && (if txk kd = true then (b : Int) == 0 else t == []) && fitn k b && decide ((t.length : Int) ≤ 4096) && (k != 7 || vld t)
def alias : List UInt8:=[97,108,105,97,115]
def nok : List AV → Bool
 | [.int _ kd,.int _ b,.str t,.list l,.list p,.list s,.list r] => fitv 7 kd b.toNat t l p s r
 | _ => false
def nte (i : PI) : Bool:=match i.notes with
 | [] => true
 | [n] => n.name == alias && nok n.val
 | _ => false
def argG (P : PL) (g : PG) : Bool:=uniB g && g.ops.all fun o => arg1 P o && uok o
def argE (x : PE) : Bool:=x.notes.isEmpty && x.items.all nte
def args (P : PL) : Bool:=P.progs.all (argG P) && P.enums.all argE

theorem z263 (k kd : Int) (b : Nat) (t : List UInt8) (l p s r : List AV) (hl : l.length ≤ 140737488351232) (hp : p.length ≤ 140737488351232) (hs : s.length ≤ 140737488351232) (hr : r.length ≤ 140737488351232) :
  Fn1 Tryz.prog 263 [.int .i64 k,vo kd b t l p s r] (.bool (fitv k kd b t l p s r)):=by
 have hle:=y179 kd b t l p s r hl hp hs hr
 have hw:=x288 k b
 simp only [vo] at hle
 have n1 : (kd != k) = !(kd == k):=rfl
 have n2 : (k != 7) = !(k == 7):=rfl
 have n3 : decide ((t.length : Int) > 4096) = !decide ((t.length : Int) ≤ 4096):=(by rw [Bool.eq_iff_iff]; simp only [decide_eq_true_eq,Bool.not_eq_true',decide_eq_false_iff_not]; omega)
 refine fn1_of_awp (rc:=r263) (rs:=o263) Tryz.func263 rfl rfl Tryz.ntmps263 k263 q263 (by simp) ?_
 simp only [g263_0,g263_1,g263_2,g263_3,r263,o263,vo,fitv,n2,eES,eEX,Nat.reduceBEq]
 refine aops_call (x159 k) rfl rfl rfl (.inl rfl) ?_
 cases isk k
 ·simp only [Bool.false_and,Bool.not_false,eES,Nat.reduceBEq]
 simp only [Bool.true_and,Bool.not_true,n1,eES,eEX,Nat.reduceBEq,↓reduceIte,Nat.reduceAdd]
 cases a1 : (kd == k)
 ·simp only [Bool.false_and,Bool.not_false,eES,Nat.reduceBEq]
 simp only [Bool.true_and,Bool.not_true,eES,eEX,Nat.reduceBEq,↓reduceIte,Nat.reduceAdd,Nat.reduceLeDiff]
 refine aops_call hle rfl rfl rfl (.inl rfl) ?_
 cases (lon l p s r && (if txk kd = true then (b : Int) == 0 else t == []))
 ·simp only [Bool.false_and,Bool.not_false,eES,Nat.reduceBEq]
 simp only [Bool.true_and,Bool.not_true,eES,eEX,Nat.reduceBEq,Nat.reduceAdd]
 refine aops_call hw rfl rfl rfl (.inl rfl) ?_
 cases fitn k b
 ·simp only [Bool.false_and,Bool.not_false,eES,Nat.reduceBEq]
 simp only [Bool.true_and,Bool.not_true,n3,eES,eEX,Nat.reduceBEq,↓reduceIte,Nat.reduceAdd]
 cases a2 : decide ((t.length : Int) ≤ 4096)
 ·simp only [Bool.false_and,Bool.not_false,eES,Nat.reduceBEq]
 simp only [Bool.true_and,Bool.not_true,n2,eES,Nat.reduceBEq,↓reduceIte]
 cases a3 : (k == 7)
 ·simp only [Bool.not_false,Bool.true_or,eES,Nat.reduceBEq]
 ·simp only [Bool.not_true,Bool.false_or,eES,eEX,Nat.reduceBEq,Nat.reduceAdd]
  refine aops_call (x100 t) rfl rfl rfl (.inl rfl) ?_
  simp only [eES,Nat.reduceBEq]

section
variable (P : PL)

theorem joinU_drop {l : List PO} {i : Nat} {o : PO} (h : l[i]? = some o) (n b : Int) : joinU (l.drop i) n b = if o.union = n then joinU (l.drop (i + 1)) (n + 1) n else if o.union = -1 ∨ o.union = b then joinU (l.drop (i + 1)) n o.union else none:=by
 have hlt : i < l.length:=(List.getElem?_eq_some_iff.1 h).1
 rw [List.drop_eq_getElem_cons hlt,show l[i] = o from (List.getElem?_eq_some_iff.1 h).2]
 rfl

end

section
variable (kd : Int) (b : Nat) (t : List UInt8) (l p s r : List AV) (hl : l.length ≤ 140737488351232) (hp : p.length ≤ 140737488351232) (hs : s.length ≤ 140737488351232) (hr : r.length ≤ 140737488351232)

def nv : AV:=.agg [.str alias,.int .i64 kd,.int .u64 (b : Nat),.str t,.list l,.list p,.list s,.list r]

end

theorem v0_of {M : Nat} {n : PN} (h : n.ok Tryz.prog M 32) (hM : M ≤ 140737488351232) : ∃ kd b t l p s r,n.val = [.int .i64 kd,.int .u64 ((b : Nat) : Int),.str t,.list l,.list p,.list s,.list r] ∧ t.length ≤ M ∧ l.length ≤ 140737488351232 ∧ p.length ≤ 140737488351232 ∧ s.length ≤ 140737488351232 ∧ r.length ≤ 140737488351232:=by
 obtain ⟨_,k,hk⟩:=h
 obtain ⟨k,h⟩:=has_struct Tryz.underlying32 hk
 simp only [Has.HasL] at h
 obtain ⟨_,_,e,h0,_,_,rfl,h1,_,_,rfl,h2,_,_,rfl,h3,_,_,rfl,h4,_,_,rfl,h5,_,_,rfl,h6,rfl⟩:=h
 obtain ⟨a0,rfl,w0⟩:=has_int Tryz.underlying3 h0
 obtain ⟨a1,rfl,w1⟩:=has_int Tryz.underlying26 h1
 obtain ⟨a2,rfl,w2⟩:=has_str Tryz.underlying9 h2
 obtain ⟨_,l3,rfl,w3,_⟩:=has_sliceM Tryz.underlying27 h3
 obtain ⟨_,l4,rfl,w4,_⟩:=has_sliceM Tryz.underlying28 h4
 obtain ⟨_,l5,rfl,w5,_⟩:=has_sliceM Tryz.underlying29 h5
 obtain ⟨_,l6,rfl,w6,_⟩:=has_sliceM Tryz.underlying30 h6
 have hb : 0 ≤ a1:=u64_lo w1
 obtain ⟨b,rfl⟩:=Int.eq_ofNat_of_zero_le hb
 exact ⟨a0,b,a2,_,_,_,_,e,w2,by simp; omega,by simp; omega,by simp; omega,by simp; omega⟩

end Go.Proofs.YtelhohgmmhbahaaGreatDoor.Va

set_option linter.unusedSimpArgs false
namespace Go.Proofs.YtelhohgmmhbahaaGreatDoor.Va
open Go Am Rc Bt Br

def need (B : List Bool) (o : PO) : Bool:=o.card == 1 && o.kind == 10 && !(B[o.target.toNat]?.getD false)
def stp (G : List PG) (B : List Bool) (i : Nat) : List Bool:=match G[i]? with
 | some g => B.set i (!g.ops.any (need B))
 | none => B
def rnd (G : List PG) (B : List Bool) : Nat → List Bool
 | 0 => B
 | i + 1 => stp G (rnd G B i) i
def its (G : List PG) : Nat → List Bool
 | 0 => List.replicate G.length false
 | c + 1 => rnd G (its G c) G.length
def fin (P : PL) : Bool:=(its P.progs P.progs.length).all id

def Tgt (P : PL) : Prop:=∀ g ∈ P.progs,∀ o ∈ g.ops,o.kind = 10 → 0 ≤ o.target ∧ o.target < (P.progs.length : Int)

theorem stp_len (G : List PG) (B : List Bool) (i : Nat) : (stp G B i).length = B.length:=by
 unfold stp
 split <;> simp
theorem rnd_len (G : List PG) (B : List Bool) : ∀ i,(rnd G B i).length = B.length
 | 0 => rfl
 | i + 1 => by rw [rnd,stp_len,rnd_len G B i]
theorem its_len (G : List PG) : ∀ c,(its G c).length = G.length
 | 0 => by simp [its]
 | c + 1 => by rw [its,rnd_len,its_len G c]

structure En (P : PL) (c : Nat) (B : List Bool) (f : Fr) (fr : Nat → Ob) : Prop where
 h1 : f 1 = .ptr 0 1 0
 m1 : fr 1 = .cells [.list (P.progs.map gav),.list (P.enums.map eav)]
 h3 : f 3 = .ptr 0 3 0
 m3 : fr 3 = .cells [.vec 0 9 1 0 P.progs.length false]
 m9 : fr 9 = .vec 1 1 (B.map AV.bool)
 h12 : f 12 = .int .i64 (P.progs.length : Nat)
 h13 : f 13 = .int .i64 (c : Nat)
 r5 : ∀ s ∈ [5],(fr s).isRow = false

theorem En.drop {P : PL} {c : Nat} {B : List Bool} {f f' : Fr} {fr fr' : Nat → Ob} (h : En P c B f fr) (hf : ∀ i,f' i = scrs [5] (f i)) (hm : ∀ i,i ∉ [5] → fr' i = oscrs [5] (fr i)) (hn : ∀ i ∈ [5],fr' i = .none) : En P c B f' fr' where
 h1:=by rw [hf,h.h1] <;> rfl
 m1:=by rw [hm 1 (by decide),h.m1] <;> rfl
 h3:=by rw [hf,h.h3] <;> rfl
 m3:=by rw [hm 3 (by decide),h.m3] <;> rfl
 m9:=by rw [hm 9 (by decide),h.m9] <;> rfl
 h12:=by rw [hf,h.h12] <;> rfl
 h13:=by rw [hf,h.h13] <;> rfl
 r5:=fun s hs => by rw [hn s hs] <;> rfl

def ck (P : PL) : Int :=
 if lim P = false then 3 else if nam P = false then 8 else if ord P = false then 11 else if sin P = false then 9 else if rng P = false then 6 else if args P = false then 1 else if fin P = false then 19 else 0

theorem lim_progs {P : PL} (h : lim P = true) : P.progs.length ≤ 64 ∧ P.enums.length ≤ 64 ∧ (∀ g ∈ P.progs,g.ops.length ≤ 64) ∧ ∀ e ∈ P.enums,1 ≤ e.items.length ∧ e.items.length ≤ 64 ∧ e.free.length ≤ 16:=by
 unfold lim at h
 simp only [Bool.and_eq_true,decide_eq_true_eq,List.all_eq_true] at h
 obtain ⟨⟨⟨h1,h2⟩,h3⟩,h4⟩:=h
 refine ⟨h1,h2,fun g hg => ?_,fun e he => ?_⟩
 ·have:=h3 g hg
  unfold lim1 at this
  exact of_decide_eq_true this
 ·have:=h4 e he
  unfold lim2 at this
  simp only [Bool.and_eq_true,decide_eq_true_eq] at this
  exact ⟨this.1.1,this.1.2,this.2⟩

theorem args_tgt {P : PL} (h : args P = true) : Tgt P:=by
 intro g hg o ho hk
 unfold args at h
 simp only [Bool.and_eq_true,List.all_eq_true] at h
 have h1:=h.1 g hg
 unfold argG at h1
 simp only [Bool.and_eq_true,List.all_eq_true] at h1
 have h2:=(h1.2 o ho).1
 unfold arg1 at h2
 simp only [Bool.and_eq_true] at h2
 have h3:=h2.2
 unfold aim at h3
 rw [if_pos hk] at h3
 simp only [Bool.and_eq_true,decide_eq_true_eq] at h3
 exact ⟨h3.1.1,h3.1.2⟩

end Go.Proofs.YtelhohgmmhbahaaGreatDoor.Va

set_option linter.unusedSimpArgs false
namespace Go.Proofs.YtelhohgmmhbahaaGreatDoor.Va
open Go Am Rc Bt Br

def Pc (P : PL) : List AV:=[.list (P.progs.map gav),.list (P.enums.map eav)]

theorem acc_step (b : Bool) (q : Nat → Bool) (i : Nat) : (b && allU q (i + 1)) = ((b && allU q i) && q i):=by rw [allU,Bool.and_assoc]

section
variable {M : Nat} (P : PL) (hP : P.ok M) (fr : Nat → Ob) (m1 : fr 1 = .cells (Pc P)) (f : Fr) (b : Bool) (h1 : f 1 = .ptr 0 1 0) (h3 : f 3 = .bool b) (Q : Exit → St → Prop)
include hP m1 h1 h3

theorem lims_progs (ha : f 4 = .int .i64 0) (hx : ∀ f,f 1 = .ptr 0 1 0 → f 3 = .bool (b && P.progs.all lim1) → Q (.exit 0) (⟨f,[fr],[]⟩ : St)) : awp Tryz.prog (.loop l30_0) ⟨f,[fr],[]⟩ Q:=by
 let I : Nat → St → Prop:=fun k st => ∃ f i,st = ⟨f,[fr],[]⟩ ∧ k = P.progs.length - i ∧ i ≤ P.progs.length ∧ f 1 = .ptr 0 1 0 ∧ f 3 = .bool (b && (P.progs.take i).all lim1) ∧ f 4 = .int .i64 (i : Nat)
 refine awp_loop I _ ⟨f,0,rfl,rfl,Nat.zero_le _,h1,by rw [h3]; simp,ha⟩ ?_
 clear h1 h3 ha
 simp only [Pc] at m1
 rintro _ st ⟨f,i,rfl,rfl,hi,h1,h3,ha⟩
 simp only [l30_0,g30_3,g30_5,g30_4,List.length_map,h1,m1,ha,eES,eEX,Nat.reduceBEq,↓reduceIte,Nat.reduceAdd]
 by_cases hlt : i < P.progs.length
 ·obtain ⟨x,hg⟩ : ∃ x,P.progs[i]? = some x:=⟨P.progs[i],List.getElem?_eq_getElem hlt⟩
  have hgm : (P.progs.map gav)[i]? = some (.agg x.cells):=by simp [hg,gav]
  have e1:=wi64_s i _ hlt hP.len1
  have ht:=take_all (q:=lim1) hg
  have e3 : decide ((x.ops.length : Int) ≤ 64) = lim1 x:=by unfold lim1 ; exact (by rw [Bool.eq_iff_iff]; simp only [decide_eq_true_eq]; omega)
  have fin : ∀ f' : Fr,f' 1 = .ptr 0 1 0 → f' 3 = .bool ((b && (P.progs.take i).all lim1) && lim1 x) → f' 4 = .int .i64 ((i + 1 : Nat) : Int) → ∃ k,k < P.progs.length - i ∧ I k ⟨f',[fr],[]⟩:=by
   intro f' a1 a3 a4
   exact ⟨P.progs.length - (i + 1),by omega,f',i + 1,rfl,rfl,by omega,a1,by rw [a3,ht,Bool.and_assoc],a4⟩
  simp only [PG.cells] at hgm
  cases hb : (b && (P.progs.take i).all lim1)
  ·rw [hb] at fin h3
   simp only [lt_t hlt,h3,ha,e1,eES,Nat.reduceBEq,↓reduceIte]
   exact fin _ (by first | rfl | exact h1 | simp only [h1,eES,eEX,Nat.reduceBEq,↓reduceIte,reduceCtorEq,Nat.reduceEqDiff]) (by first | rfl | simp only [eES,eEX,Nat.reduceBEq,↓reduceIte,reduceCtorEq,Nat.reduceEqDiff]) (by first | rfl | simp only [eES,eEX,Nat.reduceBEq,↓reduceIte,reduceCtorEq,Nat.reduceEqDiff])
  ·rw [hb,Bool.true_and] at fin
   rw [hb] at h3
   skip
   all_goals
    try rw [c1] at e3
    try rw [c2] at e3
    simp only [lt_t hlt,nneg,Int.toNat_natCast,aiaddr,hgm,List.length_map,h1,m1,h3,ha,e1,e3,eES,eEX,Nat.reduceBEq,↓reduceIte,Nat.reduceAdd]
    exact fin _ (by first | rfl | exact h1 | simp only [h1,eES,eEX,Nat.reduceBEq,↓reduceIte,reduceCtorEq,Nat.reduceEqDiff]) (by rw [← e3] <;> first | rfl | simp only [eES,eEX,Nat.reduceBEq,Int.reduceLE,Int.reduceLT,Int.reduceToNat,Int.reduceEq,↓reduceIte,reduceCtorEq,Nat.reducePow,Nat.reduceAdd,Nat.reduceLeDiff,Nat.reduceLT,Nat.reduceSub,Nat.reduceEqDiff]) (by first | rfl | simp only [eES,eEX,Nat.reduceBEq,↓reduceIte,reduceCtorEq,Nat.reduceEqDiff])
 ·have hf : (P.progs.take i).all lim1 = P.progs.all lim1:=by rw [List.take_of_length_le (by omega)]
  rw [hf] at h3
  simp only [lt_f hlt,eES]
  exact hx _ (by first | rfl | exact h1 | simp only [h1,eES,eEX,Nat.reduceBEq,↓reduceIte,reduceCtorEq,Nat.reduceEqDiff]) (by first | rfl | exact h3 | simp only [h3,eES,eEX,Nat.reduceBEq,↓reduceIte,reduceCtorEq,Nat.reduceEqDiff])

theorem lims_enums (ha : f 5 = .int .i64 0) (hx : ∀ f,f 1 = .ptr 0 1 0 → f 3 = .bool (b && P.enums.all lim2) → Q (.exit 2) (⟨f,[fr],[]⟩ : St)) : awp Tryz.prog (.loop l30_1) ⟨f,[fr],[]⟩ Q:=by
 let I : Nat → St → Prop:=fun k st => ∃ f i,st = ⟨f,[fr],[]⟩ ∧ k = P.enums.length - i ∧ i ≤ P.enums.length ∧ f 1 = .ptr 0 1 0 ∧ f 3 = .bool (b && (P.enums.take i).all lim2) ∧ f 5 = .int .i64 (i : Nat)
 refine awp_loop I _ ⟨f,0,rfl,rfl,Nat.zero_le _,h1,by rw [h3]; simp,ha⟩ ?_
 clear h1 h3 ha
 simp only [Pc] at m1
 rintro _ st ⟨f,i,rfl,rfl,hi,h1,h3,ha⟩
 simp only [l30_1,g30_7,g30_9,g30_10,g30_8,List.length_map,h1,m1,ha,eES,eEX,Nat.reduceBEq,↓reduceIte,Nat.reduceAdd]
 by_cases hlt : i < P.enums.length
 ·obtain ⟨x,hg⟩ : ∃ x,P.enums[i]? = some x:=⟨P.enums[i],List.getElem?_eq_getElem hlt⟩
  have hgm : (P.enums.map eav)[i]? = some (.agg x.cells):=by simp [hg,eav]
  have e1:=wi64_s i _ hlt hP.len2
  have ht:=take_all (q:=lim2) hg
  have e3 : (decide ((x.items.length : Int) ≥ 1) && (decide ((x.items.length : Int) ≤ 64) && decide ((x.free.length : Int) ≤ 16))) = lim2 x:=by unfold lim2 ; exact (by rw [Bool.eq_iff_iff]; simp only [decide_eq_true_eq,Bool.and_eq_true]; omega)
  have fin : ∀ f' : Fr,f' 1 = .ptr 0 1 0 → f' 3 = .bool ((b && (P.enums.take i).all lim2) && lim2 x) → f' 5 = .int .i64 ((i + 1 : Nat) : Int) → ∃ k,k < P.enums.length - i ∧ I k ⟨f',[fr],[]⟩:=by
   intro f' a1 a3 a4
   exact ⟨P.enums.length - (i + 1),by omega,f',i + 1,rfl,rfl,by omega,a1,by rw [a3,ht,Bool.and_assoc],a4⟩
  simp only [PE.cells] at hgm
  cases hb : (b && (P.enums.take i).all lim2)
  ·rw [hb] at fin h3
   simp only [lt_t hlt,nneg,Int.toNat_natCast,aiaddr,hgm,List.length_map,h1,m1,h3,ha,e1,eES,eEX,Nat.reduceBEq,↓reduceIte,Nat.reduceAdd]
   exact fin _ (by first | rfl | exact h1 | simp only [h1,eES,eEX,Nat.reduceBEq,↓reduceIte,reduceCtorEq,Nat.reduceEqDiff]) (by first | rfl | simp only [eES,eEX,Nat.reduceBEq,↓reduceIte,reduceCtorEq,Nat.reduceEqDiff]) (by first | rfl | simp only [eES,eEX,Nat.reduceBEq,↓reduceIte,reduceCtorEq,Nat.reduceEqDiff])
  ·rw [hb,Bool.true_and] at fin
   rw [hb] at h3
   (cases c1 : decide ((x.items.length : Int) ≥ 1) <;> cases c2 : decide ((x.items.length : Int) ≤ 64))
   all_goals
    try rw [c1] at e3
    try rw [c2] at e3
    simp only [lt_t hlt,nneg,Int.toNat_natCast,aiaddr,hgm,List.length_map,h1,m1,h3,ha,e1,c1,c2,eES,eEX,Nat.reduceBEq,↓reduceIte,Nat.reduceAdd]
    exact fin _ (by first | rfl | exact h1 | simp only [h1,eES,eEX,Nat.reduceBEq,↓reduceIte,reduceCtorEq,Nat.reduceEqDiff]) (by rw [← e3] <;> first | rfl | simp only [eES,eEX,Nat.reduceBEq,Int.reduceLE,Int.reduceLT,Int.reduceToNat,Int.reduceEq,↓reduceIte,reduceCtorEq,Nat.reducePow,Nat.reduceAdd,Nat.reduceLeDiff,Nat.reduceLT,Nat.reduceSub,Nat.reduceEqDiff]) (by first | rfl | simp only [eES,eEX,Nat.reduceBEq,↓reduceIte,reduceCtorEq,Nat.reduceEqDiff])
 ·have hf : (P.enums.take i).all lim2 = P.enums.all lim2:=by rw [List.take_of_length_le (by omega)]
  rw [hf] at h3
  simp only [lt_f hlt,eES]
  exact hx _ (by first | rfl | exact h1 | simp only [h1,eES,eEX,Nat.reduceBEq,↓reduceIte,reduceCtorEq,Nat.reduceEqDiff]) (by first | rfl | exact h3 | simp only [h3,eES,eEX,Nat.reduceBEq,↓reduceIte,reduceCtorEq,Nat.reduceEqDiff])

theorem nami_progs (j : Nat) (x : PG) (hj : P.progs[j]? = some x) (ha : f 4 = .int .i64 (j : Nat)) (hc : f 5 = .int .i64 0) (hx : ∀ f,f 1 = .ptr 0 1 0 → f 3 = .bool (b && x.ops.all fun o => usab o.name) → f 4 = .int .i64 (j : Nat) → Q (.exit 2) (⟨f,[fr],[]⟩ : St)) : awp Tryz.prog (.loop l31_0) ⟨f,[fr],[]⟩ Q:=by
 let I : Nat → St → Prop:=fun k st => ∃ f i,st = ⟨f,[fr],[]⟩ ∧ k = x.ops.length - i ∧ i ≤ x.ops.length ∧ f 1 = .ptr 0 1 0 ∧ f 3 = .bool (b && (x.ops.take i).all fun o => usab o.name) ∧ f 4 = .int .i64 (j : Nat) ∧ f 5 = .int .i64 (i : Nat)
 have hjm : (P.progs.map gav)[j]? = some (.agg x.cells):=by simp [hj,gav]
 have hsl : x.ops.length ≤ maxLen:=(hP.progs x (List.mem_of_getElem? hj)).len
 refine awp_loop I _ ⟨f,0,rfl,rfl,Nat.zero_le _,h1,by rw [h3]; simp,ha,hc⟩ ?_
 clear h1 h3 ha hc
 simp only [Pc] at m1
 simp only [PG.cells] at hjm
 rintro _ st ⟨f,i,rfl,rfl,hi,h1,h3,ha,hc⟩
 simp only [l31_0,g31_7,g31_9,g31_8,nneg,Int.toNat_natCast,aiaddr,hjm,List.length_map,h1,m1,ha,hc,eES,eEX,Nat.reduceBEq,↓reduceIte,Nat.reduceAdd]
 by_cases hlt : i < x.ops.length
 ·obtain ⟨o,hg⟩ : ∃ o,x.ops[i]? = some o:=⟨x.ops[i],List.getElem?_eq_getElem hlt⟩
  have hgm : (x.ops.map fun o => AV.agg o.cells)[i]? = some (.agg o.cells):=by simp [hg]
  have e1:=wi64_s i _ hlt hsl
  have ht:=take_all (q:=fun o => usab o.name) hg
  have fin : ∀ f' : Fr,f' 1 = .ptr 0 1 0 → f' 3 = .bool ((b && (x.ops.take i).all fun o => usab o.name) && usab o.name) → f' 4 = .int .i64 (j : Nat) → f' 5 = .int .i64 ((i + 1 : Nat) : Int) → ∃ k,k < x.ops.length - i ∧ I k ⟨f',[fr],[]⟩:=by
   intro f' a1 a3 a4 a5
   exact ⟨x.ops.length - (i + 1),by omega,f',i + 1,rfl,rfl,by omega,a1,by rw [a3,ht,Bool.and_assoc],a4,a5⟩
  simp only [PO.cells] at hgm
  cases hb : (b && (x.ops.take i).all fun o => usab o.name)
  ·rw [hb] at fin h3
   simp only [lt_t hlt,PO.cells,h3,hc,e1,eES,Nat.reduceBEq,↓reduceIte]
   exact fin _ (by first | rfl | exact h1 | simp only [h1,eES,eEX,Nat.reduceBEq,↓reduceIte,reduceCtorEq,Nat.reduceEqDiff]) (by first | rfl | simp only [eES,eEX,Nat.reduceBEq,↓reduceIte,reduceCtorEq,Nat.reduceEqDiff]) (by first | rfl | exact ha | simp only [ha,eES,eEX,Nat.reduceBEq,↓reduceIte,reduceCtorEq,Nat.reduceEqDiff]) (by first | rfl | simp only [eES,eEX,Nat.reduceBEq,↓reduceIte,reduceCtorEq,Nat.reduceEqDiff])
  ·rw [hb,Bool.true_and] at fin
   rw [hb] at h3
   simp only [lt_t hlt,nneg,Int.toNat_natCast,aiaddr,hjm,hgm,PO.cells,h1,m1,h3,ha,hc,eES,eEX,Nat.reduceBEq,↓reduceIte,Nat.reduceAdd]
   refine aops_call (z109 o.name) rfl rfl rfl (.inl rfl) ?_
   simp only [hc,e1,eES,Nat.reduceBEq,↓reduceIte]
   exact fin _ (by first | rfl | exact h1 | simp only [h1,eES,eEX,Nat.reduceBEq,↓reduceIte,reduceCtorEq,Nat.reduceEqDiff]) (by first | rfl | simp only [eES,eEX,Nat.reduceBEq,↓reduceIte,reduceCtorEq,Nat.reduceEqDiff]) (by first | rfl | exact ha | simp only [ha,eES,eEX,Nat.reduceBEq,↓reduceIte,reduceCtorEq,Nat.reduceEqDiff]) (by first | rfl | simp only [eES,eEX,Nat.reduceBEq,↓reduceIte,reduceCtorEq,Nat.reduceEqDiff])
 ·have hf : (x.ops.take i).all (fun o => usab o.name) = x.ops.all fun o => usab o.name:=by rw [List.take_of_length_le (by omega)]
  rw [hf] at h3
  simp only [lt_f hlt,eES]
  exact hx _ (by first | rfl | exact h1 | simp only [h1,eES,eEX,Nat.reduceBEq,↓reduceIte,reduceCtorEq,Nat.reduceEqDiff]) (by first | rfl | exact h3 | simp only [h3,eES,eEX,Nat.reduceBEq,↓reduceIte,reduceCtorEq,Nat.reduceEqDiff]) (by first | rfl | exact ha | simp only [ha,eES,eEX,Nat.reduceBEq,↓reduceIte,reduceCtorEq,Nat.reduceEqDiff])

theorem namo_progs (ha : f 4 = .int .i64 0) (hx : ∀ f,f 1 = .ptr 0 1 0 → f 3 = .bool (b && P.progs.all nam1) → Q (.exit 0) (⟨f,[fr],[]⟩ : St)) : awp Tryz.prog (.loop l31_1) ⟨f,[fr],[]⟩ Q:=by
 let I : Nat → St → Prop:=fun k st => ∃ f i,st = ⟨f,[fr],[]⟩ ∧ k = P.progs.length - i ∧ i ≤ P.progs.length ∧ f 1 = .ptr 0 1 0 ∧ f 3 = .bool (b && (P.progs.take i).all nam1) ∧ f 4 = .int .i64 (i : Nat)
 have m1':=m1
 refine awp_loop I _ ⟨f,0,rfl,rfl,Nat.zero_le _,h1,by rw [h3]; simp,ha⟩ ?_
 clear h1 h3 ha
 simp only [Pc] at m1
 rintro _ st ⟨f,i,rfl,rfl,hi,h1,h3,ha⟩
 simp only [l31_1,g31_3,g31_5,g31_6,g31_4,List.length_map,h1,m1,ha,eES,eEX,Nat.reduceBEq,↓reduceIte,Nat.reduceAdd]
 by_cases hlt : i < P.progs.length
 ·obtain ⟨x,hg⟩ : ∃ x,P.progs[i]? = some x:=⟨P.progs[i],List.getElem?_eq_getElem hlt⟩
  have hgm : (P.progs.map gav)[i]? = some (.agg x.cells):=by simp [hg,gav]
  have e1:=wi64_s i _ hlt hP.len1
  have ht:=take_all (q:=nam1) hg
  have hq : nam1 x = (full x.name && x.ops.all fun o => usab o.name):=rfl
  have fin : ∀ f' : Fr,f' 1 = .ptr 0 1 0 → f' 3 = .bool (((b && (P.progs.take i).all nam1) && full x.name) && x.ops.all fun o => usab o.name) → f' 4 = .int .i64 ((i + 1 : Nat) : Int) → ∃ k,k < P.progs.length - i ∧ I k ⟨f',[fr],[]⟩:=by
   intro f' a1 a3 a4
   exact ⟨P.progs.length - (i + 1),by omega,f',i + 1,rfl,rfl,by omega,a1,by rw [a3,ht,hq,Bool.and_assoc,Bool.and_assoc],a4⟩
  simp only [PG.cells] at hgm
  cases hb : (b && (P.progs.take i).all nam1)
  ·rw [hb,Bool.false_and] at fin
   rw [hb] at h3
   simp only [lt_t hlt,h3,eES,Nat.reduceBEq]
   refine nami_progs P hP fr m1' _ false (by first | rfl | exact h1 | simp only [h1,eES,eEX,Nat.reduceBEq,↓reduceIte,reduceCtorEq,Nat.reduceEqDiff]) (by first | rfl | simp only [eES,eEX,Nat.reduceBEq,↓reduceIte,reduceCtorEq,Nat.reduceEqDiff]) _ i x hg (by first | rfl | exact ha | simp only [ha,eES,eEX,Nat.reduceBEq,↓reduceIte,reduceCtorEq,Nat.reduceEqDiff]) (by first | rfl | simp only [eES,eEX,Nat.reduceBEq,↓reduceIte,reduceCtorEq,Nat.reduceEqDiff]) (fun f h1 h3 ha => ?_)
   simp only [ha,e1,eES,Nat.reduceBEq,↓reduceIte]
   exact fin _ (by first | rfl | exact h1 | simp only [h1,eES,eEX,Nat.reduceBEq,↓reduceIte,reduceCtorEq,Nat.reduceEqDiff]) (by first | rfl | exact h3 | simp only [h3,eES,eEX,Nat.reduceBEq,↓reduceIte,reduceCtorEq,Nat.reduceEqDiff]) (by first | rfl | simp only [eES,eEX,Nat.reduceBEq,↓reduceIte,reduceCtorEq,Nat.reduceEqDiff])
  ·rw [hb,Bool.true_and] at fin
   rw [hb] at h3
   simp only [lt_t hlt,nneg,Int.toNat_natCast,aiaddr,hgm,h1,m1,h3,ha,eES,eEX,Nat.reduceBEq,↓reduceIte,Nat.reduceAdd]
   refine aops_call (z108 x.name) rfl rfl rfl (.inl rfl) ?_
   simp only [eES,Nat.reduceBEq]
   refine nami_progs P hP fr m1' _ (full x.name) (by first | rfl | exact h1 | simp only [h1,eES,eEX,Nat.reduceBEq,↓reduceIte,reduceCtorEq,Nat.reduceEqDiff]) (by first | rfl | simp only [eES,eEX,Nat.reduceBEq,↓reduceIte,reduceCtorEq,Nat.reduceEqDiff]) _ i x hg (by first | rfl | exact ha | simp only [ha,eES,eEX,Nat.reduceBEq,↓reduceIte,reduceCtorEq,Nat.reduceEqDiff]) (by first | rfl | simp only [eES,eEX,Nat.reduceBEq,↓reduceIte,reduceCtorEq,Nat.reduceEqDiff]) (fun f h1 h3 ha => ?_)
   simp only [ha,e1,eES,Nat.reduceBEq,↓reduceIte]
   exact fin _ (by first | rfl | exact h1 | simp only [h1,eES,eEX,Nat.reduceBEq,↓reduceIte,reduceCtorEq,Nat.reduceEqDiff]) (by first | rfl | exact h3 | simp only [h3,eES,eEX,Nat.reduceBEq,↓reduceIte,reduceCtorEq,Nat.reduceEqDiff]) (by first | rfl | simp only [eES,eEX,Nat.reduceBEq,↓reduceIte,reduceCtorEq,Nat.reduceEqDiff])
 ·have hf : (P.progs.take i).all nam1 = P.progs.all nam1:=by rw [List.take_of_length_le (by omega)]
  rw [hf] at h3
  simp only [lt_f hlt,eES]
  exact hx _ (by first | rfl | exact h1 | simp only [h1,eES,eEX,Nat.reduceBEq,↓reduceIte,reduceCtorEq,Nat.reduceEqDiff]) (by first | rfl | exact h3 | simp only [h3,eES,eEX,Nat.reduceBEq,↓reduceIte,reduceCtorEq,Nat.reduceEqDiff])

theorem nami_enums (j : Nat) (x : PE) (hj : P.enums[j]? = some x) (ha : f 6 = .int .i64 (j : Nat)) (hc : f 7 = .int .i64 0) (hx : ∀ f,f 1 = .ptr 0 1 0 → f 3 = .bool (b && x.items.all fun o => usab o.name) → f 6 = .int .i64 (j : Nat) → Q (.exit 6) (⟨f,[fr],[]⟩ : St)) : awp Tryz.prog (.loop l31_2) ⟨f,[fr],[]⟩ Q:=by
 let I : Nat → St → Prop:=fun k st => ∃ f i,st = ⟨f,[fr],[]⟩ ∧ k = x.items.length - i ∧ i ≤ x.items.length ∧ f 1 = .ptr 0 1 0 ∧ f 3 = .bool (b && (x.items.take i).all fun o => usab o.name) ∧ f 6 = .int .i64 (j : Nat) ∧ f 7 = .int .i64 (i : Nat)
 have hjm : (P.enums.map eav)[j]? = some (.agg x.cells):=by simp [hj,eav]
 have hsl : x.items.length ≤ maxLen:=(hP.enums x (List.mem_of_getElem? hj)).len1
 refine awp_loop I _ ⟨f,0,rfl,rfl,Nat.zero_le _,h1,by rw [h3]; simp,ha,hc⟩ ?_
 clear h1 h3 ha hc
 simp only [Pc] at m1
 simp only [PE.cells] at hjm
 rintro _ st ⟨f,i,rfl,rfl,hi,h1,h3,ha,hc⟩
 simp only [l31_2,g31_15,g31_17,g31_16,nneg,Int.toNat_natCast,aiaddr,hjm,List.length_map,h1,m1,ha,hc,eES,eEX,Nat.reduceBEq,↓reduceIte,Nat.reduceAdd]
 by_cases hlt : i < x.items.length
 ·obtain ⟨o,hg⟩ : ∃ o,x.items[i]? = some o:=⟨x.items[i],List.getElem?_eq_getElem hlt⟩
  have hgm : (x.items.map fun o => AV.agg o.cells)[i]? = some (.agg o.cells):=by simp [hg]
  have e1:=wi64_s i _ hlt hsl
  have ht:=take_all (q:=fun o => usab o.name) hg
  have fin : ∀ f' : Fr,f' 1 = .ptr 0 1 0 → f' 3 = .bool ((b && (x.items.take i).all fun o => usab o.name) && usab o.name) → f' 6 = .int .i64 (j : Nat) → f' 7 = .int .i64 ((i + 1 : Nat) : Int) → ∃ k,k < x.items.length - i ∧ I k ⟨f',[fr],[]⟩:=by
   intro f' a1 a3 a4 a5
   exact ⟨x.items.length - (i + 1),by omega,f',i + 1,rfl,rfl,by omega,a1,by rw [a3,ht,Bool.and_assoc],a4,a5⟩
  simp only [PI.cells] at hgm
  cases hb : (b && (x.items.take i).all fun o => usab o.name)
  ·rw [hb] at fin h3
   simp only [lt_t hlt,PI.cells,h3,hc,e1,eES,Nat.reduceBEq,↓reduceIte]
   exact fin _ (by first | rfl | exact h1 | simp only [h1,eES,eEX,Nat.reduceBEq,↓reduceIte,reduceCtorEq,Nat.reduceEqDiff]) (by first | rfl | simp only [eES,eEX,Nat.reduceBEq,↓reduceIte,reduceCtorEq,Nat.reduceEqDiff]) (by first | rfl | exact ha | simp only [ha,eES,eEX,Nat.reduceBEq,↓reduceIte,reduceCtorEq,Nat.reduceEqDiff]) (by first | rfl | simp only [eES,eEX,Nat.reduceBEq,↓reduceIte,reduceCtorEq,Nat.reduceEqDiff])
  ·rw [hb,Bool.true_and] at fin
   rw [hb] at h3
   simp only [lt_t hlt,nneg,Int.toNat_natCast,aiaddr,hjm,hgm,PI.cells,h1,m1,h3,ha,hc,eES,eEX,Nat.reduceBEq,↓reduceIte,Nat.reduceAdd]
   refine aops_call (z109 o.name) rfl rfl rfl (.inl rfl) ?_
   simp only [hc,e1,eES,Nat.reduceBEq,↓reduceIte]
   exact fin _ (by first | rfl | exact h1 | simp only [h1,eES,eEX,Nat.reduceBEq,↓reduceIte,reduceCtorEq,Nat.reduceEqDiff]) (by first | rfl | simp only [eES,eEX,Nat.reduceBEq,↓reduceIte,reduceCtorEq,Nat.reduceEqDiff]) (by first | rfl | exact ha | simp only [ha,eES,eEX,Nat.reduceBEq,↓reduceIte,reduceCtorEq,Nat.reduceEqDiff]) (by first | rfl | simp only [eES,eEX,Nat.reduceBEq,↓reduceIte,reduceCtorEq,Nat.reduceEqDiff])
 ·have hf : (x.items.take i).all (fun o => usab o.name) = x.items.all fun o => usab o.name:=by rw [List.take_of_length_le (by omega)]
  rw [hf] at h3
  simp only [lt_f hlt,eES]
  exact hx _ (by first | rfl | exact h1 | simp only [h1,eES,eEX,Nat.reduceBEq,↓reduceIte,reduceCtorEq,Nat.reduceEqDiff]) (by first | rfl | exact h3 | simp only [h3,eES,eEX,Nat.reduceBEq,↓reduceIte,reduceCtorEq,Nat.reduceEqDiff]) (by first | rfl | exact ha | simp only [ha,eES,eEX,Nat.reduceBEq,↓reduceIte,reduceCtorEq,Nat.reduceEqDiff])

theorem namo_enums (ha : f 6 = .int .i64 0) (hx : ∀ f,f 1 = .ptr 0 1 0 → f 3 = .bool (b && P.enums.all nam2) → Q (.exit 4) (⟨f,[fr],[]⟩ : St)) : awp Tryz.prog (.loop l31_3) ⟨f,[fr],[]⟩ Q:=by
 let I : Nat → St → Prop:=fun k st => ∃ f i,st = ⟨f,[fr],[]⟩ ∧ k = P.enums.length - i ∧ i ≤ P.enums.length ∧ f 1 = .ptr 0 1 0 ∧ f 3 = .bool (b && (P.enums.take i).all nam2) ∧ f 6 = .int .i64 (i : Nat)
 have m1':=m1
 refine awp_loop I _ ⟨f,0,rfl,rfl,Nat.zero_le _,h1,by rw [h3]; simp,ha⟩ ?_
 clear h1 h3 ha
 simp only [Pc] at m1
 rintro _ st ⟨f,i,rfl,rfl,hi,h1,h3,ha⟩
 simp only [l31_3,g31_11,g31_13,g31_14,g31_12,List.length_map,h1,m1,ha,eES,eEX,Nat.reduceBEq,↓reduceIte,Nat.reduceAdd]
 by_cases hlt : i < P.enums.length
 ·obtain ⟨x,hg⟩ : ∃ x,P.enums[i]? = some x:=⟨P.enums[i],List.getElem?_eq_getElem hlt⟩
  have hgm : (P.enums.map eav)[i]? = some (.agg x.cells):=by simp [hg,eav]
  have e1:=wi64_s i _ hlt hP.len2
  have ht:=take_all (q:=nam2) hg
  have hq : nam2 x = (full x.name && x.items.all fun o => usab o.name):=rfl
  have fin : ∀ f' : Fr,f' 1 = .ptr 0 1 0 → f' 3 = .bool (((b && (P.enums.take i).all nam2) && full x.name) && x.items.all fun o => usab o.name) → f' 6 = .int .i64 ((i + 1 : Nat) : Int) → ∃ k,k < P.enums.length - i ∧ I k ⟨f',[fr],[]⟩:=by
   intro f' a1 a3 a4
   exact ⟨P.enums.length - (i + 1),by omega,f',i + 1,rfl,rfl,by omega,a1,by rw [a3,ht,hq,Bool.and_assoc,Bool.and_assoc],a4⟩
  simp only [PE.cells] at hgm
  cases hb : (b && (P.enums.take i).all nam2)
  ·rw [hb,Bool.false_and] at fin
   rw [hb] at h3
   simp only [lt_t hlt,h3,eES,Nat.reduceBEq]
   refine nami_enums P hP fr m1' _ false (by first | rfl | exact h1 | simp only [h1,eES,eEX,Nat.reduceBEq,↓reduceIte,reduceCtorEq,Nat.reduceEqDiff]) (by first | rfl | simp only [eES,eEX,Nat.reduceBEq,↓reduceIte,reduceCtorEq,Nat.reduceEqDiff]) _ i x hg (by first | rfl | exact ha | simp only [ha,eES,eEX,Nat.reduceBEq,↓reduceIte,reduceCtorEq,Nat.reduceEqDiff]) (by first | rfl | simp only [eES,eEX,Nat.reduceBEq,↓reduceIte,reduceCtorEq,Nat.reduceEqDiff]) (fun f h1 h3 ha => ?_)
   simp only [ha,e1,eES,Nat.reduceBEq,↓reduceIte]
   exact fin _ (by first | rfl | exact h1 | simp only [h1,eES,eEX,Nat.reduceBEq,↓reduceIte,reduceCtorEq,Nat.reduceEqDiff]) (by first | rfl | exact h3 | simp only [h3,eES,eEX,Nat.reduceBEq,↓reduceIte,reduceCtorEq,Nat.reduceEqDiff]) (by first | rfl | simp only [eES,eEX,Nat.reduceBEq,↓reduceIte,reduceCtorEq,Nat.reduceEqDiff])
  ·rw [hb,Bool.true_and] at fin
   rw [hb] at h3
   simp only [lt_t hlt,nneg,Int.toNat_natCast,aiaddr,hgm,h1,m1,h3,ha,eES,eEX,Nat.reduceBEq,↓reduceIte,Nat.reduceAdd]
   refine aops_call (z108 x.name) rfl rfl rfl (.inl rfl) ?_
   simp only [eES,Nat.reduceBEq]
   refine nami_enums P hP fr m1' _ (full x.name) (by first | rfl | exact h1 | simp only [h1,eES,eEX,Nat.reduceBEq,↓reduceIte,reduceCtorEq,Nat.reduceEqDiff]) (by first | rfl | simp only [eES,eEX,Nat.reduceBEq,↓reduceIte,reduceCtorEq,Nat.reduceEqDiff]) _ i x hg (by first | rfl | exact ha | simp only [ha,eES,eEX,Nat.reduceBEq,↓reduceIte,reduceCtorEq,Nat.reduceEqDiff]) (by first | rfl | simp only [eES,eEX,Nat.reduceBEq,↓reduceIte,reduceCtorEq,Nat.reduceEqDiff]) (fun f h1 h3 ha => ?_)
   simp only [ha,e1,eES,Nat.reduceBEq,↓reduceIte]
   exact fin _ (by first | rfl | exact h1 | simp only [h1,eES,eEX,Nat.reduceBEq,↓reduceIte,reduceCtorEq,Nat.reduceEqDiff]) (by first | rfl | exact h3 | simp only [h3,eES,eEX,Nat.reduceBEq,↓reduceIte,reduceCtorEq,Nat.reduceEqDiff]) (by first | rfl | simp only [eES,eEX,Nat.reduceBEq,↓reduceIte,reduceCtorEq,Nat.reduceEqDiff])
 ·have hf : (P.enums.take i).all nam2 = P.enums.all nam2:=by rw [List.take_of_length_le (by omega)]
  rw [hf] at h3
  simp only [lt_f hlt,eES]
  exact hx _ (by first | rfl | exact h1 | simp only [h1,eES,eEX,Nat.reduceBEq,↓reduceIte,reduceCtorEq,Nat.reduceEqDiff]) (by first | rfl | exact h3 | simp only [h3,eES,eEX,Nat.reduceBEq,↓reduceIte,reduceCtorEq,Nat.reduceEqDiff])

theorem ordi_progs (j : Nat) (x : PG) (hj : P.progs[j]? = some x) (ha : f 4 = .int .i64 (j : Nat)) (hc : f 5 = .int .i64 1) (hx : ∀ f,f 1 = .ptr 0 1 0 → f 3 = .bool (b && ord1 x) → f 4 = .int .i64 (j : Nat) → Q (.exit 2) (⟨f,[fr],[]⟩ : St)) : awp Tryz.prog (.loop l32_0) ⟨f,[fr],[]⟩ Q:=by
 let I : Nat → St → Prop:=fun k st => ∃ f i,st = ⟨f,[fr],[]⟩ ∧ k = x.ops.length - i ∧ f 1 = .ptr 0 1 0 ∧ f 3 = .bool (b && allU (two x.ops (ordn PO.num)) (i + 1)) ∧ f 4 = .int .i64 (j : Nat) ∧ f 5 = .int .i64 ((i + 1 : Nat) : Int) ∧ (i + 1 ≤ x.ops.length ∨ i = 0)
 have hjm : (P.progs.map gav)[j]? = some (.agg x.cells):=by simp [hj,gav]
 have hsl : x.ops.length ≤ maxLen:=(hP.progs x (List.mem_of_getElem? hj)).len
 refine awp_loop I _ ⟨f,0,rfl,rfl,h1,by rw [h3]; simp [allU,two],ha,hc,.inr rfl⟩ ?_
 clear h1 h3 ha hc
 simp only [Pc] at m1
 simp only [PG.cells] at hjm
 rintro _ st ⟨f,i,rfl,rfl,h1,h3,ha,hc,hi⟩
 simp only [l32_0,g32_7,g32_9,g32_8,nneg,Int.toNat_natCast,aiaddr,hjm,List.length_map,h1,m1,ha,hc,eES,eEX,Nat.reduceBEq,↓reduceIte,Nat.reduceAdd]
 by_cases hlt : i + 1 < x.ops.length
 ·obtain ⟨o,hg⟩ : ∃ o,x.ops[i]? = some o:=⟨x.ops[i]'(by omega),List.getElem?_eq_getElem (by omega)⟩
  obtain ⟨o2,hg2⟩ : ∃ o,x.ops[i + 1]? = some o:=⟨x.ops[i + 1],List.getElem?_eq_getElem hlt⟩
  have hgm : (x.ops.map fun o => AV.agg o.cells)[i]? = some (.agg o.cells):=by simp [hg]
  have hgm2 : (x.ops.map fun o => AV.agg o.cells)[i + 1]? = some (.agg o2.cells):=by simp [hg2]
  have e1:=wi64_s (i + 1) _ hlt hsl
  have e2:=wp64 i _ hlt hsl
  have ht:=acc_step b (two x.ops (ordn PO.num)) (i + 1)
  rw [two_at hg hg2] at ht
  have hq : (ordn PO.num) o o2 = decide (o.num < o2.num):=rfl
  rw [hq] at ht
  have fin : ∀ f' : Fr,f' 1 = .ptr 0 1 0 → f' 3 = .bool ((b && allU (two x.ops (ordn PO.num)) (i + 1)) && decide (o.num < o2.num)) → f' 4 = .int .i64 (j : Nat) → f' 5 = .int .i64 ((i + 1 + 1 : Nat) : Int) → ∃ k,k < x.ops.length - i ∧ I k ⟨f',[fr],[]⟩:=by
   intro f' a1 a3 a4 a5
   exact ⟨x.ops.length - (i + 1),by omega,f',i + 1,rfl,rfl,a1,by rw [a3,ht],a4,a5,.inl (by omega)⟩
  simp only [PO.cells] at hgm hgm2
  cases hb : (b && allU (two x.ops (ordn PO.num)) (i + 1))
  ·rw [hb] at fin h3
   simp only [lt_t hlt,PO.cells,h3,hc,e1,eES,Nat.reduceBEq,↓reduceIte]
   exact fin _ (by first | rfl | exact h1 | simp only [h1,eES,eEX,Nat.reduceBEq,↓reduceIte,reduceCtorEq,Nat.reduceEqDiff]) (by first | rfl | simp only [eES,eEX,Nat.reduceBEq,↓reduceIte,reduceCtorEq,Nat.reduceEqDiff]) (by first | rfl | exact ha | simp only [ha,eES,eEX,Nat.reduceBEq,↓reduceIte,reduceCtorEq,Nat.reduceEqDiff]) (by first | rfl | simp only [eES,eEX,Nat.reduceBEq,↓reduceIte,reduceCtorEq,Nat.reduceEqDiff])
  ·rw [hb,Bool.true_and] at fin
   rw [hb] at h3
   simp only [lt_t hlt,nneg,Int.toNat_natCast,aiaddr,hjm,hgm,hgm2,PO.cells,h1,m1,h3,ha,hc,e1,e2,eES,eEX,Nat.reduceBEq,↓reduceIte,Nat.reduceAdd]
   exact fin _ (by first | rfl | exact h1 | simp only [h1,eES,eEX,Nat.reduceBEq,↓reduceIte,reduceCtorEq,Nat.reduceEqDiff]) (by first | rfl | simp only [eES,eEX,Nat.reduceBEq,↓reduceIte,reduceCtorEq,Nat.reduceEqDiff]) (by first | rfl | exact ha | simp only [ha,eES,eEX,Nat.reduceBEq,↓reduceIte,reduceCtorEq,Nat.reduceEqDiff]) (by first | rfl | simp only [eES,eEX,Nat.reduceBEq,↓reduceIte,reduceCtorEq,Nat.reduceEqDiff])
 ·have hf : allU (two x.ops (ordn PO.num)) (i + 1) = ord1 x:=by
   show _ = allU (two x.ops (ordn PO.num)) x.ops.length
   rcases hi with h | h
   ·rw [show i + 1 = x.ops.length by omega]
   ·subst h
    rcases Nat.eq_zero_or_pos x.ops.length with h0 | h0
    ·rw [h0]; rfl
    ·rw [show x.ops.length = 1 by omega]
  rw [hf] at h3
  simp only [lt_f hlt,eES]
  exact hx _ (by first | rfl | exact h1 | simp only [h1,eES,eEX,Nat.reduceBEq,↓reduceIte,reduceCtorEq,Nat.reduceEqDiff]) (by first | rfl | exact h3 | simp only [h3,eES,eEX,Nat.reduceBEq,↓reduceIte,reduceCtorEq,Nat.reduceEqDiff]) (by first | rfl | exact ha | simp only [ha,eES,eEX,Nat.reduceBEq,↓reduceIte,reduceCtorEq,Nat.reduceEqDiff])

theorem ordo_progs (ha : f 4 = .int .i64 0) (hx : ∀ f,f 1 = .ptr 0 1 0 → f 3 = .bool (b && (adj P.progs (ords PG.name) && P.progs.all ord1)) → Q (.exit 0) (⟨f,[fr],[]⟩ : St)) : awp Tryz.prog (.loop l32_1) ⟨f,[fr],[]⟩ Q:=by
 let q : Nat → Bool:=fun i => two P.progs (ords PG.name) i && ask P.progs ord1 i
 let I : Nat → St → Prop:=fun k st => ∃ f i,st = ⟨f,[fr],[]⟩ ∧ k = P.progs.length - i ∧ i ≤ P.progs.length ∧ f 1 = .ptr 0 1 0 ∧ f 3 = .bool (b && allU q i) ∧ f 4 = .int .i64 (i : Nat)
 have m1':=m1
 have hqa : allU q P.progs.length = (adj P.progs (ords PG.name) && P.progs.all ord1):=by
  show allU (fun i => two P.progs (ords PG.name) i && ask P.progs ord1 i) _ = _
  rw [allU_and,allU_ask]; rfl
 refine awp_loop I _ ⟨f,0,rfl,rfl,Nat.zero_le _,h1,by rw [h3]; simp [allU],ha⟩ ?_
 clear h1 h3 ha
 simp only [Pc] at m1
 rintro _ st ⟨f,i,rfl,rfl,hi,h1,h3,ha⟩
 simp only [l32_1,g32_3,g32_5,g32_6,g32_4,List.length_map,h1,m1,ha,eES,eEX,Nat.reduceBEq,↓reduceIte,Nat.reduceAdd]
 by_cases hlt : i < P.progs.length
 ·obtain ⟨x,hg⟩ : ∃ x,P.progs[i]? = some x:=⟨P.progs[i],List.getElem?_eq_getElem hlt⟩
  have hgm : (P.progs.map gav)[i]? = some (.agg x.cells):=by simp [hg,gav]
  have e1:=wi64_s i _ hlt hP.len1
  have ht:=acc_step b q i
  have hq : q i = (two P.progs (ords PG.name) i && ord1 x):=by show (_ && ask P.progs ord1 i) = _; rw [ask_at hg]
  rw [hq,← Bool.and_assoc] at ht
  have fin : ∀ f' : Fr,f' 1 = .ptr 0 1 0 → f' 3 = .bool (((b && allU q i) && two P.progs (ords PG.name) i) && ord1 x) → f' 4 = .int .i64 ((i + 1 : Nat) : Int) → ∃ k,k < P.progs.length - i ∧ I k ⟨f',[fr],[]⟩:=by
   intro f' a1 a3 a4
   exact ⟨P.progs.length - (i + 1),by omega,f',i + 1,rfl,rfl,by omega,a1,by rw [a3,ht],a4⟩
  simp only [PG.cells] at hgm
  cases hb : (b && allU q i)
  ·rw [hb,Bool.false_and] at fin
   rw [hb] at h3
   simp only [lt_t hlt,h3,eES,Nat.reduceBEq]
   refine ordi_progs P hP fr m1' _ false (by first | rfl | exact h1 | simp only [h1,eES,eEX,Nat.reduceBEq,↓reduceIte,reduceCtorEq,Nat.reduceEqDiff]) (by first | rfl | simp only [eES,eEX,Nat.reduceBEq,↓reduceIte,reduceCtorEq,Nat.reduceEqDiff]) _ i x hg (by first | rfl | exact ha | simp only [ha,eES,eEX,Nat.reduceBEq,↓reduceIte,reduceCtorEq,Nat.reduceEqDiff]) (by first | rfl | simp only [eES,eEX,Nat.reduceBEq,↓reduceIte,reduceCtorEq,Nat.reduceEqDiff]) (fun f h1 h3 ha => ?_)
   simp only [ha,e1,eES,Nat.reduceBEq,↓reduceIte]
   exact fin _ (by first | rfl | exact h1 | simp only [h1,eES,eEX,Nat.reduceBEq,↓reduceIte,reduceCtorEq,Nat.reduceEqDiff]) (by first | rfl | exact h3 | simp only [h3,eES,eEX,Nat.reduceBEq,↓reduceIte,reduceCtorEq,Nat.reduceEqDiff]) (by first | rfl | simp only [eES,eEX,Nat.reduceBEq,↓reduceIte,reduceCtorEq,Nat.reduceEqDiff])
  ·rw [hb,Bool.true_and] at fin
   rw [hb] at h3
   cases i with
   | zero =>
    have b0 : (((0 : Nat) : Int) == 0) = true:=rfl
    rw [two_zero] at fin
    simp only [lt_t hlt,b0,h3,ha,eES,Nat.reduceBEq,↓reduceIte]
    refine ordi_progs P hP fr m1' _ true (by first | rfl | exact h1 | simp only [h1,eES,eEX,Nat.reduceBEq,↓reduceIte,reduceCtorEq,Nat.reduceEqDiff]) (by first | rfl | simp only [eES,eEX,Nat.reduceBEq,↓reduceIte,reduceCtorEq,Nat.reduceEqDiff]) _ 0 x hg (by first | rfl | exact ha | simp only [ha,eES,eEX,Nat.reduceBEq,↓reduceIte,reduceCtorEq,Nat.reduceEqDiff]) (by first | rfl | simp only [eES,eEX,Nat.reduceBEq,↓reduceIte,reduceCtorEq,Nat.reduceEqDiff]) (fun f h1 h3 ha => ?_)
    simp only [ha,e1,eES,Nat.reduceBEq,↓reduceIte,Nat.reduceAdd]
    exact fin _ (by first | rfl | exact h1 | simp only [h1,eES,eEX,Nat.reduceBEq,↓reduceIte,reduceCtorEq,Nat.reduceEqDiff]) (by first | rfl | exact h3 | simp only [h3,eES,eEX,Nat.reduceBEq,↓reduceIte,reduceCtorEq,Nat.reduceEqDiff]) (by first | rfl | simp only [eES,eEX,Nat.reduceBEq,↓reduceIte,reduceCtorEq,Nat.reduceEqDiff])
   | succ j =>
    obtain ⟨y,hgj⟩ : ∃ y,P.progs[j]? = some y:=⟨P.progs[j]'(by omega),List.getElem?_eq_getElem (by omega)⟩
    have hgjm : (P.progs.map gav)[j]? = some (.agg y.cells):=by simp [hgj,gav]
    have b0 : (((j + 1 : Nat) : Int) == 0) = false:=by rw [beq_eq_false_iff_ne]; omega
    have e2:=wp64 j _ hlt hP.len1
    rw [two_at hgj hg] at fin
    have hq2 : (ords PG.name) y x = Op.bytesLess y.name x.name:=rfl
    rw [hq2] at fin
    simp only [PG.cells] at hgjm
    simp only [lt_t hlt,nneg,Int.toNat_natCast,aiaddr,hgm,hgjm,b0,e2,astr,h1,m1,h3,ha,eES,eEX,Nat.reduceBEq,↓reduceIte,Nat.reduceAdd]
    refine ordi_progs P hP fr m1' _ (Op.bytesLess y.name x.name) (by first | rfl | exact h1 | simp only [h1,eES,eEX,Nat.reduceBEq,↓reduceIte,reduceCtorEq,Nat.reduceEqDiff]) (by first | rfl | simp only [eES,eEX,Nat.reduceBEq,↓reduceIte,reduceCtorEq,Nat.reduceEqDiff]) _ (j + 1) x hg (by first | rfl | exact ha | simp only [ha,eES,eEX,Nat.reduceBEq,↓reduceIte,reduceCtorEq,Nat.reduceEqDiff]) (by first | rfl | simp only [eES,eEX,Nat.reduceBEq,↓reduceIte,reduceCtorEq,Nat.reduceEqDiff]) (fun f h1 h3 ha => ?_)
    simp only [ha,e1,eES,Nat.reduceBEq,↓reduceIte]
    exact fin _ (by first | rfl | exact h1 | simp only [h1,eES,eEX,Nat.reduceBEq,↓reduceIte,reduceCtorEq,Nat.reduceEqDiff]) (by first | rfl | exact h3 | simp only [h3,eES,eEX,Nat.reduceBEq,↓reduceIte,reduceCtorEq,Nat.reduceEqDiff]) (by first | rfl | simp only [eES,eEX,Nat.reduceBEq,↓reduceIte,reduceCtorEq,Nat.reduceEqDiff])
 ·have hf : allU q i = (adj P.progs (ords PG.name) && P.progs.all ord1):=by rw [show i = P.progs.length by omega,hqa]
  rw [hf] at h3
  simp only [lt_f hlt,eES]
  exact hx _ (by first | rfl | exact h1 | simp only [h1,eES,eEX,Nat.reduceBEq,↓reduceIte,reduceCtorEq,Nat.reduceEqDiff]) (by first | rfl | exact h3 | simp only [h3,eES,eEX,Nat.reduceBEq,↓reduceIte,reduceCtorEq,Nat.reduceEqDiff])

theorem ordi_enums (j : Nat) (x : PE) (hj : P.enums[j]? = some x) (ha : f 6 = .int .i64 (j : Nat)) (hc : f 7 = .int .i64 1) (hx : ∀ f,f 1 = .ptr 0 1 0 → f 3 = .bool (b && ord2 x) → f 6 = .int .i64 (j : Nat) → Q (.exit 6) (⟨f,[fr],[]⟩ : St)) : awp Tryz.prog (.loop l32_2) ⟨f,[fr],[]⟩ Q:=by
 let I : Nat → St → Prop:=fun k st => ∃ f i,st = ⟨f,[fr],[]⟩ ∧ k = x.items.length - i ∧ f 1 = .ptr 0 1 0 ∧ f 3 = .bool (b && allU (two x.items (ordn PI.num)) (i + 1)) ∧ f 6 = .int .i64 (j : Nat) ∧ f 7 = .int .i64 ((i + 1 : Nat) : Int) ∧ (i + 1 ≤ x.items.length ∨ i = 0)
 have hjm : (P.enums.map eav)[j]? = some (.agg x.cells):=by simp [hj,eav]
 have hsl : x.items.length ≤ maxLen:=(hP.enums x (List.mem_of_getElem? hj)).len1
 refine awp_loop I _ ⟨f,0,rfl,rfl,h1,by rw [h3]; simp [allU,two],ha,hc,.inr rfl⟩ ?_
 clear h1 h3 ha hc
 simp only [Pc] at m1
 simp only [PE.cells] at hjm
 rintro _ st ⟨f,i,rfl,rfl,h1,h3,ha,hc,hi⟩
 simp only [l32_2,g32_15,g32_17,g32_16,nneg,Int.toNat_natCast,aiaddr,hjm,List.length_map,h1,m1,ha,hc,eES,eEX,Nat.reduceBEq,↓reduceIte,Nat.reduceAdd]
 by_cases hlt : i + 1 < x.items.length
 ·obtain ⟨o,hg⟩ : ∃ o,x.items[i]? = some o:=⟨x.items[i]'(by omega),List.getElem?_eq_getElem (by omega)⟩
  obtain ⟨o2,hg2⟩ : ∃ o,x.items[i + 1]? = some o:=⟨x.items[i + 1],List.getElem?_eq_getElem hlt⟩
  have hgm : (x.items.map fun o => AV.agg o.cells)[i]? = some (.agg o.cells):=by simp [hg]
  have hgm2 : (x.items.map fun o => AV.agg o.cells)[i + 1]? = some (.agg o2.cells):=by simp [hg2]
  have e1:=wi64_s (i + 1) _ hlt hsl
  have e2:=wp64 i _ hlt hsl
  have ht:=acc_step b (two x.items (ordn PI.num)) (i + 1)
  rw [two_at hg hg2] at ht
  have hq : (ordn PI.num) o o2 = decide (o.num < o2.num):=rfl
  rw [hq] at ht
  have fin : ∀ f' : Fr,f' 1 = .ptr 0 1 0 → f' 3 = .bool ((b && allU (two x.items (ordn PI.num)) (i + 1)) && decide (o.num < o2.num)) → f' 6 = .int .i64 (j : Nat) → f' 7 = .int .i64 ((i + 1 + 1 : Nat) : Int) → ∃ k,k < x.items.length - i ∧ I k ⟨f',[fr],[]⟩:=by
   intro f' a1 a3 a4 a5
   exact ⟨x.items.length - (i + 1),by omega,f',i + 1,rfl,rfl,a1,by rw [a3,ht],a4,a5,.inl (by omega)⟩
  simp only [PI.cells] at hgm hgm2
  cases hb : (b && allU (two x.items (ordn PI.num)) (i + 1))
  ·rw [hb] at fin h3
   simp only [lt_t hlt,PI.cells,h3,hc,e1,eES,Nat.reduceBEq,↓reduceIte]
   exact fin _ (by first | rfl | exact h1 | simp only [h1,eES,eEX,Nat.reduceBEq,↓reduceIte,reduceCtorEq,Nat.reduceEqDiff]) (by first | rfl | simp only [eES,eEX,Nat.reduceBEq,↓reduceIte,reduceCtorEq,Nat.reduceEqDiff]) (by first | rfl | exact ha | simp only [ha,eES,eEX,Nat.reduceBEq,↓reduceIte,reduceCtorEq,Nat.reduceEqDiff]) (by first | rfl | simp only [eES,eEX,Nat.reduceBEq,↓reduceIte,reduceCtorEq,Nat.reduceEqDiff])
  ·rw [hb,Bool.true_and] at fin
   rw [hb] at h3
   simp only [lt_t hlt,nneg,Int.toNat_natCast,aiaddr,hjm,hgm,hgm2,PI.cells,h1,m1,h3,ha,hc,e1,e2,eES,eEX,Nat.reduceBEq,↓reduceIte,Nat.reduceAdd]
   exact fin _ (by first | rfl | exact h1 | simp only [h1,eES,eEX,Nat.reduceBEq,↓reduceIte,reduceCtorEq,Nat.reduceEqDiff]) (by first | rfl | simp only [eES,eEX,Nat.reduceBEq,↓reduceIte,reduceCtorEq,Nat.reduceEqDiff]) (by first | rfl | exact ha | simp only [ha,eES,eEX,Nat.reduceBEq,↓reduceIte,reduceCtorEq,Nat.reduceEqDiff]) (by first | rfl | simp only [eES,eEX,Nat.reduceBEq,↓reduceIte,reduceCtorEq,Nat.reduceEqDiff])
 ·have hf : allU (two x.items (ordn PI.num)) (i + 1) = ord2 x:=by
   show _ = allU (two x.items (ordn PI.num)) x.items.length
   rcases hi with h | h
   ·rw [show i + 1 = x.items.length by omega]
   ·subst h
    rcases Nat.eq_zero_or_pos x.items.length with h0 | h0
    ·rw [h0]; rfl
    ·rw [show x.items.length = 1 by omega]
  rw [hf] at h3
  simp only [lt_f hlt,eES]
  exact hx _ (by first | rfl | exact h1 | simp only [h1,eES,eEX,Nat.reduceBEq,↓reduceIte,reduceCtorEq,Nat.reduceEqDiff]) (by first | rfl | exact h3 | simp only [h3,eES,eEX,Nat.reduceBEq,↓reduceIte,reduceCtorEq,Nat.reduceEqDiff]) (by first | rfl | exact ha | simp only [ha,eES,eEX,Nat.reduceBEq,↓reduceIte,reduceCtorEq,Nat.reduceEqDiff])

theorem ordo_enums (ha : f 6 = .int .i64 0) (hx : ∀ f,f 1 = .ptr 0 1 0 → f 3 = .bool (b && (adj P.enums (ords PE.name) && P.enums.all ord2)) → Q (.exit 4) (⟨f,[fr],[]⟩ : St)) : awp Tryz.prog (.loop l32_3) ⟨f,[fr],[]⟩ Q:=by
 let q : Nat → Bool:=fun i => two P.enums (ords PE.name) i && ask P.enums ord2 i
 let I : Nat → St → Prop:=fun k st => ∃ f i,st = ⟨f,[fr],[]⟩ ∧ k = P.enums.length - i ∧ i ≤ P.enums.length ∧ f 1 = .ptr 0 1 0 ∧ f 3 = .bool (b && allU q i) ∧ f 6 = .int .i64 (i : Nat)
 have m1':=m1
 have hqa : allU q P.enums.length = (adj P.enums (ords PE.name) && P.enums.all ord2):=by
  show allU (fun i => two P.enums (ords PE.name) i && ask P.enums ord2 i) _ = _
  rw [allU_and,allU_ask]; rfl
 refine awp_loop I _ ⟨f,0,rfl,rfl,Nat.zero_le _,h1,by rw [h3]; simp [allU],ha⟩ ?_
 clear h1 h3 ha
 simp only [Pc] at m1
 rintro _ st ⟨f,i,rfl,rfl,hi,h1,h3,ha⟩
 simp only [l32_3,g32_11,g32_13,g32_14,g32_12,List.length_map,h1,m1,ha,eES,eEX,Nat.reduceBEq,↓reduceIte,Nat.reduceAdd]
 by_cases hlt : i < P.enums.length
 ·obtain ⟨x,hg⟩ : ∃ x,P.enums[i]? = some x:=⟨P.enums[i],List.getElem?_eq_getElem hlt⟩
  have hgm : (P.enums.map eav)[i]? = some (.agg x.cells):=by simp [hg,eav]
  have e1:=wi64_s i _ hlt hP.len2
  have ht:=acc_step b q i
  have hq : q i = (two P.enums (ords PE.name) i && ord2 x):=by show (_ && ask P.enums ord2 i) = _; rw [ask_at hg]
  rw [hq,← Bool.and_assoc] at ht
  have fin : ∀ f' : Fr,f' 1 = .ptr 0 1 0 → f' 3 = .bool (((b && allU q i) && two P.enums (ords PE.name) i) && ord2 x) → f' 6 = .int .i64 ((i + 1 : Nat) : Int) → ∃ k,k < P.enums.length - i ∧ I k ⟨f',[fr],[]⟩:=by
   intro f' a1 a3 a4
   exact ⟨P.enums.length - (i + 1),by omega,f',i + 1,rfl,rfl,by omega,a1,by rw [a3,ht],a4⟩
  simp only [PE.cells] at hgm
  cases hb : (b && allU q i)
  ·rw [hb,Bool.false_and] at fin
   rw [hb] at h3
   simp only [lt_t hlt,h3,eES,Nat.reduceBEq]
   refine ordi_enums P hP fr m1' _ false (by first | rfl | exact h1 | simp only [h1,eES,eEX,Nat.reduceBEq,↓reduceIte,reduceCtorEq,Nat.reduceEqDiff]) (by first | rfl | simp only [eES,eEX,Nat.reduceBEq,↓reduceIte,reduceCtorEq,Nat.reduceEqDiff]) _ i x hg (by first | rfl | exact ha | simp only [ha,eES,eEX,Nat.reduceBEq,↓reduceIte,reduceCtorEq,Nat.reduceEqDiff]) (by first | rfl | simp only [eES,eEX,Nat.reduceBEq,↓reduceIte,reduceCtorEq,Nat.reduceEqDiff]) (fun f h1 h3 ha => ?_)
   simp only [ha,e1,eES,Nat.reduceBEq,↓reduceIte]
   exact fin _ (by first | rfl | exact h1 | simp only [h1,eES,eEX,Nat.reduceBEq,↓reduceIte,reduceCtorEq,Nat.reduceEqDiff]) (by first | rfl | exact h3 | simp only [h3,eES,eEX,Nat.reduceBEq,↓reduceIte,reduceCtorEq,Nat.reduceEqDiff]) (by first | rfl | simp only [eES,eEX,Nat.reduceBEq,↓reduceIte,reduceCtorEq,Nat.reduceEqDiff])
  ·rw [hb,Bool.true_and] at fin
   rw [hb] at h3
   cases i with
   | zero =>
    have b0 : (((0 : Nat) : Int) == 0) = true:=rfl
    rw [two_zero] at fin
    simp only [lt_t hlt,b0,h3,ha,eES,Nat.reduceBEq,↓reduceIte]
    refine ordi_enums P hP fr m1' _ true (by first | rfl | exact h1 | simp only [h1,eES,eEX,Nat.reduceBEq,↓reduceIte,reduceCtorEq,Nat.reduceEqDiff]) (by first | rfl | simp only [eES,eEX,Nat.reduceBEq,↓reduceIte,reduceCtorEq,Nat.reduceEqDiff]) _ 0 x hg (by first | rfl | exact ha | simp only [ha,eES,eEX,Nat.reduceBEq,↓reduceIte,reduceCtorEq,Nat.reduceEqDiff]) (by first | rfl | simp only [eES,eEX,Nat.reduceBEq,↓reduceIte,reduceCtorEq,Nat.reduceEqDiff]) (fun f h1 h3 ha => ?_)
    simp only [ha,e1,eES,Nat.reduceBEq,↓reduceIte,Nat.reduceAdd]
    exact fin _ (by first | rfl | exact h1 | simp only [h1,eES,eEX,Nat.reduceBEq,↓reduceIte,reduceCtorEq,Nat.reduceEqDiff]) (by first | rfl | exact h3 | simp only [h3,eES,eEX,Nat.reduceBEq,↓reduceIte,reduceCtorEq,Nat.reduceEqDiff]) (by first | rfl | simp only [eES,eEX,Nat.reduceBEq,↓reduceIte,reduceCtorEq,Nat.reduceEqDiff])
   | succ j =>
    obtain ⟨y,hgj⟩ : ∃ y,P.enums[j]? = some y:=⟨P.enums[j]'(by omega),List.getElem?_eq_getElem (by omega)⟩
    have hgjm : (P.enums.map eav)[j]? = some (.agg y.cells):=by simp [hgj,eav]
    have b0 : (((j + 1 : Nat) : Int) == 0) = false:=by rw [beq_eq_false_iff_ne]; omega
    have e2:=wp64 j _ hlt hP.len2
    rw [two_at hgj hg] at fin
    have hq2 : (ords PE.name) y x = Op.bytesLess y.name x.name:=rfl
    rw [hq2] at fin
    simp only [PE.cells] at hgjm
    simp only [lt_t hlt,nneg,Int.toNat_natCast,aiaddr,hgm,hgjm,b0,e2,astr,h1,m1,h3,ha,eES,eEX,Nat.reduceBEq,↓reduceIte,Nat.reduceAdd]
    refine ordi_enums P hP fr m1' _ (Op.bytesLess y.name x.name) (by first | rfl | exact h1 | simp only [h1,eES,eEX,Nat.reduceBEq,↓reduceIte,reduceCtorEq,Nat.reduceEqDiff]) (by first | rfl | simp only [eES,eEX,Nat.reduceBEq,↓reduceIte,reduceCtorEq,Nat.reduceEqDiff]) _ (j + 1) x hg (by first | rfl | exact ha | simp only [ha,eES,eEX,Nat.reduceBEq,↓reduceIte,reduceCtorEq,Nat.reduceEqDiff]) (by first | rfl | simp only [eES,eEX,Nat.reduceBEq,↓reduceIte,reduceCtorEq,Nat.reduceEqDiff]) (fun f h1 h3 ha => ?_)
    simp only [ha,e1,eES,Nat.reduceBEq,↓reduceIte]
    exact fin _ (by first | rfl | exact h1 | simp only [h1,eES,eEX,Nat.reduceBEq,↓reduceIte,reduceCtorEq,Nat.reduceEqDiff]) (by first | rfl | exact h3 | simp only [h3,eES,eEX,Nat.reduceBEq,↓reduceIte,reduceCtorEq,Nat.reduceEqDiff]) (by first | rfl | simp only [eES,eEX,Nat.reduceBEq,↓reduceIte,reduceCtorEq,Nat.reduceEqDiff])
 ·have hf : allU q i = (adj P.enums (ords PE.name) && P.enums.all ord2):=by rw [show i = P.enums.length by omega,hqa]
  rw [hf] at h3
  simp only [lt_f hlt,eES]
  exact hx _ (by first | rfl | exact h1 | simp only [h1,eES,eEX,Nat.reduceBEq,↓reduceIte,reduceCtorEq,Nat.reduceEqDiff]) (by first | rfl | exact h3 | simp only [h3,eES,eEX,Nat.reduceBEq,↓reduceIte,reduceCtorEq,Nat.reduceEqDiff])

end

section
variable {M : Nat} (P : PL) (hP : P.ok M)
include hP

theorem z30 : Fn1 Tryz.prog 30 [P.av] (.bool (lim P)):=by
 have e0 : P.av = .agg [.list (P.progs.map gav),.list (P.enums.map eav)]:=rfl
 have e1 : decide ((P.progs.length : Int) ≤ 64) = decide (P.progs.length ≤ 64):=by rw [decide_eq_decide]; omega
 have e2 : decide ((P.enums.length : Int) ≤ 64) = decide (P.enums.length ≤ 64):=by rw [decide_eq_decide]; omega
 refine fn1_of_awp (rc:=r30) (rs:=o30) Tryz.func30 rfl rfl Tryz.ntmps30 k30 q30 (by simp) ?_
 simp only [g30_0,g30_1,g30_2,g30_6,g30_11,r30,o30,e0,List.length_map,e1,eES,eEX,Nat.reduceBEq,↓reduceIte,Nat.reduceAdd]
 have hl : lim P = ((decide (P.progs.length ≤ 64) && decide (P.enums.length ≤ 64) && P.progs.all lim1) && P.enums.all lim2):=rfl
 cases a1 : decide (P.progs.length ≤ 64) <;> simp only [e2,List.length_map,eES,eEX,Nat.reduceBEq,↓reduceIte,Nat.reduceAdd]
 all_goals
  refine lims_progs P hP _ (by first | rfl | simp only [eES,eEX,Nat.reduceBEq,↓reduceIte,reduceCtorEq,Nat.reduceEqDiff]) _ _ (by first | rfl | simp only [eES,eEX,Nat.reduceBEq,↓reduceIte,reduceCtorEq,Nat.reduceEqDiff]) (by first | rfl | simp only [eES,eEX,Nat.reduceBEq,↓reduceIte,reduceCtorEq,Nat.reduceEqDiff]) _ (by first | rfl | simp only [eES,eEX,Nat.reduceBEq,↓reduceIte,reduceCtorEq,Nat.reduceEqDiff]) (fun f h1 h3 => ?_)
  simp only [eES,↓reduceIte]
  refine lims_enums P hP _ (by first | rfl | simp only [eES,eEX,Nat.reduceBEq,↓reduceIte,reduceCtorEq,Nat.reduceEqDiff]) _ _ (by first | rfl | exact h1 | simp only [h1,eES,eEX,Nat.reduceBEq,↓reduceIte,reduceCtorEq,Nat.reduceEqDiff]) (by first | rfl | exact h3 | simp only [h3,eES,eEX,Nat.reduceBEq,↓reduceIte,reduceCtorEq,Nat.reduceEqDiff]) _ (by first | rfl | simp only [eES,eEX,Nat.reduceBEq,↓reduceIte,reduceCtorEq,Nat.reduceEqDiff]) (fun f h1 h3 => ?_)
  simp only [h3,hl,a1,Bool.false_and,Bool.true_and,eES,Nat.reduceBEq,↓reduceIte]

theorem z31 : Fn1 Tryz.prog 31 [P.av] (.bool (nam P)):=by
 have e0 : P.av = .agg [.list (P.progs.map gav),.list (P.enums.map eav)]:=rfl
 refine fn1_of_awp (rc:=r31) (rs:=o31) Tryz.func31 rfl rfl Tryz.ntmps31 k31 q31 (by simp) ?_
 simp only [g31_0,g31_1,g31_2,g31_10,g31_18,r31,o31,e0,eES,eEX]
 refine namo_progs P hP _ (by first | rfl | simp only [eES,eEX,Nat.reduceBEq,↓reduceIte,reduceCtorEq,Nat.reduceEqDiff]) _ true (by first | rfl | simp only [eES,eEX,Nat.reduceBEq,↓reduceIte,reduceCtorEq,Nat.reduceEqDiff]) (by first | rfl | simp only [eES,eEX,Nat.reduceBEq,↓reduceIte,reduceCtorEq,Nat.reduceEqDiff]) _ (by first | rfl | simp only [eES,eEX,Nat.reduceBEq,↓reduceIte,reduceCtorEq,Nat.reduceEqDiff]) (fun f h1 h3 => ?_)
 simp only [eES,↓reduceIte]
 refine namo_enums P hP _ (by first | rfl | simp only [eES,eEX,Nat.reduceBEq,↓reduceIte,reduceCtorEq,Nat.reduceEqDiff]) _ _ (by first | rfl | exact h1 | simp only [h1,eES,eEX,Nat.reduceBEq,↓reduceIte,reduceCtorEq,Nat.reduceEqDiff]) (by first | rfl | exact h3 | simp only [h3,eES,eEX,Nat.reduceBEq,↓reduceIte,reduceCtorEq,Nat.reduceEqDiff]) _ (by first | rfl | simp only [eES,eEX,Nat.reduceBEq,↓reduceIte,reduceCtorEq,Nat.reduceEqDiff]) (fun f h1 h3 => ?_)
 simp only [h3,nam,Bool.true_and,eES,Nat.reduceBEq,↓reduceIte]

theorem z32 : Fn1 Tryz.prog 32 [P.av] (.bool (ord P)):=by
 have e0 : P.av = .agg [.list (P.progs.map gav),.list (P.enums.map eav)]:=rfl
 have e : ord P = ((adj P.progs (ords PG.name) && P.progs.all ord1) && (adj P.enums (ords PE.name) && P.enums.all ord2)):=by
  unfold ord
  cases adj P.progs (ords PG.name) <;> cases P.progs.all ord1 <;> cases adj P.enums (ords PE.name) <;> rfl
 refine fn1_of_awp (rc:=r32) (rs:=o32) Tryz.func32 rfl rfl Tryz.ntmps32 k32 q32 (by simp) ?_
 simp only [g32_0,g32_1,g32_2,g32_10,g32_18,r32,o32,e0,eES,eEX]
 refine ordo_progs P hP _ (by first | rfl | simp only [eES,eEX,Nat.reduceBEq,↓reduceIte,reduceCtorEq,Nat.reduceEqDiff]) _ true (by first | rfl | simp only [eES,eEX,Nat.reduceBEq,↓reduceIte,reduceCtorEq,Nat.reduceEqDiff]) (by first | rfl | simp only [eES,eEX,Nat.reduceBEq,↓reduceIte,reduceCtorEq,Nat.reduceEqDiff]) _ (by first | rfl | simp only [eES,eEX,Nat.reduceBEq,↓reduceIte,reduceCtorEq,Nat.reduceEqDiff]) (fun f h1 h3 => ?_)
 simp only [eES,↓reduceIte]
 refine ordo_enums P hP _ (by first | rfl | simp only [eES,eEX,Nat.reduceBEq,↓reduceIte,reduceCtorEq,Nat.reduceEqDiff]) _ _ (by first | rfl | exact h1 | simp only [h1,eES,eEX,Nat.reduceBEq,↓reduceIte,reduceCtorEq,Nat.reduceEqDiff]) (by first | rfl | exact h3 | simp only [h3,eES,eEX,Nat.reduceBEq,↓reduceIte,reduceCtorEq,Nat.reduceEqDiff]) _ (by first | rfl | simp only [eES,eEX,Nat.reduceBEq,↓reduceIte,reduceCtorEq,Nat.reduceEqDiff]) (fun f h1 h3 => ?_)
 simp only [h3,e,Bool.true_and,eES,Nat.reduceBEq,↓reduceIte]

end

end Go.Proofs.YtelhohgmmhbahaaGreatDoor.Va

set_option linter.unusedSimpArgs false
namespace Go.Proofs.YtelhohgmmhbahaaGreatDoor.Va
open Go Am Rc Bt Br

theorem z110 (L : List PS) (hl : L.length ≤ maxLen) (n : Int) : Fn1 Tryz.prog 110 [.list (L.map spav),.int .i64 n] (.bool (kept L n)):=by
 let I : Nat → St → Prop:=fun k st => ∃ f i,st = ⟨f,[noObs],[]⟩ ∧ k = L.length - i ∧ kept L n = kept (L.drop i) n ∧ f 0 = .list (L.map spav) ∧ f 1 = .int .i64 n ∧ f 5 = .int .i64 (i : Nat)
 refine fn1_of_awp (rc:=r110) (rs:=o110) Tryz.func110 rfl rfl Tryz.ntmps110 k110 q110 (by simp) ?_
 simp only [g110_0,g110_1,g110_6,r110,o110,eES]
 refine awp_loop I _ ⟨_,0,rfl,rfl,rfl,(by first | rfl | simp only [eES,eEX,Nat.reduceBEq,↓reduceIte,reduceCtorEq,Nat.reduceEqDiff]),(by first | rfl | simp only [eES,eEX,Nat.reduceBEq,↓reduceIte,reduceCtorEq,Nat.reduceEqDiff]),(by first | rfl | simp only [eES,eEX,Nat.reduceBEq,↓reduceIte,reduceCtorEq,Nat.reduceEqDiff])⟩ ?_
 rintro _ st ⟨f,i,rfl,rfl,hx,h0,h1,h5⟩
 simp only [l110_0,g110_2,g110_4,g110_5,g110_3,List.length_map,h0,h5,eES,Nat.reduceBEq,↓reduceIte]
 by_cases hlt : i < L.length
 ·obtain ⟨x,hi⟩ : ∃ x,L[i]? = some x:=⟨L[i],List.getElem?_eq_getElem hlt⟩
  have hg : (L.map spav)[i]? = some (spav x):=by simp [hi]
  have e1:=wi64_s i _ hlt hl
  have hd : kept (L.drop i) n = ((decide (x.lo ≤ n) && decide (n ≤ x.hi)) || kept (L.drop (i + 1)) n):=by
   unfold kept
   rw [List.drop_eq_getElem_cons hlt,show L[i] = x from (List.getElem?_eq_some_iff.1 hi).2]
   rfl
  rw [hd] at hx
  simp only [lt_t hlt,nneg,Int.toNat_natCast,aiaddr,hg,spav,PS.cells,h0,h1,h5,eES,eEX,Nat.reduceBEq,↓reduceIte,Nat.reduceAdd]
  cases a1 : decide (x.lo ≤ n)
  ·rw [a1,Bool.false_and,Bool.false_or] at hx
   simp only [h5,e1,eES,Nat.reduceBEq,↓reduceIte]
   exact ⟨L.length - (i + 1),by omega,_,i + 1,rfl,rfl,hx,(by first | rfl | exact h0 | simp only [h0,eES,eEX,Nat.reduceBEq,↓reduceIte,reduceCtorEq,Nat.reduceEqDiff]),(by first | rfl | exact h1 | simp only [h1,eES,eEX,Nat.reduceBEq,↓reduceIte,reduceCtorEq,Nat.reduceEqDiff]),(by first | rfl | simp only [eES,eEX,Nat.reduceBEq,↓reduceIte,reduceCtorEq,Nat.reduceEqDiff])⟩
  ·cases a2 : decide (n ≤ x.hi)
   ·rw [a1,a2,Bool.and_false,Bool.false_or] at hx
    simp only [a2,nneg,Int.toNat_natCast,aiaddr,hg,spav,PS.cells,h0,h1,h5,e1,eES,eEX,Nat.reduceBEq,↓reduceIte,Nat.reduceAdd]
    exact ⟨L.length - (i + 1),by omega,_,i + 1,rfl,rfl,hx,(by first | rfl | exact h0 | simp only [h0,eES,eEX,Nat.reduceBEq,↓reduceIte,reduceCtorEq,Nat.reduceEqDiff]),(by first | rfl | exact h1 | simp only [h1,eES,eEX,Nat.reduceBEq,↓reduceIte,reduceCtorEq,Nat.reduceEqDiff]),(by first | rfl | simp only [eES,eEX,Nat.reduceBEq,↓reduceIte,reduceCtorEq,Nat.reduceEqDiff])⟩
   ·rw [a1,a2,Bool.and_true,Bool.true_or] at hx
    simp only [a2,nneg,Int.toNat_natCast,aiaddr,hg,spav,PS.cells,h0,h1,h5,hx,eES,eEX,Nat.reduceBEq,↓reduceIte,Nat.reduceAdd]
 ·have hx' : kept L n = false:=by rw [hx,List.drop_of_length_le (by omega)]; rfl
  simp only [lt_f hlt,hx',eES,Nat.reduceBEq,↓reduceIte]

section
variable {M : Nat} (P : PL) (hP : P.ok M) (fr : Nat → Ob) (m1 : fr 1 = .cells (Pc P)) (f : Fr) (b : Bool) (h1 : f 1 = .ptr 0 1 0) (h3 : f 3 = .bool b) (Q : Exit → St → Prop)

include h1 h3 in
theorem sini_ops (L : List PO) (hl : L.length ≤ maxLen) (j : Nat) (x : PO) (hj : L[j]? = some x) (n : Nat) (hr : f 4 = .int .i64 (n : Nat)) (hL : f 6 = .list (L.map fun o => .agg o.cells)) (hc : f 7 = .int .i64 (j : Nat)) (hd : f 8 = .int .i64 0)
  (hx : ∀ f,f 1 = .ptr 0 1 0 → f 3 = .bool (b && (L.take j).all fun y => !(y.name == x.name)) → f 4 = .int .i64 (n : Nat) → f 6 = .list (L.map fun o => .agg o.cells) → f 7 = .int .i64 (j : Nat) → Q (.exit 6) (⟨f,[fr],[]⟩ : St)) :
  awp Tryz.prog (.loop l33_1) ⟨f,[fr],[]⟩ Q:=by
 let I : Nat → St → Prop:=fun k st => ∃ f i,st = ⟨f,[fr],[]⟩ ∧ k = j - i ∧ i ≤ j ∧ f 1 = .ptr 0 1 0 ∧ f 3 = .bool (b && (L.take i).all fun y => !(y.name == x.name)) ∧ f 4 = .int .i64 (n : Nat) ∧ f 6 = .list (L.map fun o => .agg o.cells) ∧ f 7 = .int .i64 (j : Nat) ∧ f 8 = .int .i64 (i : Nat)
 have hjl : j < L.length:=(List.getElem?_eq_some_iff.1 hj).1
 have hjm : (L.map fun o => AV.agg o.cells)[j]? = some (.agg x.cells):=by simp [hj]
 refine awp_loop I _ ⟨f,0,rfl,rfl,Nat.zero_le _,h1,by rw [h3]; simp,hr,hL,hc,hd⟩ ?_
 clear h1 h3 hr hL hc hd
 simp only [PO.cells] at hjm
 rintro _ st ⟨f,i,rfl,rfl,hi,h1,h3,hr,hL,hc,hd⟩
 simp only [l33_1,g33_14,g33_16,g33_15,hc,hd,eES,Nat.reduceBEq,↓reduceIte]
 by_cases hlt : i < j
 ·obtain ⟨o,hg⟩ : ∃ o,L[i]? = some o:=⟨L[i]'(by omega),List.getElem?_eq_getElem (by omega)⟩
  have hgm : (L.map fun o => AV.agg o.cells)[i]? = some (.agg o.cells):=by simp [hg]
  have e1:=wi64_s i _ (show i < L.length by omega) hl
  have ht:=take_all (q:=fun y : PO => !(y.name == x.name)) hg
  have fin : ∀ f' : Fr,f' 1 = .ptr 0 1 0 → f' 3 = .bool ((b && (L.take i).all fun y => !(y.name == x.name)) && !(o.name == x.name)) → f' 4 = .int .i64 (n : Nat) → f' 6 = .list (L.map fun o => .agg o.cells) → f' 7 = .int .i64 (j : Nat) → f' 8 = .int .i64 ((i + 1 : Nat) : Int) → ∃ k,k < j - i ∧ I k ⟨f',[fr],[]⟩:=by
   intro f' a1 a3 a4 a5 a6 a7
   exact ⟨j - (i + 1),by omega,f',i + 1,rfl,rfl,by omega,a1,by rw [a3,ht,Bool.and_assoc],a4,a5,a6,a7⟩
  simp only [PO.cells] at hgm
  cases hb : (b && (L.take i).all fun y => !(y.name == x.name))
  ·rw [hb] at fin h3
   simp only [lt_t hlt,h3,hd,e1,eES,Nat.reduceBEq,↓reduceIte]
   exact fin _ (by first | rfl | exact h1 | simp only [h1,eES,eEX,Nat.reduceBEq,↓reduceIte,reduceCtorEq,Nat.reduceEqDiff]) (by first | rfl | simp only [eES,eEX,Nat.reduceBEq,↓reduceIte,reduceCtorEq,Nat.reduceEqDiff]) (by first | rfl | exact hr | simp only [hr,eES,eEX,Nat.reduceBEq,↓reduceIte,reduceCtorEq,Nat.reduceEqDiff]) (by first | rfl | exact hL | simp only [hL,eES,eEX,Nat.reduceBEq,↓reduceIte,reduceCtorEq,Nat.reduceEqDiff]) (by first | rfl | exact hc | simp only [hc,eES,eEX,Nat.reduceBEq,↓reduceIte,reduceCtorEq,Nat.reduceEqDiff]) (by first | rfl | simp only [eES,eEX,Nat.reduceBEq,↓reduceIte,reduceCtorEq,Nat.reduceEqDiff])
  ·rw [hb,Bool.true_and] at fin
   rw [hb] at h3
   simp only [lt_t hlt,nneg,Int.toNat_natCast,aiaddr,hgm,hjm,PO.cells,astr,h3,hL,hc,hd,e1,eES,eEX,Nat.reduceBEq,↓reduceIte,Nat.reduceAdd]
   exact fin _ (by first | rfl | exact h1 | simp only [h1,eES,eEX,Nat.reduceBEq,↓reduceIte,reduceCtorEq,Nat.reduceEqDiff]) (by first | rfl | simp only [eES,eEX,Nat.reduceBEq,↓reduceIte,reduceCtorEq,Nat.reduceEqDiff]) (by first | rfl | exact hr | simp only [hr,eES,eEX,Nat.reduceBEq,↓reduceIte,reduceCtorEq,Nat.reduceEqDiff]) (by first | rfl | exact hL | simp only [hL,eES,eEX,Nat.reduceBEq,↓reduceIte,reduceCtorEq,Nat.reduceEqDiff]) (by first | rfl | exact hc | simp only [hc,eES,eEX,Nat.reduceBEq,↓reduceIte,reduceCtorEq,Nat.reduceEqDiff]) (by first | rfl | simp only [eES,eEX,Nat.reduceBEq,↓reduceIte,reduceCtorEq,Nat.reduceEqDiff])
 ·rw [show i = j by omega] at h3
  simp only [lt_f hlt,eES]
  exact hx _ (by first | rfl | exact h1 | simp only [h1,eES,eEX,Nat.reduceBEq,↓reduceIte,reduceCtorEq,Nat.reduceEqDiff]) (by first | rfl | exact h3 | simp only [h3,eES,eEX,Nat.reduceBEq,↓reduceIte,reduceCtorEq,Nat.reduceEqDiff]) (by first | rfl | exact hr | simp only [hr,eES,eEX,Nat.reduceBEq,↓reduceIte,reduceCtorEq,Nat.reduceEqDiff]) (by first | rfl | exact hL | simp only [hL,eES,eEX,Nat.reduceBEq,↓reduceIte,reduceCtorEq,Nat.reduceEqDiff]) (by first | rfl | exact hc | simp only [hc,eES,eEX,Nat.reduceBEq,↓reduceIte,reduceCtorEq,Nat.reduceEqDiff])

include h1 h3 in
theorem sino_ops (L : List PO) (hl : L.length ≤ maxLen) (n : Nat) (hr : f 4 = .int .i64 (n : Nat)) (hL : f 6 = .list (L.map fun o => .agg o.cells)) (hc : f 7 = .int .i64 0)
  (hx : ∀ f,f 1 = .ptr 0 1 0 → f 3 = .bool (b && once L PO.name) → f 4 = .int .i64 (n : Nat) → Q (.exit 4) (⟨f,[fr],[]⟩ : St)) :
  awp Tryz.prog (.loop l33_2) ⟨f,[fr],[]⟩ Q:=by
 let I : Nat → St → Prop:=fun k st => ∃ f i,st = ⟨f,[fr],[]⟩ ∧ k = L.length - i ∧ i ≤ L.length ∧ f 1 = .ptr 0 1 0 ∧ f 3 = .bool (b && allU (uniq L PO.name) i) ∧ f 4 = .int .i64 (n : Nat) ∧ f 6 = .list (L.map fun o => .agg o.cells) ∧ f 7 = .int .i64 (i : Nat)
 refine awp_loop I _ ⟨f,0,rfl,rfl,Nat.zero_le _,h1,by rw [h3]; simp [allU],hr,hL,hc⟩ ?_
 clear h1 h3 hr hL hc
 rintro _ st ⟨f,i,rfl,rfl,hi,h1,h3,hr,hL,hc⟩
 simp only [l33_2,g33_11,g33_13,g33_12,List.length_map,hL,hc,eES,Nat.reduceBEq,↓reduceIte]
 by_cases hlt : i < L.length
 ·obtain ⟨o,hg⟩ : ∃ o,L[i]? = some o:=⟨L[i],List.getElem?_eq_getElem hlt⟩
  have e1:=wi64_s i _ hlt hl
  have ht:=acc_step b (uniq L PO.name) i
  rw [uniq_at hg] at ht
  simp only [lt_t hlt,eES]
  refine sini_ops fr _ (b && allU (uniq L PO.name) i) (by first | rfl | exact h1 | simp only [h1,eES,eEX,Nat.reduceBEq,↓reduceIte,reduceCtorEq,Nat.reduceEqDiff]) (by first | rfl | exact h3 | simp only [h3,eES,eEX,Nat.reduceBEq,↓reduceIte,reduceCtorEq,Nat.reduceEqDiff]) _ L hl i o hg n (by first | rfl | exact hr | simp only [hr,eES,eEX,Nat.reduceBEq,↓reduceIte,reduceCtorEq,Nat.reduceEqDiff]) (by first | rfl | exact hL | simp only [hL,eES,eEX,Nat.reduceBEq,↓reduceIte,reduceCtorEq,Nat.reduceEqDiff]) (by first | rfl | exact hc | simp only [hc,eES,eEX,Nat.reduceBEq,↓reduceIte,reduceCtorEq,Nat.reduceEqDiff]) (by first | rfl | simp only [eES,eEX,Nat.reduceBEq,↓reduceIte,reduceCtorEq,Nat.reduceEqDiff]) (fun f h1 h3 hr hL hc => ?_)
  simp only [hc,e1,eES,Nat.reduceBEq,↓reduceIte]
  exact ⟨L.length - (i + 1),by omega,_,i + 1,rfl,rfl,by omega,(by first | rfl | exact h1 | simp only [h1,eES,eEX,Nat.reduceBEq,↓reduceIte,reduceCtorEq,Nat.reduceEqDiff]),by rw [ht] <;> first | exact h3 | simp only [h3,eES,eEX,Nat.reduceBEq,Int.reduceLE,Int.reduceLT,Int.reduceToNat,Int.reduceEq,↓reduceIte,reduceCtorEq,Nat.reducePow,Nat.reduceAdd,Nat.reduceLeDiff,Nat.reduceLT,Nat.reduceSub,Nat.reduceEqDiff],(by first | rfl | exact hr | simp only [hr,eES,eEX,Nat.reduceBEq,↓reduceIte,reduceCtorEq,Nat.reduceEqDiff]),(by first | rfl | exact hL | simp only [hL,eES,eEX,Nat.reduceBEq,↓reduceIte,reduceCtorEq,Nat.reduceEqDiff]),(by first | rfl | simp only [eES,eEX,Nat.reduceBEq,↓reduceIte,reduceCtorEq,Nat.reduceEqDiff])⟩
 ·rw [show i = L.length by omega] at h3
  simp only [lt_f hlt,eES]
  exact hx _ (by first | rfl | exact h1 | simp only [h1,eES,eEX,Nat.reduceBEq,↓reduceIte,reduceCtorEq,Nat.reduceEqDiff]) (by first | rfl | exact h3 | simp only [h3,eES,eEX,Nat.reduceBEq,↓reduceIte,reduceCtorEq,Nat.reduceEqDiff]) (by first | rfl | exact hr | simp only [hr,eES,eEX,Nat.reduceBEq,↓reduceIte,reduceCtorEq,Nat.reduceEqDiff])

include h1 h3 in
theorem sini_items (L : List PI) (hl : L.length ≤ maxLen) (j : Nat) (x : PI) (hj : L[j]? = some x) (n : Nat) (hr : f 9 = .int .i64 (n : Nat)) (hL : f 10 = .list (L.map fun o => .agg o.cells)) (hc : f 11 = .int .i64 (j : Nat)) (hd : f 12 = .int .i64 0)
  (hx : ∀ f,f 1 = .ptr 0 1 0 → f 3 = .bool (b && (L.take j).all fun y => !(y.name == x.name)) → f 9 = .int .i64 (n : Nat) → f 10 = .list (L.map fun o => .agg o.cells) → f 11 = .int .i64 (j : Nat) → Q (.exit 12) (⟨f,[fr],[]⟩ : St)) :
  awp Tryz.prog (.loop l33_4) ⟨f,[fr],[]⟩ Q:=by
 let I : Nat → St → Prop:=fun k st => ∃ f i,st = ⟨f,[fr],[]⟩ ∧ k = j - i ∧ i ≤ j ∧ f 1 = .ptr 0 1 0 ∧ f 3 = .bool (b && (L.take i).all fun y => !(y.name == x.name)) ∧ f 9 = .int .i64 (n : Nat) ∧ f 10 = .list (L.map fun o => .agg o.cells) ∧ f 11 = .int .i64 (j : Nat) ∧ f 12 = .int .i64 (i : Nat)
 have hjl : j < L.length:=(List.getElem?_eq_some_iff.1 hj).1
 have hjm : (L.map fun o => AV.agg o.cells)[j]? = some (.agg x.cells):=by simp [hj]
 refine awp_loop I _ ⟨f,0,rfl,rfl,Nat.zero_le _,h1,by rw [h3]; simp,hr,hL,hc,hd⟩ ?_
 clear h1 h3 hr hL hc hd
 simp only [PI.cells] at hjm
 rintro _ st ⟨f,i,rfl,rfl,hi,h1,h3,hr,hL,hc,hd⟩
 simp only [l33_4,g33_25,g33_27,g33_26,hc,hd,eES,Nat.reduceBEq,↓reduceIte]
 by_cases hlt : i < j
 ·obtain ⟨o,hg⟩ : ∃ o,L[i]? = some o:=⟨L[i]'(by omega),List.getElem?_eq_getElem (by omega)⟩
  have hgm : (L.map fun o => AV.agg o.cells)[i]? = some (.agg o.cells):=by simp [hg]
  have e1:=wi64_s i _ (show i < L.length by omega) hl
  have ht:=take_all (q:=fun y : PI => !(y.name == x.name)) hg
  have fin : ∀ f' : Fr,f' 1 = .ptr 0 1 0 → f' 3 = .bool ((b && (L.take i).all fun y => !(y.name == x.name)) && !(o.name == x.name)) → f' 9 = .int .i64 (n : Nat) → f' 10 = .list (L.map fun o => .agg o.cells) → f' 11 = .int .i64 (j : Nat) → f' 12 = .int .i64 ((i + 1 : Nat) : Int) → ∃ k,k < j - i ∧ I k ⟨f',[fr],[]⟩:=by
   intro f' a1 a3 a4 a5 a6 a7
   exact ⟨j - (i + 1),by omega,f',i + 1,rfl,rfl,by omega,a1,by rw [a3,ht,Bool.and_assoc],a4,a5,a6,a7⟩
  simp only [PI.cells] at hgm
  cases hb : (b && (L.take i).all fun y => !(y.name == x.name))
  ·rw [hb] at fin h3
   simp only [lt_t hlt,h3,hd,e1,eES,Nat.reduceBEq,↓reduceIte]
   exact fin _ (by first | rfl | exact h1 | simp only [h1,eES,eEX,Nat.reduceBEq,↓reduceIte,reduceCtorEq,Nat.reduceEqDiff]) (by first | rfl | simp only [eES,eEX,Nat.reduceBEq,↓reduceIte,reduceCtorEq,Nat.reduceEqDiff]) (by first | rfl | exact hr | simp only [hr,eES,eEX,Nat.reduceBEq,↓reduceIte,reduceCtorEq,Nat.reduceEqDiff]) (by first | rfl | exact hL | simp only [hL,eES,eEX,Nat.reduceBEq,↓reduceIte,reduceCtorEq,Nat.reduceEqDiff]) (by first | rfl | exact hc | simp only [hc,eES,eEX,Nat.reduceBEq,↓reduceIte,reduceCtorEq,Nat.reduceEqDiff]) (by first | rfl | simp only [eES,eEX,Nat.reduceBEq,↓reduceIte,reduceCtorEq,Nat.reduceEqDiff])
  ·rw [hb,Bool.true_and] at fin
   rw [hb] at h3
   simp only [lt_t hlt,nneg,Int.toNat_natCast,aiaddr,hgm,hjm,PI.cells,astr,h3,hL,hc,hd,e1,eES,eEX,Nat.reduceBEq,↓reduceIte,Nat.reduceAdd]
   exact fin _ (by first | rfl | exact h1 | simp only [h1,eES,eEX,Nat.reduceBEq,↓reduceIte,reduceCtorEq,Nat.reduceEqDiff]) (by first | rfl | simp only [eES,eEX,Nat.reduceBEq,↓reduceIte,reduceCtorEq,Nat.reduceEqDiff]) (by first | rfl | exact hr | simp only [hr,eES,eEX,Nat.reduceBEq,↓reduceIte,reduceCtorEq,Nat.reduceEqDiff]) (by first | rfl | exact hL | simp only [hL,eES,eEX,Nat.reduceBEq,↓reduceIte,reduceCtorEq,Nat.reduceEqDiff]) (by first | rfl | exact hc | simp only [hc,eES,eEX,Nat.reduceBEq,↓reduceIte,reduceCtorEq,Nat.reduceEqDiff]) (by first | rfl | simp only [eES,eEX,Nat.reduceBEq,↓reduceIte,reduceCtorEq,Nat.reduceEqDiff])
 ·rw [show i = j by omega] at h3
  simp only [lt_f hlt,eES]
  exact hx _ (by first | rfl | exact h1 | simp only [h1,eES,eEX,Nat.reduceBEq,↓reduceIte,reduceCtorEq,Nat.reduceEqDiff]) (by first | rfl | exact h3 | simp only [h3,eES,eEX,Nat.reduceBEq,↓reduceIte,reduceCtorEq,Nat.reduceEqDiff]) (by first | rfl | exact hr | simp only [hr,eES,eEX,Nat.reduceBEq,↓reduceIte,reduceCtorEq,Nat.reduceEqDiff]) (by first | rfl | exact hL | simp only [hL,eES,eEX,Nat.reduceBEq,↓reduceIte,reduceCtorEq,Nat.reduceEqDiff]) (by first | rfl | exact hc | simp only [hc,eES,eEX,Nat.reduceBEq,↓reduceIte,reduceCtorEq,Nat.reduceEqDiff])

include h1 h3 in
theorem sino_items (L : List PI) (hl : L.length ≤ maxLen) (n : Nat) (hr : f 9 = .int .i64 (n : Nat)) (hL : f 10 = .list (L.map fun o => .agg o.cells)) (hc : f 11 = .int .i64 0)
  (hx : ∀ f,f 1 = .ptr 0 1 0 → f 3 = .bool (b && once L PI.name) → f 9 = .int .i64 (n : Nat) → Q (.exit 10) (⟨f,[fr],[]⟩ : St)) :
  awp Tryz.prog (.loop l33_5) ⟨f,[fr],[]⟩ Q:=by
 let I : Nat → St → Prop:=fun k st => ∃ f i,st = ⟨f,[fr],[]⟩ ∧ k = L.length - i ∧ i ≤ L.length ∧ f 1 = .ptr 0 1 0 ∧ f 3 = .bool (b && allU (uniq L PI.name) i) ∧ f 9 = .int .i64 (n : Nat) ∧ f 10 = .list (L.map fun o => .agg o.cells) ∧ f 11 = .int .i64 (i : Nat)
 refine awp_loop I _ ⟨f,0,rfl,rfl,Nat.zero_le _,h1,by rw [h3]; simp [allU],hr,hL,hc⟩ ?_
 clear h1 h3 hr hL hc
 rintro _ st ⟨f,i,rfl,rfl,hi,h1,h3,hr,hL,hc⟩
 simp only [l33_5,g33_22,g33_24,g33_23,List.length_map,hL,hc,eES,Nat.reduceBEq,↓reduceIte]
 by_cases hlt : i < L.length
 ·obtain ⟨o,hg⟩ : ∃ o,L[i]? = some o:=⟨L[i],List.getElem?_eq_getElem hlt⟩
  have e1:=wi64_s i _ hlt hl
  have ht:=acc_step b (uniq L PI.name) i
  rw [uniq_at hg] at ht
  simp only [lt_t hlt,eES]
  refine sini_items fr _ (b && allU (uniq L PI.name) i) (by first | rfl | exact h1 | simp only [h1,eES,eEX,Nat.reduceBEq,↓reduceIte,reduceCtorEq,Nat.reduceEqDiff]) (by first | rfl | exact h3 | simp only [h3,eES,eEX,Nat.reduceBEq,↓reduceIte,reduceCtorEq,Nat.reduceEqDiff]) _ L hl i o hg n (by first | rfl | exact hr | simp only [hr,eES,eEX,Nat.reduceBEq,↓reduceIte,reduceCtorEq,Nat.reduceEqDiff]) (by first | rfl | exact hL | simp only [hL,eES,eEX,Nat.reduceBEq,↓reduceIte,reduceCtorEq,Nat.reduceEqDiff]) (by first | rfl | exact hc | simp only [hc,eES,eEX,Nat.reduceBEq,↓reduceIte,reduceCtorEq,Nat.reduceEqDiff]) (by first | rfl | simp only [eES,eEX,Nat.reduceBEq,↓reduceIte,reduceCtorEq,Nat.reduceEqDiff]) (fun f h1 h3 hr hL hc => ?_)
  simp only [hc,e1,eES,Nat.reduceBEq,↓reduceIte]
  exact ⟨L.length - (i + 1),by omega,_,i + 1,rfl,rfl,by omega,(by first | rfl | exact h1 | simp only [h1,eES,eEX,Nat.reduceBEq,↓reduceIte,reduceCtorEq,Nat.reduceEqDiff]),by rw [ht] <;> first | exact h3 | simp only [h3,eES,eEX,Nat.reduceBEq,Int.reduceLE,Int.reduceLT,Int.reduceToNat,Int.reduceEq,↓reduceIte,reduceCtorEq,Nat.reducePow,Nat.reduceAdd,Nat.reduceLeDiff,Nat.reduceLT,Nat.reduceSub,Nat.reduceEqDiff],(by first | rfl | exact hr | simp only [hr,eES,eEX,Nat.reduceBEq,↓reduceIte,reduceCtorEq,Nat.reduceEqDiff]),(by first | rfl | exact hL | simp only [hL,eES,eEX,Nat.reduceBEq,↓reduceIte,reduceCtorEq,Nat.reduceEqDiff]),(by first | rfl | simp only [eES,eEX,Nat.reduceBEq,↓reduceIte,reduceCtorEq,Nat.reduceEqDiff])⟩
 ·rw [show i = L.length by omega] at h3
  simp only [lt_f hlt,eES]
  exact hx _ (by first | rfl | exact h1 | simp only [h1,eES,eEX,Nat.reduceBEq,↓reduceIte,reduceCtorEq,Nat.reduceEqDiff]) (by first | rfl | exact h3 | simp only [h3,eES,eEX,Nat.reduceBEq,↓reduceIte,reduceCtorEq,Nat.reduceEqDiff]) (by first | rfl | exact hr | simp only [hr,eES,eEX,Nat.reduceBEq,↓reduceIte,reduceCtorEq,Nat.reduceEqDiff])

include hP m1 h1 h3

theorem sinp (j : Nat) (x : PG) (hj : P.progs[j]? = some x) (ha : f 4 = .int .i64 (j : Nat)) (hc : f 5 = .int .i64 0) (hx : ∀ f,f 1 = .ptr 0 1 0 → f 3 = .bool (b && P.enums.all fun e => !(e.name == x.name)) → f 4 = .int .i64 (j : Nat) → Q (.exit 2) (⟨f,[fr],[]⟩ : St)) : awp Tryz.prog (.loop l33_0) ⟨f,[fr],[]⟩ Q:=by
 let I : Nat → St → Prop:=fun k st => ∃ f i,st = ⟨f,[fr],[]⟩ ∧ k = P.enums.length - i ∧ i ≤ P.enums.length ∧ f 1 = .ptr 0 1 0 ∧ f 3 = .bool (b && (P.enums.take i).all fun e => !(e.name == x.name)) ∧ f 4 = .int .i64 (j : Nat) ∧ f 5 = .int .i64 (i : Nat)
 have hjm : (P.progs.map gav)[j]? = some (.agg x.cells):=by simp [hj,gav]
 refine awp_loop I _ ⟨f,0,rfl,rfl,Nat.zero_le _,h1,by rw [h3]; simp,ha,hc⟩ ?_
 clear h1 h3 ha hc
 simp only [Pc] at m1
 simp only [PG.cells] at hjm
 rintro _ st ⟨f,i,rfl,rfl,hi,h1,h3,ha,hc⟩
 simp only [l33_0,g33_6,g33_8,g33_7,List.length_map,h1,m1,hc,eES,eEX,Nat.reduceBEq,↓reduceIte,Nat.reduceAdd]
 by_cases hlt : i < P.enums.length
 ·obtain ⟨o,hg⟩ : ∃ o,P.enums[i]? = some o:=⟨P.enums[i],List.getElem?_eq_getElem hlt⟩
  have hgm : (P.enums.map eav)[i]? = some (.agg o.cells):=by simp [hg,eav]
  have e1:=wi64_s i _ hlt hP.len2
  have ht:=take_all (q:=fun y : PE => !(y.name == x.name)) hg
  have hcm : (x.name == o.name) = (o.name == x.name):=by rw [Bool.eq_iff_iff,beq_iff_eq,beq_iff_eq]; exact ⟨Eq.symm,Eq.symm⟩
  have fin : ∀ f' : Fr,f' 1 = .ptr 0 1 0 → f' 3 = .bool ((b && (P.enums.take i).all fun y => !(y.name == x.name)) && !(o.name == x.name)) → f' 4 = .int .i64 (j : Nat) → f' 5 = .int .i64 ((i + 1 : Nat) : Int) → ∃ k,k < P.enums.length - i ∧ I k ⟨f',[fr],[]⟩:=by
   intro f' a1 a3 a4 a5
   exact ⟨P.enums.length - (i + 1),by omega,f',i + 1,rfl,rfl,by omega,a1,by rw [a3,ht,Bool.and_assoc],a4,a5⟩
  simp only [PE.cells] at hgm
  cases hb : (b && (P.enums.take i).all fun y => !(y.name == x.name))
  ·rw [hb] at fin h3
   simp only [lt_t hlt,h3,hc,e1,eES,Nat.reduceBEq,↓reduceIte]
   exact fin _ (by first | rfl | exact h1 | simp only [h1,eES,eEX,Nat.reduceBEq,↓reduceIte,reduceCtorEq,Nat.reduceEqDiff]) (by first | rfl | simp only [eES,eEX,Nat.reduceBEq,↓reduceIte,reduceCtorEq,Nat.reduceEqDiff]) (by first | rfl | exact ha | simp only [ha,eES,eEX,Nat.reduceBEq,↓reduceIte,reduceCtorEq,Nat.reduceEqDiff]) (by first | rfl | simp only [eES,eEX,Nat.reduceBEq,↓reduceIte,reduceCtorEq,Nat.reduceEqDiff])
  ·rw [hb,Bool.true_and] at fin
   rw [hb] at h3
   simp only [lt_t hlt,nneg,Int.toNat_natCast,aiaddr,hjm,hgm,astr,hcm,h1,m1,h3,ha,hc,e1,eES,eEX,Nat.reduceBEq,↓reduceIte,Nat.reduceAdd]
   exact fin _ (by first | rfl | exact h1 | simp only [h1,eES,eEX,Nat.reduceBEq,↓reduceIte,reduceCtorEq,Nat.reduceEqDiff]) (by first | rfl | simp only [eES,eEX,Nat.reduceBEq,↓reduceIte,reduceCtorEq,Nat.reduceEqDiff]) (by first | rfl | exact ha | simp only [ha,eES,eEX,Nat.reduceBEq,↓reduceIte,reduceCtorEq,Nat.reduceEqDiff]) (by first | rfl | simp only [eES,eEX,Nat.reduceBEq,↓reduceIte,reduceCtorEq,Nat.reduceEqDiff])
 ·have hf : (P.enums.take i).all (fun e => !(e.name == x.name)) = P.enums.all fun e => !(e.name == x.name):=by rw [List.take_of_length_le (by omega)]
  rw [hf] at h3
  simp only [lt_f hlt,eES]
  exact hx _ (by first | rfl | exact h1 | simp only [h1,eES,eEX,Nat.reduceBEq,↓reduceIte,reduceCtorEq,Nat.reduceEqDiff]) (by first | rfl | exact h3 | simp only [h3,eES,eEX,Nat.reduceBEq,↓reduceIte,reduceCtorEq,Nat.reduceEqDiff]) (by first | rfl | exact ha | simp only [ha,eES,eEX,Nat.reduceBEq,↓reduceIte,reduceCtorEq,Nat.reduceEqDiff])

theorem sinP (ha : f 4 = .int .i64 0) (hx : ∀ f,f 1 = .ptr 0 1 0 → f 3 = .bool (b && P.progs.all (sin1 P)) → Q (.exit 0) (⟨f,[fr],[]⟩ : St)) : awp Tryz.prog (.loop l33_3) ⟨f,[fr],[]⟩ Q:=by
 let I : Nat → St → Prop:=fun k st => ∃ f i,st = ⟨f,[fr],[]⟩ ∧ k = P.progs.length - i ∧ i ≤ P.progs.length ∧ f 1 = .ptr 0 1 0 ∧ f 3 = .bool (b && (P.progs.take i).all (sin1 P)) ∧ f 4 = .int .i64 (i : Nat)
 have m1':=m1
 refine awp_loop I _ ⟨f,0,rfl,rfl,Nat.zero_le _,h1,by rw [h3]; simp,ha⟩ ?_
 clear h1 h3 ha
 simp only [Pc] at m1
 rintro _ st ⟨f,i,rfl,rfl,hi,h1,h3,ha⟩
 simp only [l33_3,g33_3,g33_5,g33_9,g33_10,g33_4,List.length_map,h1,m1,ha,eES,eEX,Nat.reduceBEq,↓reduceIte,Nat.reduceAdd]
 by_cases hlt : i < P.progs.length
 ·obtain ⟨x,hg⟩ : ∃ x,P.progs[i]? = some x:=⟨P.progs[i],List.getElem?_eq_getElem hlt⟩
  have hgm : (P.progs.map gav)[i]? = some (.agg x.cells):=by simp [hg,gav]
  have e1:=wi64_s i _ hlt hP.len1
  have ht:=take_all (q:=sin1 P) hg
  have hq : sin1 P x = ((P.enums.all fun e => !(e.name == x.name)) && once x.ops PO.name):=rfl
  simp only [PG.cells] at hgm
  simp only [lt_t hlt,eES]
  refine sinp P hP fr m1' _ (b && (P.progs.take i).all (sin1 P)) (by first | rfl | exact h1 | simp only [h1,eES,eEX,Nat.reduceBEq,↓reduceIte,reduceCtorEq,Nat.reduceEqDiff]) (by first | rfl | exact h3 | simp only [h3,eES,eEX,Nat.reduceBEq,↓reduceIte,reduceCtorEq,Nat.reduceEqDiff]) _ i x hg (by first | rfl | exact ha | simp only [ha,eES,eEX,Nat.reduceBEq,↓reduceIte,reduceCtorEq,Nat.reduceEqDiff]) (by first | rfl | simp only [eES,eEX,Nat.reduceBEq,↓reduceIte,reduceCtorEq,Nat.reduceEqDiff]) (fun f h1 h3 ha => ?_)
  simp only [nneg,Int.toNat_natCast,aiaddr,hgm,h1,m1,ha,eES,eEX,Nat.reduceBEq,↓reduceIte,Nat.reduceAdd]
  refine sino_ops fr _ _ (by first | rfl | exact h1 | simp only [h1,eES,eEX,Nat.reduceBEq,↓reduceIte,reduceCtorEq,Nat.reduceEqDiff]) (by first | rfl | exact h3 | simp only [h3,eES,eEX,Nat.reduceBEq,↓reduceIte,reduceCtorEq,Nat.reduceEqDiff]) _ x.ops (hP.progs x (List.mem_of_getElem? hg)).len i (by first | rfl | exact ha | simp only [ha,eES,eEX,Nat.reduceBEq,↓reduceIte,reduceCtorEq,Nat.reduceEqDiff]) (by first | rfl | simp only [eES,eEX,Nat.reduceBEq,↓reduceIte,reduceCtorEq,Nat.reduceEqDiff]) (by first | rfl | simp only [eES,eEX,Nat.reduceBEq,↓reduceIte,reduceCtorEq,Nat.reduceEqDiff]) (fun f h1 h3 ha => ?_)
  simp only [ha,e1,eES,Nat.reduceBEq,↓reduceIte]
  exact ⟨P.progs.length - (i + 1),by omega,_,i + 1,rfl,rfl,by omega,(by first | rfl | exact h1 | simp only [h1,eES,eEX,Nat.reduceBEq,↓reduceIte,reduceCtorEq,Nat.reduceEqDiff]),by rw [ht,hq,← Bool.and_assoc,← Bool.and_assoc] <;> first | exact h3 | simp only [h3,eES,eEX,Nat.reduceBEq,Int.reduceLE,Int.reduceLT,Int.reduceToNat,Int.reduceEq,↓reduceIte,reduceCtorEq,Nat.reducePow,Nat.reduceAdd,Nat.reduceLeDiff,Nat.reduceLT,Nat.reduceSub,Nat.reduceEqDiff],(by first | rfl | simp only [eES,eEX,Nat.reduceBEq,↓reduceIte,reduceCtorEq,Nat.reduceEqDiff])⟩
 ·have hf : (P.progs.take i).all (sin1 P) = P.progs.all (sin1 P):=by rw [List.take_of_length_le (by omega)]
  rw [hf] at h3
  simp only [lt_f hlt,eES]
  exact hx _ (by first | rfl | exact h1 | simp only [h1,eES,eEX,Nat.reduceBEq,↓reduceIte,reduceCtorEq,Nat.reduceEqDiff]) (by first | rfl | exact h3 | simp only [h3,eES,eEX,Nat.reduceBEq,↓reduceIte,reduceCtorEq,Nat.reduceEqDiff])

theorem sinE (ha : f 9 = .int .i64 0) (hx : ∀ f,f 1 = .ptr 0 1 0 → f 3 = .bool (b && P.enums.all sin2) → Q (.exit 8) (⟨f,[fr],[]⟩ : St)) : awp Tryz.prog (.loop l33_6) ⟨f,[fr],[]⟩ Q:=by
 let I : Nat → St → Prop:=fun k st => ∃ f i,st = ⟨f,[fr],[]⟩ ∧ k = P.enums.length - i ∧ i ≤ P.enums.length ∧ f 1 = .ptr 0 1 0 ∧ f 3 = .bool (b && (P.enums.take i).all sin2) ∧ f 9 = .int .i64 (i : Nat)
 refine awp_loop I _ ⟨f,0,rfl,rfl,Nat.zero_le _,h1,by rw [h3]; simp,ha⟩ ?_
 clear h1 h3 ha
 simp only [Pc] at m1
 rintro _ st ⟨f,i,rfl,rfl,hi,h1,h3,ha⟩
 simp only [l33_6,g33_18,g33_20,g33_21,g33_19,List.length_map,h1,m1,ha,eES,eEX,Nat.reduceBEq,↓reduceIte,Nat.reduceAdd]
 by_cases hlt : i < P.enums.length
 ·obtain ⟨x,hg⟩ : ∃ x,P.enums[i]? = some x:=⟨P.enums[i],List.getElem?_eq_getElem hlt⟩
  have hgm : (P.enums.map eav)[i]? = some (.agg x.cells):=by simp [hg,eav]
  have e1:=wi64_s i _ hlt hP.len2
  have ht:=take_all (q:=sin2) hg
  have hq : sin2 x = once x.items PI.name:=rfl
  simp only [PE.cells] at hgm
  simp only [lt_t hlt,nneg,Int.toNat_natCast,aiaddr,hgm,h1,m1,ha,eES,eEX,Nat.reduceBEq,↓reduceIte,Nat.reduceAdd]
  refine sino_items fr _ (b && (P.enums.take i).all sin2) (by first | rfl | exact h1 | simp only [h1,eES,eEX,Nat.reduceBEq,↓reduceIte,reduceCtorEq,Nat.reduceEqDiff]) (by first | rfl | exact h3 | simp only [h3,eES,eEX,Nat.reduceBEq,↓reduceIte,reduceCtorEq,Nat.reduceEqDiff]) _ x.items (hP.enums x (List.mem_of_getElem? hg)).len1 i (by first | rfl | exact ha | simp only [ha,eES,eEX,Nat.reduceBEq,↓reduceIte,reduceCtorEq,Nat.reduceEqDiff]) (by first | rfl | simp only [eES,eEX,Nat.reduceBEq,↓reduceIte,reduceCtorEq,Nat.reduceEqDiff]) (by first | rfl | simp only [eES,eEX,Nat.reduceBEq,↓reduceIte,reduceCtorEq,Nat.reduceEqDiff]) (fun f h1 h3 ha => ?_)
  simp only [ha,e1,eES,Nat.reduceBEq,↓reduceIte]
  exact ⟨P.enums.length - (i + 1),by omega,_,i + 1,rfl,rfl,by omega,(by first | rfl | exact h1 | simp only [h1,eES,eEX,Nat.reduceBEq,↓reduceIte,reduceCtorEq,Nat.reduceEqDiff]),by rw [ht,hq,← Bool.and_assoc] <;> first | exact h3 | simp only [h3,eES,eEX,Nat.reduceBEq,Int.reduceLE,Int.reduceLT,Int.reduceToNat,Int.reduceEq,↓reduceIte,reduceCtorEq,Nat.reducePow,Nat.reduceAdd,Nat.reduceLeDiff,Nat.reduceLT,Nat.reduceSub,Nat.reduceEqDiff],(by first | rfl | simp only [eES,eEX,Nat.reduceBEq,↓reduceIte,reduceCtorEq,Nat.reduceEqDiff])⟩
 ·have hf : (P.enums.take i).all sin2 = P.enums.all sin2:=by rw [List.take_of_length_le (by omega)]
  rw [hf] at h3
  simp only [lt_f hlt,eES]
  exact hx _ (by first | rfl | exact h1 | simp only [h1,eES,eEX,Nat.reduceBEq,↓reduceIte,reduceCtorEq,Nat.reduceEqDiff]) (by first | rfl | exact h3 | simp only [h3,eES,eEX,Nat.reduceBEq,↓reduceIte,reduceCtorEq,Nat.reduceEqDiff])

end

theorem z33 {M : Nat} (P : PL) (hP : P.ok M) : Fn1 Tryz.prog 33 [P.av] (.bool (sin P)):=by
 have e0 : P.av = .agg [.list (P.progs.map gav),.list (P.enums.map eav)]:=rfl
 refine fn1_of_awp (rc:=r33) (rs:=o33) Tryz.func33 rfl rfl Tryz.ntmps33 k33 q33 (by simp) ?_
 simp only [g33_0,g33_1,g33_2,g33_17,g33_28,r33,o33,e0,eES,eEX]
 refine sinP P hP _ (by first | rfl | simp only [eES,eEX,Nat.reduceBEq,↓reduceIte,reduceCtorEq,Nat.reduceEqDiff]) _ true (by first | rfl | simp only [eES,eEX,Nat.reduceBEq,↓reduceIte,reduceCtorEq,Nat.reduceEqDiff]) (by first | rfl | simp only [eES,eEX,Nat.reduceBEq,↓reduceIte,reduceCtorEq,Nat.reduceEqDiff]) _ (by first | rfl | simp only [eES,eEX,Nat.reduceBEq,↓reduceIte,reduceCtorEq,Nat.reduceEqDiff]) (fun f h1 h3 => ?_)
 simp only [eES,↓reduceIte]
 refine sinE P hP _ (by first | rfl | simp only [eES,eEX,Nat.reduceBEq,↓reduceIte,reduceCtorEq,Nat.reduceEqDiff]) _ _ (by first | rfl | exact h1 | simp only [h1,eES,eEX,Nat.reduceBEq,↓reduceIte,reduceCtorEq,Nat.reduceEqDiff]) (by first | rfl | exact h3 | simp only [h3,eES,eEX,Nat.reduceBEq,↓reduceIte,reduceCtorEq,Nat.reduceEqDiff]) _ (by first | rfl | simp only [eES,eEX,Nat.reduceBEq,↓reduceIte,reduceCtorEq,Nat.reduceEqDiff]) (fun f h1 h3 => ?_)
 simp only [h3,sin,Bool.true_and,eES,Nat.reduceBEq,↓reduceIte]

end Go.Proofs.YtelhohgmmhbahaaGreatDoor.Va

set_option linter.unusedSimpArgs false
namespace Go.Proofs.YtelhohgmmhbahaaGreatDoor.Va
open Go Am Rc Bt Br

theorem z166 : Fn1 Tryz.prog 166 [.str alias] (.int .i64 7):=by
 refine fn1_of_awp (rc:=r166) (rs:=o166) Tryz.func166 rfl rfl Tryz.ntmps166 k166 q166 (by simp) ?_
 have b1 : (alias == ([100,101,112,114,101,99,97,116,101,100] : List UInt8)) = false:=by decide
 have b2 : (alias == ([115,101,99,114,101,116] : List UInt8)) = false:=by decide
 have b3 : (alias == ([105,100,101,109,112,111,116,101,110,116] : List UInt8)) = false:=by decide
 have b4 : (alias == ([100,111,99] : List UInt8)) = false:=by decide
 have b5 : (alias == ([97,108,105,97,115] : List UInt8)) = true:=by decide
 simp only [g166_0,g166_1,g166_2,g166_3,g166_4,g166_5,g166_6,g166_7,g166_8,g166_9,g166_10,g166_11,g166_12,g166_13,g166_14,g166_15,g166_16,g166_17,g166_18,g166_19,r166,o166,astr,b1,b2,b3,b4,b5,eES,Nat.reduceBEq]

theorem z167 : Fn1 Tryz.prog 167 [.str alias,.int .i64 4] (.bool true):=by
 refine fn1_of_awp (rc:=r167) (rs:=o167) Tryz.func167 rfl rfl Tryz.ntmps167 k167 q167 (by simp) ?_
 have b1 : (alias == ([100,101,112,114,101,99,97,116,101,100] : List UInt8)) = false:=by decide
 have b4 : (alias == ([100,111,99] : List UInt8)) = false:=by decide
 have b5 : (alias == ([97,108,105,97,115] : List UInt8)) = true:=by decide
 have c2 : ((4 : Int) == 2) = false:=rfl
 have c4 : ((4 : Int) == 4) = true:=rfl
 simp only [g167_0,g167_1,g167_2,g167_3,g167_4,g167_5,g167_6,g167_7,g167_8,g167_9,g167_10,g167_11,g167_12,g167_13,g167_14,g167_15,g167_16,g167_17,g167_18,r167,o167,astr,b1,b4,b5,c2,c4,eES,Nat.reduceBEq,↓reduceIte]

section
variable (kd : Int) (b : Nat) (t : List UInt8) (l p s r : List AV) (ht : t.length + 8 ≤ maxLen)
include ht

theorem z220 : Fn1 Tryz.prog 220 [.int .i64 7,vo kd b t l p s r] (.bool (fitv 7 kd b t l p s r)):=by
 have hl:=y190 kd b t l p s r
 simp only [vo] at hl
 have n1 : (kd != 7) = !(kd == 7):=rfl
 have k7 : isk 7 = true:=rfl
 have t7 : txk 7 = true:=rfl
 have f7 : fitn 7 b = true:=rfl
 have c8 : ((7 : Int) == 8) = false:=rfl
 have c7 : ((7 : Int) != 7) = false:=rfl
 refine fn1_of_awp (rc:=r220) (rs:=o220) Tryz.func220 rfl rfl Tryz.ntmps220 k220 q220 (by simp) ?_
 simp only [g220_0,g220_1,g220_2,g220_3,g220_4,g220_5,g220_6,g220_7,g220_8,g220_9,g220_10,g220_11,g220_12,g220_13,g220_14,g220_15,g220_16,g220_17,r220,o220,vo,fitv,k7,f7,c7,Bool.true_and,Bool.and_true,Bool.false_or,eES,eEX,Nat.reduceBEq]
 refine aops_call (x189 7) rfl rfl rfl (.inl rfl) ?_
 simp only [k7,n1,Bool.not_true,eES,eEX,Nat.reduceBEq,↓reduceIte,Nat.reduceAdd]
 by_cases hk : kd = 7
 ·subst hk
  have a1 : ((7 : Int) == 7) = true:=rfl
  simp only [a1,Bool.not_true,Bool.true_and,t7,eES,eEX,Nat.reduceBEq,↓reduceIte,Nat.reduceAdd,Nat.reduceLeDiff]
  refine aops_call hl rfl rfl rfl (.inl rfl) ?_
  cases lon l p s r
  ·simp only [Bool.not_false,Bool.false_and,eES,Nat.reduceBEq]
  simp only [Bool.not_true,Bool.true_and,eES,Nat.reduceBEq]
  refine aops_call (x238 7) rfl rfl rfl (.inl rfl) ?_
  simp only [t7,eES,eEX,Nat.reduceBEq,↓reduceIte,Nat.reduceAdd]
  cases a2 : ((b : Int) == 0)
  ·simp only [Bool.false_and,eES,Nat.reduceBEq]
  cases a3 : decide ((t.length : Int) ≤ 4096)
  ·simp only [a3,Bool.false_and,Bool.and_false,eES,eEX,Nat.reduceBEq,↓reduceIte,Nat.reduceAdd]
  simp only [a3,c8,Bool.true_and,eES,eEX,Nat.reduceBEq,↓reduceIte,Nat.reduceAdd]
  refine aops_call (c169 t ht) rfl rfl rfl (.inl rfl) ?_
  simp only [eES,Nat.reduceBEq]
 ·have a1 : (kd == 7) = false:=by simp [hk]
  simp only [a1,Bool.not_false,Bool.false_and,eES,Nat.reduceBEq]

theorem z168 : Fn1 Tryz.prog 168 [nv kd b t l p s r] (.bool (fitv 7 kd b t l p s r)):=by
 have hf:=z220 kd b t l p s r ht
 have b0 : ((7 : Int) != 0) = true:=rfl
 simp only [vo] at hf
 refine fn1_of_awp (rc:=r168) (rs:=o168) Tryz.func168 rfl rfl Tryz.ntmps168 k168 q168 (by simp) ?_
 simp only [g168_0,g168_1,g168_2,r168,o168,nv,eES,eEX,Nat.reduceBEq,Nat.reduceAdd]
 refine aops_call z166 rfl rfl rfl (.inl rfl) ?_
 simp only [b0,eES,eEX,Nat.reduceBEq,↓reduceIte,Nat.reduceAdd]
 cases a1 : (kd == 7)
 ·have e : fitv 7 kd b t l p s r = false:=by unfold fitv; rw [a1]; rfl
  simp only [e,eES,Nat.reduceBEq]
 ·simp only [eES,eEX,Nat.reduceBEq,↓reduceIte,Nat.reduceAdd,Nat.reduceLeDiff]
  refine aops_call hf rfl rfl rfl (.inl rfl) ?_
  simp only [eES,Nat.reduceBEq]

def RcI (k : Nat) (st : St) : Prop :=
 ∃ f i,st = ⟨f,[noObs],[]⟩ ∧ k = 1 - i ∧ i ≤ 1 ∧ (i = 1 → fitv 7 kd b t l p s r = true) ∧ f 0 = .list [nv kd b t l p s r] ∧ f 1 = .int .i64 4 ∧ f 5 = .int .i64 (i : Nat)

theorem z111 : Fn1 Tryz.prog 111 [.list [nv kd b t l p s r],.int .i64 4] (.int .i64 (if fitv 7 kd b t l p s r = true then 0 else 12)):=by
 have b0 : decide (((1 : Nat) : Int) > 8) = false:=rfl
 have hr:=z168 kd b t l p s r ht
 simp only [nv] at hr
 refine fn1_of_awp (rc:=r111) (rs:=o111) Tryz.func111 rfl rfl Tryz.ntmps111 k111 q111 (by simp) ?_
 simp only [g111_0,g111_1,g111_2,g111_3,g111_16,r111,o111,List.length_cons,List.length_nil,Nat.zero_add,b0,eES,Nat.reduceBEq,↓reduceIte]
 refine awp_loop (RcI kd b t l p s r) 1 ⟨_,0,rfl,rfl,Nat.zero_le _,(fun h => by cases h),(by first | rfl | simp only [eES,eEX,Nat.reduceBEq,↓reduceIte,reduceCtorEq,Nat.reduceEqDiff]),(by first | rfl | simp only [eES,eEX,Nat.reduceBEq,↓reduceIte,reduceCtorEq,Nat.reduceEqDiff]),(by first | rfl | simp only [eES,eEX,Nat.reduceBEq,↓reduceIte,reduceCtorEq,Nat.reduceEqDiff])⟩ ?_
 rintro _ st ⟨f,i,rfl,rfl,hi,hf,h0,h1,h5⟩
 simp only [nv] at h0
 simp only [l111_0,g111_4,g111_6,g111_7,g111_8,g111_9,g111_10,g111_11,g111_12,g111_13,g111_14,g111_15,g111_5,h0,h5,List.length_cons,List.length_nil,Nat.zero_add,eES,Nat.reduceBEq,↓reduceIte]
 rcases Nat.le_one_iff_eq_zero_or_eq_one.1 hi with rfl | rfl
 ·have c0 : decide (((0 : Nat) : Int) < ((1 : Nat) : Int)) = true:=rfl
  have c1 : decide (((0 : Nat) : Int) > 0) = false:=rfl
  have d7 : ((7 : Int) == 0) = false:=rfl
  have e1 : IntKind.i64.wrap (((0 : Nat) : Int) + 1) = ((1 : Nat) : Int):=rfl
  have z0 : (0 ≤ ((0 : Nat) : Int)) = True:=by simp
  have z1 : Int.toNat ((0 : Nat) : Int) = 0:=rfl
  simp only [c0,z0,z1,aiaddr,List.getElem?_cons_zero,h0,h5,eES,eEX,Nat.reduceBEq,↓reduceIte,Nat.reduceAdd,Nat.reduceSub]
  refine aops_call z166 rfl rfl rfl (.inl rfl) ?_
  simp only [d7,z0,z1,aiaddr,List.getElem?_cons_zero,h0,h1,h5,eES,eEX,Nat.reduceBEq,↓reduceIte,Nat.reduceAdd]
  refine aops_call z167 rfl rfl rfl (.inl rfl) ?_
  simp only [Bool.not_true,z0,z1,aiaddr,List.getElem?_cons_zero,h0,h5,eES,eEX,Nat.reduceBEq,↓reduceIte,Nat.reduceAdd,Nat.reduceLeDiff]
  refine aops_call hr rfl rfl rfl (.inl rfl) ?_
  cases hfv : fitv 7 kd b t l p s r
  ·simp only [Bool.not_false,Bool.false_eq_true,eES,Nat.reduceBEq,↓reduceIte]
  ·simp only [Bool.not_true,c1,h5,e1,eES,Nat.reduceBEq,↓reduceIte]
   exact ⟨0,by omega,_,1,rfl,rfl,Nat.le_refl _,fun _ => hfv,(by first | rfl | exact h0 | simp only [h0,eES,eEX,Nat.reduceBEq,↓reduceIte,reduceCtorEq,Nat.reduceEqDiff]),(by first | rfl | exact h1 | simp only [h1,eES,eEX,Nat.reduceBEq,↓reduceIte,reduceCtorEq,Nat.reduceEqDiff]),(by first | rfl | simp only [eES,eEX,Nat.reduceBEq,↓reduceIte,reduceCtorEq,Nat.reduceEqDiff])⟩
 ·have c0 : decide (((1 : Nat) : Int) < ((1 : Nat) : Int)) = false:=rfl
  simp only [c0,hf rfl,eES,Nat.reduceBEq,↓reduceIte,Nat.reduceSub]

end

section
variable (P : PL)

def aimR (P : PL) (o : PO) : Bool :=
 if o.kind = 10 then decide (o.target ≥ 0) && decide (o.target < (P.progs.length : Int)) && o.card != 3
 else if o.kind = 9 then decide (o.target ≥ 0) && decide (o.target < (P.enums.length : Int)) else o.target == -1

theorem z170 (o : PO) : Fn1 Tryz.prog 170 [P.av,oav o] (.bool (aimR P o)):=by
 have e0 : P.av = .agg [.list (P.progs.map gav),.list (P.enums.map eav)]:=rfl
 refine fn1_of_awp (rc:=r170) (rs:=o170) Tryz.func170 rfl rfl Tryz.ntmps170 k170 q170 (by simp) ?_
 simp only [g170_0,g170_1,g170_2,g170_3,g170_4,g170_5,g170_6,r170,o170,e0,oav,PO.cells,aimR,eES,eEX,Nat.reduceBEq,↓reduceIte,Nat.reduceAdd]
 by_cases h : o.kind = 10
 ·have b0 : (o.kind == 10) = true:=by simp [h]
  simp only [b0,if_pos h,eES,eEX,Nat.reduceBEq,↓reduceIte,Nat.reduceAdd]
  cases a1 : decide (o.target ≥ 0) <;> cases a2 : decide (o.target < (P.progs.length : Int)) <;> simp only [a2,Bool.true_and,Bool.false_and,List.length_map,eES,eEX,Nat.reduceBEq,↓reduceIte,Nat.reduceAdd]
 ·have b0 : (o.kind == 10) = false:=by simp [h]
  by_cases h9 : o.kind = 9
  ·have b1 : (o.kind == 9) = true:=by simp [h9]
   simp only [b0,b1,if_neg h,if_pos h9,eES,eEX,Nat.reduceBEq,↓reduceIte,Nat.reduceAdd]
   cases a1 : decide (o.target ≥ 0) <;> simp only [Bool.true_and,Bool.false_and,List.length_map,eES,eEX,Nat.reduceBEq,↓reduceIte,Nat.reduceAdd]
  ·have b1 : (o.kind == 9) = false:=by simp [h9]
   simp only [b0,b1,if_neg h,if_neg h9,eES,eEX,Nat.reduceBEq,↓reduceIte,Nat.reduceAdd]

theorem opr_eq (o : PO) : (arg1 P o && uok o) = (vld o.alias && (decide ((o.alias.length : Int) ≤ 4096) && (decide (o.card ≥ 1) && (decide (o.card ≤ 5) && (decide (o.kind ≥ 1) && (decide (o.kind ≤ 10) && (key o && aimR P o && uok o))))))):=by
 have h : aim P o = (decide (o.kind ≥ 1) && decide (o.kind ≤ 10) && aimR P o):=by
  unfold aim aimR
  by_cases h : o.kind = 10
  ·rw [if_pos h,if_pos h,h]; rfl
  ·rw [if_neg h,if_neg h]
   by_cases h9 : o.kind = 9
   ·rw [if_pos h9,if_pos h9,h9]; rfl
   ·rw [if_neg h9,if_neg h9]
    congr 1
    unfold isk
    rw [Bool.eq_iff_iff,Bool.and_eq_true,Bool.and_eq_true]
    simp only [decide_eq_true_eq]
    omega
 unfold arg1
 rw [h]
 cases vld o.alias <;> cases decide ((o.alias.length : Int) ≤ 4096) <;> cases decide (o.card ≥ 1) <;> cases decide (o.card ≤ 5) <;> cases decide (o.kind ≥ 1) <;> cases decide (o.kind ≤ 10) <;> cases key o <;> cases aimR P o <;> cases uok o <;> rfl

theorem z113 (o : PO) (ha : o.alias.length + 8 ≤ maxLen) : Fn1 Tryz.prog 113 [P.av,oav o] (.bool (arg1 P o && uok o)):=by
 have e0 : P.av = .agg [.list (P.progs.map gav),.list (P.enums.map eav)]:=rfl
 have n1 : decide ((o.alias.length : Int) > 4096) = !decide ((o.alias.length : Int) ≤ 4096):=(by rw [Bool.eq_iff_iff]; simp only [decide_eq_true_eq,Bool.not_eq_true',decide_eq_false_iff_not]; omega)
 have n2 : decide (o.card < 1) = !decide (o.card ≥ 1):=(by rw [Bool.eq_iff_iff]; simp only [decide_eq_true_eq,Bool.not_eq_true',decide_eq_false_iff_not]; omega)
 have n3 : decide (o.card > 5) = !decide (o.card ≤ 5):=(by rw [Bool.eq_iff_iff]; simp only [decide_eq_true_eq,Bool.not_eq_true',decide_eq_false_iff_not]; omega)
 have n4 : decide (o.kind < 1) = !decide (o.kind ≥ 1):=(by rw [Bool.eq_iff_iff]; simp only [decide_eq_true_eq,Bool.not_eq_true',decide_eq_false_iff_not]; omega)
 have n5 : decide (o.kind > 10) = !decide (o.kind ≤ 10):=(by rw [Bool.eq_iff_iff]; simp only [decide_eq_true_eq,Bool.not_eq_true',decide_eq_false_iff_not]; omega)
 have ht : Fn1 Tryz.prog 170 [.agg [.list (P.progs.map gav),.list (P.enums.map eav)],oav o] (.bool (aimR P o)):=z170 P o
 have hk1 : o.card ≠ 5 → key o = (o.key == 0):=fun h => by unfold key; rw [if_neg h]
 have hk2 : o.card = 5 → key o = ((decide (o.key ≥ 1) && decide (o.key ≤ 5)) || o.key == 7):=fun h => by
  unfold key
  rw [if_pos h,Bool.eq_iff_iff]
  simp only [Bool.and_eq_true,Bool.or_eq_true,decide_eq_true_eq,beq_iff_eq,bne_iff_ne,ne_eq]
  omega
 have hu : uok o = (o.union == -1 || o.card == 2):=rfl
 simp only [oav,PO.cells] at ht
 rw [opr_eq]
 refine fn1_of_awp (rc:=r113) (rs:=o113) Tryz.func113 rfl rfl Tryz.ntmps113 k113 q113 (by simp) ?_
 simp only [g113_0,g113_1,g113_2,g113_3,g113_4,g113_5,r113,o113,e0,oav,PO.cells,eES,eEX,Nat.reduceBEq,Nat.reduceAdd]
 refine aops_call (c169 o.alias ha) rfl rfl rfl (.inl rfl) ?_
 cases vld o.alias
 ·simp only [Bool.not_false,Bool.false_and,eES,Nat.reduceBEq]
 cases a1 : decide ((o.alias.length : Int) ≤ 4096)
 ·simp only [Bool.not_true,Bool.not_false,Bool.true_and,n1,a1,Bool.false_and,eES,eEX,Nat.reduceBEq,↓reduceIte,Nat.reduceAdd]
 cases a2 : decide (o.card ≥ 1)
 ·simp only [Bool.not_true,Bool.not_false,Bool.true_and,n1,n2,a1,a2,Bool.false_and,eES,eEX,Nat.reduceBEq,↓reduceIte,Nat.reduceAdd]
 cases a3 : decide (o.card ≤ 5)
 ·simp only [Bool.not_true,Bool.not_false,Bool.true_and,n1,n2,n3,a1,a2,a3,Bool.false_and,eES,eEX,Nat.reduceBEq,↓reduceIte,Nat.reduceAdd]
 cases a4 : decide (o.kind ≥ 1)
 ·simp only [Bool.not_true,Bool.not_false,Bool.true_and,n1,n2,n3,n4,a1,a2,a3,a4,Bool.false_and,eES,eEX,Nat.reduceBEq,↓reduceIte,Nat.reduceAdd]
 cases a5 : decide (o.kind ≤ 10)
 ·simp only [Bool.not_true,Bool.not_false,Bool.true_and,n1,n2,n3,n4,n5,a1,a2,a3,a4,a5,Bool.false_and,eES,eEX,Nat.reduceBEq,↓reduceIte,Nat.reduceAdd]
 have fin : ∀ (f : Fr) (fr : Nat → Ob) (kb : Bool),kb = key o → f 2 = .ptr 0 2 0 → fr 2 = .cells [.list (P.progs.map gav),.list (P.enums.map eav)] → f 3 = .ptr 0 3 0 → fr 3 = .cells [.int .i64 o.num,.str o.name,.str o.alias,.int .i64 o.card,.int .i64 o.key,.int .i64 o.kind,.int .i64 o.target,.int .i64 o.union] → f 5 = .bool kb →
   aops Tryz.prog g113_6 ⟨f,[fr],[]⟩ (Kc Tryz.prog .ret (AEnds [.tmp 4] 0 fun x _ => x = .bool (key o && aimR P o && uok o)) .normal):=by
  intro f fr kb hkb h2 m2 h3 m3 h5
  subst hkb
  simp only [g113_6,h5,eES,Nat.reduceBEq]
  cases key o
  ·simp only [Bool.false_and,eES,Nat.reduceBEq]
  simp only [h2,m2,h3,m3,Bool.true_and,eES,eEX,Nat.reduceBEq,↓reduceIte,Nat.reduceAdd,Nat.reduceLeDiff]
  refine aops_call ht rfl rfl rfl (.inl rfl) ?_
  cases aimR P o
  ·simp only [Bool.false_and,eES,Nat.reduceBEq]
  rw [hu]
  cases c1 : (o.union == -1) <;> simp only [h3,m3,c1,Bool.true_and,Bool.true_or,Bool.false_or,eES,eEX,Nat.reduceBEq,↓reduceIte,Nat.reduceAdd]
 by_cases h5 : o.card = 5
 ·have b5 : (o.card != 5) = false:=by simp [h5]
  have hk:=hk2 h5
  simp only [Bool.not_true,Bool.true_and,n1,n2,n3,n4,n5,a1,a2,a3,a4,a5,eES,eEX,Nat.reduceBEq,↓reduceIte,Nat.reduceAdd]
  cases c1 : decide (o.key ≥ 1) <;> cases c2 : decide (o.key ≤ 5) <;> cases c3 : (o.key == 7) <;> simp only [c2,c3,b5,eES,eEX,Nat.reduceBEq,↓reduceIte,Nat.reduceAdd]
  all_goals
   rw [c1,c2,c3] at hk
   exact fin _ _ _ hk.symm (by first | rfl | simp only [eES,eEX,Nat.reduceBEq,↓reduceIte,reduceCtorEq,Nat.reduceEqDiff]) (by first | rfl | simp only [eES,eEX,Nat.reduceBEq,↓reduceIte,reduceCtorEq,Nat.reduceEqDiff]) (by first | rfl | simp only [eES,eEX,Nat.reduceBEq,↓reduceIte,reduceCtorEq,Nat.reduceEqDiff]) (by first | rfl | simp only [eES,eEX,Nat.reduceBEq,↓reduceIte,reduceCtorEq,Nat.reduceEqDiff]) (by first | rfl | simp only [eES,eEX,Nat.reduceBEq,↓reduceIte,reduceCtorEq,Nat.reduceEqDiff])
 ·have b5 : (o.card != 5) = true:=by simp [h5]
  have hk:=hk1 h5
  simp only [Bool.not_true,Bool.true_and,n1,n2,n3,n4,n5,a1,a2,a3,a4,a5,eES,eEX,Nat.reduceBEq,↓reduceIte,Nat.reduceAdd]
  cases c1 : decide (o.key ≥ 1) <;> cases c2 : decide (o.key ≤ 5) <;> cases c3 : (o.key == 7) <;> simp only [c2,c3,b5,eES,eEX,Nat.reduceBEq,↓reduceIte,Nat.reduceAdd]
  all_goals exact fin _ _ _ hk.symm (by first | rfl | simp only [eES,eEX,Nat.reduceBEq,↓reduceIte,reduceCtorEq,Nat.reduceEqDiff]) (by first | rfl | simp only [eES,eEX,Nat.reduceBEq,↓reduceIte,reduceCtorEq,Nat.reduceEqDiff]) (by first | rfl | simp only [eES,eEX,Nat.reduceBEq,↓reduceIte,reduceCtorEq,Nat.reduceEqDiff]) (by first | rfl | simp only [eES,eEX,Nat.reduceBEq,↓reduceIte,reduceCtorEq,Nat.reduceEqDiff]) (by first | rfl | simp only [eES,eEX,Nat.reduceBEq,↓reduceIte,reduceCtorEq,Nat.reduceEqDiff])

end

end Go.Proofs.YtelhohgmmhbahaaGreatDoor.Va

set_option linter.unusedSimpArgs false
namespace Go.Proofs.YtelhohgmmhbahaaGreatDoor.Va
open Go Am Rc Bt Br

def JoI (g : PG) (k : Nat) (st : St) : Prop :=
 ∃ f fr i n b,st = ⟨f,[fr],[]⟩ ∧ k = g.ops.length - i ∧ joinU g.ops 0 (-1) = joinU (g.ops.drop i) n b ∧ 0 ≤ n ∧ n ≤ (i : Int) ∧ ((i = 0 ∧ b = -1) ∨ ∃ j o,i = j + 1 ∧ g.ops[j]? = some o ∧ b = o.union) ∧ f 1 = .ptr 0 1 0 ∧ f 3 = .int .i64 n ∧ f 4 = .int .i64 (i : Nat) ∧ fr 1 = .cells g.cells

theorem z112 (g : PG) (hl : g.ops.length ≤ 9223372036854775000) : Fn1 Tryz.prog 112 [gav g] (.bool (uniB g)):=by
 refine fn1_of_awp (rc:=r112) (rs:=o112) Tryz.func112 rfl rfl Tryz.ntmps112 k112 q112 (by simp) ?_
 simp only [g112_0,g112_1,g112_2,g112_10,r112,o112,gav,PG.cells,eES,eEX]
 refine awp_loop (JoI g) _ ⟨_,_,0,0,-1,rfl,rfl,rfl,by decide,by decide,.inl ⟨rfl,rfl⟩,(by first | rfl | simp only [eES,eEX,Nat.reduceBEq,↓reduceIte,reduceCtorEq,Nat.reduceEqDiff]),(by first | rfl | simp only [eES,eEX,Nat.reduceBEq,↓reduceIte,reduceCtorEq,Nat.reduceEqDiff]),(by first | rfl | simp only [eES,eEX,Nat.reduceBEq,↓reduceIte,reduceCtorEq,Nat.reduceEqDiff]),(by first | rfl | simp only [eES,eEX,Nat.reduceBEq,↓reduceIte,reduceCtorEq,Nat.reduceEqDiff])⟩ ?_
 rintro _ st ⟨f,fr,i,n,b,rfl,rfl,hj,hn0,hni,hb,h1,h3,h4,m1⟩
 simp only [PG.cells] at m1
 simp only [l112_0,g112_3,g112_5,g112_6,g112_7,g112_8,g112_9,g112_4,List.length_map,h1,h4,m1,eES,eEX,Nat.reduceBEq,↓reduceIte,Nat.reduceAdd]
 by_cases hlt : i < g.ops.length
 ·obtain ⟨o,hi⟩ : ∃ o,g.ops[i]? = some o:=⟨g.ops[i],List.getElem?_eq_getElem hlt⟩
  have hg : (g.ops.map fun o => AV.agg o.cells)[i]? = some (.agg o.cells):=by simp [hi]
  have e1:=wi64_s i _ hlt (by simp only [maxLen]; omega)
  have en : IntKind.i64.wrap (n + 1) = n + 1:=by rw [wi64]; omega
  rw [joinU_drop hi] at hj
  have fin : ∀ (f' : Fr) (n' : Int),(if o.union = n then n' = n + 1 else n' = n) → joinU g.ops 0 (-1) = joinU (g.ops.drop (i + 1)) n' o.union → f' 1 = .ptr 0 1 0 → f' 3 = .int .i64 n' → f' 4 = .int .i64 ((i + 1 : Nat) : Int) → ∃ k,k < g.ops.length - i ∧ JoI g k ⟨f',[fr],[]⟩:=by
   intro f' n' a c d e f4
   refine ⟨g.ops.length - (i + 1),by omega,f',fr,i + 1,n',o.union,rfl,rfl,c,?_,?_,.inr ⟨i,o,rfl,hi,rfl⟩,d,e,f4,m1⟩ <;> split at a <;> omega
  simp only [PO.cells] at hg
  simp only [lt_t hlt,nneg,Int.toNat_natCast,aiaddr,hg,PO.cells,h1,h3,h4,m1,eES,eEX,Nat.reduceBEq,↓reduceIte,Nat.reduceAdd]
  by_cases a1 : o.union = n
  ·have b1 : (o.union == n) = true:=by simp [a1]
   rw [if_pos a1,← a1] at hj
   simp only [b1,h3,h4,en,e1,eES,Nat.reduceBEq,↓reduceIte]
   exact fin _ (n + 1) (by rw [if_pos a1]) (by rw [hj,a1]) (by first | rfl | exact h1 | simp only [h1,eES,eEX,Nat.reduceBEq,↓reduceIte,reduceCtorEq,Nat.reduceEqDiff]) (by first | rfl | simp only [eES,eEX,Nat.reduceBEq,↓reduceIte,reduceCtorEq,Nat.reduceEqDiff]) (by first | rfl | simp only [eES,eEX,Nat.reduceBEq,↓reduceIte,reduceCtorEq,Nat.reduceEqDiff])
  have b1 : (o.union == n) = false:=by simp [a1]
  rw [if_neg a1] at hj
  by_cases a2 : o.union = -1
  ·have b2 : (o.union != -1) = false:=by simp [a2]
   rw [if_pos (.inl a2)] at hj
   simp only [b1,b2,h4,e1,eES,Nat.reduceBEq,↓reduceIte]
   exact fin _ n (by rw [if_neg a1]) hj (by first | rfl | exact h1 | simp only [h1,eES,eEX,Nat.reduceBEq,↓reduceIte,reduceCtorEq,Nat.reduceEqDiff]) (by first | rfl | exact h3 | simp only [h3,eES,eEX,Nat.reduceBEq,↓reduceIte,reduceCtorEq,Nat.reduceEqDiff]) (by first | rfl | simp only [eES,eEX,Nat.reduceBEq,↓reduceIte,reduceCtorEq,Nat.reduceEqDiff])
  have b2 : (o.union != -1) = true:=by simp [a2]
  rcases hb with ⟨rfl,rfl⟩ | ⟨j,p,rfl,hjp,rfl⟩
  ·have b3 : (((0 : Nat) : Int) == 0) = true:=rfl
   rw [if_neg (by omega)] at hj
   have hun : uniB g = false:=by unfold uniB; rw [hj]
   simp only [b1,b2,b3,h4,hun,eES,Nat.reduceBEq,↓reduceIte]
  ·have b3 : (((j + 1 : Nat) : Int) == 0) = false:=by rw [beq_eq_false_iff_ne]; omega
   have hgj : (g.ops.map fun o => AV.agg o.cells)[j]? = some (.agg p.cells):=by simp [hjp]
   have e2:=wp64 j _ hlt (by simp only [maxLen]; omega)
   simp only [PO.cells] at hgj
   by_cases a4 : o.union = p.union
   ·have b4 : (p.union != o.union) = false:=by simp [a4]
    rw [if_pos (.inr a4)] at hj
    simp only [b1,b2,b3,b4,e2,nneg,Int.toNat_natCast,aiaddr,hgj,PO.cells,h1,h4,m1,e1,eES,eEX,Nat.reduceBEq,↓reduceIte,Nat.reduceAdd]
    exact fin _ n (by rw [if_neg a1]) hj (by first | rfl | exact h1 | simp only [h1,eES,eEX,Nat.reduceBEq,↓reduceIte,reduceCtorEq,Nat.reduceEqDiff]) (by first | rfl | exact h3 | simp only [h3,eES,eEX,Nat.reduceBEq,↓reduceIte,reduceCtorEq,Nat.reduceEqDiff]) (by first | rfl | simp only [eES,eEX,Nat.reduceBEq,↓reduceIte,reduceCtorEq,Nat.reduceEqDiff])
   ·have b4 : (p.union != o.union) = true:=by simp; exact fun h => a4 h.symm
    rw [if_neg (by omega)] at hj
    have hun : uniB g = false:=by unfold uniB; rw [hj]
    simp only [b1,b2,b3,b4,e2,nneg,Int.toNat_natCast,aiaddr,hgj,PO.cells,h1,h4,m1,hun,eES,eEX,Nat.reduceBEq,↓reduceIte,Nat.reduceAdd]
 ·rw [List.drop_of_length_le (by omega)] at hj
  have hun : uniB g = (g.unions == n):=by unfold uniB; rw [hj]; rfl
  simp only [lt_f hlt,h1,h3,m1,hun,eES,eEX,Nat.reduceBEq,↓reduceIte,Nat.reduceAdd]

section
variable {M : Nat} (hM : M ≤ 140737488351232) (P : PL) (hP : P.ok M) (fr : Nat → Ob) (m1 : fr 1 = .cells (Pc P)) (f : Fr) (b : Bool) (h1 : f 1 = .ptr 0 1 0) (h3 : f 3 = .bool b) (Q : Exit → St → Prop)
include hM hP m1 h1 h3

theorem argi (j : Nat) (x : PE) (hj : P.enums[j]? = some x) (ha : f 4 = .int .i64 (j : Nat)) (hc : f 5 = .int .i64 0) (hx : ∀ f,f 1 = .ptr 0 1 0 → f 3 = .bool (b && x.items.all nte) → f 4 = .int .i64 (j : Nat) → Q (.exit 2) (⟨f,[fr],[]⟩ : St)) : awp Tryz.prog (.loop l35_0) ⟨f,[fr],[]⟩ Q:=by
 let I : Nat → St → Prop:=fun k st => ∃ f i,st = ⟨f,[fr],[]⟩ ∧ k = x.items.length - i ∧ i ≤ x.items.length ∧ f 1 = .ptr 0 1 0 ∧ f 3 = .bool (b && (x.items.take i).all nte) ∧ f 4 = .int .i64 (j : Nat) ∧ f 5 = .int .i64 (i : Nat)
 have hjm : (P.enums.map eav)[j]? = some (.agg x.cells):=by simp [hj,eav]
 have hxo:=hP.enums x (List.mem_of_getElem? hj)
 have z0 : (0 ≤ (0 : Int)) = True:=by simp
 have z1 : Int.toNat 0 = 0:=rfl
 refine awp_loop I _ ⟨f,0,rfl,rfl,Nat.zero_le _,h1,by rw [h3]; simp,ha,hc⟩ ?_
 clear h1 h3 ha hc
 simp only [Pc] at m1
 simp only [PE.cells] at hjm
 rintro _ st ⟨f,i,rfl,rfl,hi,h1,h3,ha,hc⟩
 simp only [l35_0,g35_7,g35_9,g35_10,g35_8,nneg,Int.toNat_natCast,aiaddr,hjm,List.length_map,h1,m1,ha,hc,eES,eEX,Nat.reduceBEq,↓reduceIte,Nat.reduceAdd]
 by_cases hlt : i < x.items.length
 ·obtain ⟨o,hg⟩ : ∃ o,x.items[i]? = some o:=⟨x.items[i],List.getElem?_eq_getElem hlt⟩
  have hgm : (x.items.map fun o => AV.agg o.cells)[i]? = some (.agg o.cells):=by simp [hg]
  have e1:=wi64_s i _ hlt hxo.len1
  have ho:=hxo.items o (List.mem_of_getElem? hg)
  have ht:=take_all (q:=nte) hg
  have fin : ∀ f' : Fr,f' 1 = .ptr 0 1 0 → f' 3 = .bool ((b && (x.items.take i).all nte) && nte o) → f' 4 = .int .i64 (j : Nat) → f' 5 = .int .i64 ((i + 1 : Nat) : Int) → ∃ k,k < x.items.length - i ∧ I k ⟨f',[fr],[]⟩:=by
   intro f' a1 a3 a4 a5
   exact ⟨x.items.length - (i + 1),by omega,f',i + 1,rfl,rfl,by omega,a1,by rw [a3,ht,Bool.and_assoc],a4,a5⟩
  simp only [PI.cells] at hgm
  cases hb : (b && (x.items.take i).all nte)
  ·rw [hb] at fin h3
   simp only [lt_t hlt,nneg,Int.toNat_natCast,aiaddr,hjm,hgm,PI.cells,h1,m1,h3,ha,hc,e1,eES,eEX,Nat.reduceBEq,↓reduceIte,Nat.reduceAdd]
   exact fin _ (by first | rfl | exact h1 | simp only [h1,eES,eEX,Nat.reduceBEq,↓reduceIte,reduceCtorEq,Nat.reduceEqDiff]) (by first | rfl | simp only [eES,eEX,Nat.reduceBEq,↓reduceIte,reduceCtorEq,Nat.reduceEqDiff]) (by first | rfl | exact ha | simp only [ha,eES,eEX,Nat.reduceBEq,↓reduceIte,reduceCtorEq,Nat.reduceEqDiff]) (by first | rfl | simp only [eES,eEX,Nat.reduceBEq,↓reduceIte,reduceCtorEq,Nat.reduceEqDiff])
  ·rw [hb,Bool.true_and] at fin
   rw [hb] at h3
   rcases hn : o.notes with _ | ⟨n,_ | ⟨n2,ns⟩⟩
   ·have c0 : (((0 : Nat) : Int) == 0) = true:=rfl
    have e : nte o = true:=by unfold nte; rw [hn]
    rw [e] at fin
    rw [hn] at hgm
    simp only [lt_t hlt,nneg,Int.toNat_natCast,aiaddr,hjm,hgm,PI.cells,List.map_nil,List.length_nil,c0,h1,m1,h3,ha,hc,e1,eES,eEX,Nat.reduceBEq,↓reduceIte,Nat.reduceAdd]
    exact fin _ (by first | rfl | exact h1 | simp only [h1,eES,eEX,Nat.reduceBEq,↓reduceIte,reduceCtorEq,Nat.reduceEqDiff]) (by first | rfl | simp only [eES,eEX,Nat.reduceBEq,↓reduceIte,reduceCtorEq,Nat.reduceEqDiff]) (by first | rfl | exact ha | simp only [ha,eES,eEX,Nat.reduceBEq,↓reduceIte,reduceCtorEq,Nat.reduceEqDiff]) (by first | rfl | simp only [eES,eEX,Nat.reduceBEq,↓reduceIte,reduceCtorEq,Nat.reduceEqDiff])
   ·obtain ⟨kd,b',t,l,p,s,r,hv,htl,h3',h4',h5',h6'⟩:=v0_of (ho.notes n (by rw [hn]; simp)) hM
    have c0 : (((1 : Nat) : Int) == 0) = false:=rfl
    have c1 : (((1 : Nat) : Int) == 1) = true:=rfl
    have e : nte o = (n.name == alias && fitv 7 kd b' t l p s r):=by
     unfold nte
     rw [hn]
     show (n.name == alias && nok n.val) = _
     rw [hv]
     rfl
    have en : elemV n.cells = .agg [.str n.name,.int .i64 kd,.int .u64 ((b' : Nat) : Int),.str t,.list l,.list p,.list s,.list r]:=by
     rw [PN.cells,hv]; rfl
    have hne : (n.name == [97,108,105,97,115]) = (n.name == alias):=rfl
    have hck:=z111 kd b' t l p s r (by simp only [maxLen]; omega)
    simp only [nv] at hck
    rw [e] at fin
    rw [hn] at hgm
    simp only [List.map_cons,List.map_nil,en] at hgm
    simp only [lt_t hlt,nneg,Int.toNat_natCast,aiaddr,hjm,hgm,PI.cells,List.length_cons,List.length_nil,Nat.zero_add,c0,c1,z0,z1,List.getElem?_cons_zero,astr,hne,h1,m1,h3,ha,hc,eES,eEX,Nat.reduceBEq,↓reduceIte,Nat.reduceAdd]
    by_cases hal : n.name = alias
    ·have b0 : (n.name == alias) = true:=by simp [hal]
     rw [← hal] at hck
     rw [b0,Bool.true_and] at fin
     simp only [b0,eES,Nat.reduceBEq]
     refine aops_call hck rfl rfl rfl (.inl rfl) ?_
     cases hfv : fitv 7 kd b' t l p s r
     ·rw [hfv] at fin
      have d0 : ((12 : Int) == 0) = false:=rfl
      simp only [Bool.false_eq_true,d0,hc,e1,eES,Nat.reduceBEq,↓reduceIte]
      exact fin _ (by first | rfl | exact h1 | simp only [h1,eES,eEX,Nat.reduceBEq,↓reduceIte,reduceCtorEq,Nat.reduceEqDiff]) (by first | rfl | simp only [eES,eEX,Nat.reduceBEq,↓reduceIte,reduceCtorEq,Nat.reduceEqDiff]) (by first | rfl | exact ha | simp only [ha,eES,eEX,Nat.reduceBEq,↓reduceIte,reduceCtorEq,Nat.reduceEqDiff]) (by first | rfl | simp only [eES,eEX,Nat.reduceBEq,↓reduceIte,reduceCtorEq,Nat.reduceEqDiff])
     ·rw [hfv] at fin
      have d0 : ((0 : Int) == 0) = true:=rfl
      simp only [d0,hc,e1,eES,Nat.reduceBEq,↓reduceIte]
      exact fin _ (by first | rfl | exact h1 | simp only [h1,eES,eEX,Nat.reduceBEq,↓reduceIte,reduceCtorEq,Nat.reduceEqDiff]) (by first | rfl | simp only [eES,eEX,Nat.reduceBEq,↓reduceIte,reduceCtorEq,Nat.reduceEqDiff]) (by first | rfl | exact ha | simp only [ha,eES,eEX,Nat.reduceBEq,↓reduceIte,reduceCtorEq,Nat.reduceEqDiff]) (by first | rfl | simp only [eES,eEX,Nat.reduceBEq,↓reduceIte,reduceCtorEq,Nat.reduceEqDiff])
    ·have b0 : (n.name == alias) = false:=by simp [hal]
     rw [b0,Bool.false_and] at fin
     simp only [b0,hc,e1,eES,Nat.reduceBEq,↓reduceIte]
     exact fin _ (by first | rfl | exact h1 | simp only [h1,eES,eEX,Nat.reduceBEq,↓reduceIte,reduceCtorEq,Nat.reduceEqDiff]) (by first | rfl | simp only [eES,eEX,Nat.reduceBEq,↓reduceIte,reduceCtorEq,Nat.reduceEqDiff]) (by first | rfl | exact ha | simp only [ha,eES,eEX,Nat.reduceBEq,↓reduceIte,reduceCtorEq,Nat.reduceEqDiff]) (by first | rfl | simp only [eES,eEX,Nat.reduceBEq,↓reduceIte,reduceCtorEq,Nat.reduceEqDiff])
   ·have c0 : ((((ns.length + 1 + 1 : Nat)) : Int) == 0) = false:=by rw [beq_eq_false_iff_ne]; omega
    have c1 : ((((ns.length + 1 + 1 : Nat)) : Int) == 1) = false:=by rw [beq_eq_false_iff_ne]; omega
    have e : nte o = false:=by unfold nte; rw [hn]
    rw [e] at fin
    rw [hn] at hgm
    simp only [List.map_cons] at hgm
    simp only [lt_t hlt,nneg,Int.toNat_natCast,aiaddr,hjm,hgm,PI.cells,List.length_cons,List.length_map,c0,c1,h1,m1,h3,ha,hc,e1,eES,eEX,Nat.reduceBEq,↓reduceIte,Nat.reduceAdd]
    exact fin _ (by first | rfl | exact h1 | simp only [h1,eES,eEX,Nat.reduceBEq,↓reduceIte,reduceCtorEq,Nat.reduceEqDiff]) (by first | rfl | simp only [eES,eEX,Nat.reduceBEq,↓reduceIte,reduceCtorEq,Nat.reduceEqDiff]) (by first | rfl | exact ha | simp only [ha,eES,eEX,Nat.reduceBEq,↓reduceIte,reduceCtorEq,Nat.reduceEqDiff]) (by first | rfl | simp only [eES,eEX,Nat.reduceBEq,↓reduceIte,reduceCtorEq,Nat.reduceEqDiff])
 ·have hf : (x.items.take i).all nte = x.items.all nte:=by rw [List.take_of_length_le (by omega)]
  rw [hf] at h3
  simp only [lt_f hlt,eES]
  exact hx _ (by first | rfl | exact h1 | simp only [h1,eES,eEX,Nat.reduceBEq,↓reduceIte,reduceCtorEq,Nat.reduceEqDiff]) (by first | rfl | exact h3 | simp only [h3,eES,eEX,Nat.reduceBEq,↓reduceIte,reduceCtorEq,Nat.reduceEqDiff]) (by first | rfl | exact ha | simp only [ha,eES,eEX,Nat.reduceBEq,↓reduceIte,reduceCtorEq,Nat.reduceEqDiff])

theorem argo (ha : f 4 = .int .i64 0) (hx : ∀ f,f 1 = .ptr 0 1 0 → f 3 = .bool (b && P.enums.all argE) → Q (.exit 0) (⟨f,[fr],[]⟩ : St)) : awp Tryz.prog (.loop l35_1) ⟨f,[fr],[]⟩ Q:=by
 let I : Nat → St → Prop:=fun k st => ∃ f i,st = ⟨f,[fr],[]⟩ ∧ k = P.enums.length - i ∧ i ≤ P.enums.length ∧ f 1 = .ptr 0 1 0 ∧ f 3 = .bool (b && (P.enums.take i).all argE) ∧ f 4 = .int .i64 (i : Nat)
 have m1':=m1
 refine awp_loop I _ ⟨f,0,rfl,rfl,Nat.zero_le _,h1,by rw [h3]; simp,ha⟩ ?_
 clear h1 h3 ha
 simp only [Pc] at m1
 rintro _ st ⟨f,i,rfl,rfl,hi,h1,h3,ha⟩
 simp only [l35_1,g35_3,g35_5,g35_6,g35_4,List.length_map,h1,m1,ha,eES,eEX,Nat.reduceBEq,↓reduceIte,Nat.reduceAdd]
 by_cases hlt : i < P.enums.length
 ·obtain ⟨x,hg⟩ : ∃ x,P.enums[i]? = some x:=⟨P.enums[i],List.getElem?_eq_getElem hlt⟩
  have hgm : (P.enums.map eav)[i]? = some (.agg x.cells):=by simp [hg,eav]
  have e1:=wi64_s i _ hlt hP.len2
  have ht:=take_all (q:=argE) hg
  have hq : argE x = (x.notes.isEmpty && x.items.all nte):=rfl
  have hie : ((x.notes.length : Int) == 0) = x.notes.isEmpty:=by
   cases x.notes with
   | nil => rfl
   | cons a l => simp; omega
  have fin : ∀ f' : Fr,f' 1 = .ptr 0 1 0 → f' 3 = .bool (((b && (P.enums.take i).all argE) && x.notes.isEmpty) && x.items.all nte) → f' 4 = .int .i64 ((i + 1 : Nat) : Int) → ∃ k,k < P.enums.length - i ∧ I k ⟨f',[fr],[]⟩:=by
   intro f' a1 a3 a4
   exact ⟨P.enums.length - (i + 1),by omega,f',i + 1,rfl,rfl,by omega,a1,by rw [a3,ht,hq,Bool.and_assoc,Bool.and_assoc],a4⟩
  simp only [PE.cells] at hgm
  cases hb : (b && (P.enums.take i).all argE)
  ·rw [hb,Bool.false_and] at fin
   rw [hb] at h3
   simp only [lt_t hlt,h3,eES,Nat.reduceBEq]
   refine argi hM P hP fr m1' _ false (by first | rfl | exact h1 | simp only [h1,eES,eEX,Nat.reduceBEq,↓reduceIte,reduceCtorEq,Nat.reduceEqDiff]) (by first | rfl | simp only [eES,eEX,Nat.reduceBEq,↓reduceIte,reduceCtorEq,Nat.reduceEqDiff]) _ i x hg (by first | rfl | exact ha | simp only [ha,eES,eEX,Nat.reduceBEq,↓reduceIte,reduceCtorEq,Nat.reduceEqDiff]) (by first | rfl | simp only [eES,eEX,Nat.reduceBEq,↓reduceIte,reduceCtorEq,Nat.reduceEqDiff]) (fun f h1 h3 ha => ?_)
   simp only [ha,e1,eES,Nat.reduceBEq,↓reduceIte]
   exact fin _ (by first | rfl | exact h1 | simp only [h1,eES,eEX,Nat.reduceBEq,↓reduceIte,reduceCtorEq,Nat.reduceEqDiff]) (by first | rfl | exact h3 | simp only [h3,eES,eEX,Nat.reduceBEq,↓reduceIte,reduceCtorEq,Nat.reduceEqDiff]) (by first | rfl | simp only [eES,eEX,Nat.reduceBEq,↓reduceIte,reduceCtorEq,Nat.reduceEqDiff])
  ·rw [hb,Bool.true_and] at fin
   rw [hb] at h3
   simp only [lt_t hlt,nneg,Int.toNat_natCast,aiaddr,hgm,List.length_map,hie,h1,m1,h3,ha,eES,eEX,Nat.reduceBEq,↓reduceIte,Nat.reduceAdd]
   refine argi hM P hP fr m1' _ x.notes.isEmpty (by first | rfl | exact h1 | simp only [h1,eES,eEX,Nat.reduceBEq,↓reduceIte,reduceCtorEq,Nat.reduceEqDiff]) (by first | rfl | simp only [eES,eEX,Nat.reduceBEq,↓reduceIte,reduceCtorEq,Nat.reduceEqDiff]) _ i x hg (by first | rfl | exact ha | simp only [ha,eES,eEX,Nat.reduceBEq,↓reduceIte,reduceCtorEq,Nat.reduceEqDiff]) (by first | rfl | simp only [eES,eEX,Nat.reduceBEq,↓reduceIte,reduceCtorEq,Nat.reduceEqDiff]) (fun f h1 h3 ha => ?_)
   simp only [ha,e1,eES,Nat.reduceBEq,↓reduceIte]
   exact fin _ (by first | rfl | exact h1 | simp only [h1,eES,eEX,Nat.reduceBEq,↓reduceIte,reduceCtorEq,Nat.reduceEqDiff]) (by first | rfl | exact h3 | simp only [h3,eES,eEX,Nat.reduceBEq,↓reduceIte,reduceCtorEq,Nat.reduceEqDiff]) (by first | rfl | simp only [eES,eEX,Nat.reduceBEq,↓reduceIte,reduceCtorEq,Nat.reduceEqDiff])
 ·have hf : (P.enums.take i).all argE = P.enums.all argE:=by rw [List.take_of_length_le (by omega)]
  rw [hf] at h3
  simp only [lt_f hlt,eES]
  exact hx _ (by first | rfl | exact h1 | simp only [h1,eES,eEX,Nat.reduceBEq,↓reduceIte,reduceCtorEq,Nat.reduceEqDiff]) (by first | rfl | exact h3 | simp only [h3,eES,eEX,Nat.reduceBEq,↓reduceIte,reduceCtorEq,Nat.reduceEqDiff])

theorem argp (j : Nat) (x : PG) (hj : P.progs[j]? = some x) (ha : f 7 = .int .i64 (j : Nat)) (hc : f 8 = .int .i64 0) (hx : ∀ f,f 1 = .ptr 0 1 0 → f 3 = .bool (b && x.ops.all fun o => arg1 P o && uok o) → f 7 = .int .i64 (j : Nat) → Q (.exit 6) (⟨f,[fr],[]⟩ : St)) : awp Tryz.prog (.loop l35_2) ⟨f,[fr],[]⟩ Q:=by
 let I : Nat → St → Prop:=fun k st => ∃ f i,st = ⟨f,[fr],[]⟩ ∧ k = x.ops.length - i ∧ i ≤ x.ops.length ∧ f 1 = .ptr 0 1 0 ∧ f 3 = .bool (b && (x.ops.take i).all fun o => arg1 P o && uok o) ∧ f 7 = .int .i64 (j : Nat) ∧ f 8 = .int .i64 (i : Nat)
 have hjm : (P.progs.map gav)[j]? = some (.agg x.cells):=by simp [hj,gav]
 have hxo:=hP.progs x (List.mem_of_getElem? hj)
 refine awp_loop I _ ⟨f,0,rfl,rfl,Nat.zero_le _,h1,by rw [h3]; simp,ha,hc⟩ ?_
 clear h1 h3 ha hc
 simp only [Pc] at m1
 simp only [PG.cells] at hjm
 rintro _ st ⟨f,i,rfl,rfl,hi,h1,h3,ha,hc⟩
 simp only [l35_2,g35_16,g35_18,g35_17,nneg,Int.toNat_natCast,aiaddr,hjm,List.length_map,h1,m1,ha,hc,eES,eEX,Nat.reduceBEq,↓reduceIte,Nat.reduceAdd]
 by_cases hlt : i < x.ops.length
 ·obtain ⟨o,hg⟩ : ∃ o,x.ops[i]? = some o:=⟨x.ops[i],List.getElem?_eq_getElem hlt⟩
  have hgm : (x.ops.map fun o => AV.agg o.cells)[i]? = some (.agg o.cells):=by simp [hg]
  have e1:=wi64_s i _ hlt hxo.len
  have hal : o.alias.length + 8 ≤ maxLen:=by have:=(hxo.ops o (List.mem_of_getElem? hg)).alias; simp only [maxLen]; omega
  have hop : Fn1 Tryz.prog 113 [.agg [.list (P.progs.map gav),.list (P.enums.map eav)],oav o] (.bool (arg1 P o && uok o)):=z113 P o hal
  have ht:=take_all (q:=fun o => arg1 P o && uok o) hg
  have fin : ∀ f' : Fr,f' 1 = .ptr 0 1 0 → f' 3 = .bool ((b && (x.ops.take i).all fun o => arg1 P o && uok o) && (arg1 P o && uok o)) → f' 7 = .int .i64 (j : Nat) → f' 8 = .int .i64 ((i + 1 : Nat) : Int) → ∃ k,k < x.ops.length - i ∧ I k ⟨f',[fr],[]⟩:=by
   intro f' a1 a3 a4 a5
   exact ⟨x.ops.length - (i + 1),by omega,f',i + 1,rfl,rfl,by omega,a1,by rw [a3,ht,Bool.and_assoc],a4,a5⟩
  simp only [oav,PO.cells] at hgm hop
  cases hb : (b && (x.ops.take i).all fun o => arg1 P o && uok o)
  ·rw [hb] at fin h3
   simp only [lt_t hlt,PO.cells,h3,hc,e1,eES,Nat.reduceBEq,↓reduceIte]
   exact fin _ (by first | rfl | exact h1 | simp only [h1,eES,eEX,Nat.reduceBEq,↓reduceIte,reduceCtorEq,Nat.reduceEqDiff]) (by first | rfl | simp only [eES,eEX,Nat.reduceBEq,↓reduceIte,reduceCtorEq,Nat.reduceEqDiff]) (by first | rfl | exact ha | simp only [ha,eES,eEX,Nat.reduceBEq,↓reduceIte,reduceCtorEq,Nat.reduceEqDiff]) (by first | rfl | simp only [eES,eEX,Nat.reduceBEq,↓reduceIte,reduceCtorEq,Nat.reduceEqDiff])
  ·rw [hb,Bool.true_and] at fin
   rw [hb] at h3
   simp only [lt_t hlt,nneg,Int.toNat_natCast,aiaddr,hjm,hgm,PO.cells,h1,m1,h3,ha,hc,eES,eEX,Nat.reduceBEq,↓reduceIte,Nat.reduceAdd,Nat.reduceLeDiff]
   refine aops_call hop rfl rfl rfl (.inl rfl) ?_
   simp only [hc,e1,eES,Nat.reduceBEq,↓reduceIte]
   exact fin _ (by first | rfl | exact h1 | simp only [h1,eES,eEX,Nat.reduceBEq,↓reduceIte,reduceCtorEq,Nat.reduceEqDiff]) (by first | rfl | simp only [eES,eEX,Nat.reduceBEq,↓reduceIte,reduceCtorEq,Nat.reduceEqDiff]) (by first | rfl | exact ha | simp only [ha,eES,eEX,Nat.reduceBEq,↓reduceIte,reduceCtorEq,Nat.reduceEqDiff]) (by first | rfl | simp only [eES,eEX,Nat.reduceBEq,↓reduceIte,reduceCtorEq,Nat.reduceEqDiff])
 ·have hf : (x.ops.take i).all (fun o => arg1 P o && uok o) = x.ops.all fun o => arg1 P o && uok o:=by rw [List.take_of_length_le (by omega)]
  rw [hf] at h3
  simp only [lt_f hlt,eES]
  exact hx _ (by first | rfl | exact h1 | simp only [h1,eES,eEX,Nat.reduceBEq,↓reduceIte,reduceCtorEq,Nat.reduceEqDiff]) (by first | rfl | exact h3 | simp only [h3,eES,eEX,Nat.reduceBEq,↓reduceIte,reduceCtorEq,Nat.reduceEqDiff]) (by first | rfl | exact ha | simp only [ha,eES,eEX,Nat.reduceBEq,↓reduceIte,reduceCtorEq,Nat.reduceEqDiff])

theorem argP (hl : ∀ g ∈ P.progs,g.ops.length ≤ 64) (ha : f 7 = .int .i64 0) (hx : ∀ f,f 1 = .ptr 0 1 0 → f 3 = .bool (b && P.progs.all (argG P)) → Q (.exit 4) (⟨f,[fr],[]⟩ : St)) : awp Tryz.prog (.loop l35_3) ⟨f,[fr],[]⟩ Q:=by
 let I : Nat → St → Prop:=fun k st => ∃ f i,st = ⟨f,[fr],[]⟩ ∧ k = P.progs.length - i ∧ i ≤ P.progs.length ∧ f 1 = .ptr 0 1 0 ∧ f 3 = .bool (b && (P.progs.take i).all (argG P)) ∧ f 7 = .int .i64 (i : Nat)
 have m1':=m1
 refine awp_loop I _ ⟨f,0,rfl,rfl,Nat.zero_le _,h1,by rw [h3]; simp,ha⟩ ?_
 clear h1 h3 ha
 simp only [Pc] at m1
 rintro _ st ⟨f,i,rfl,rfl,hi,h1,h3,ha⟩
 simp only [l35_3,g35_12,g35_14,g35_15,g35_13,List.length_map,h1,m1,ha,eES,eEX,Nat.reduceBEq,↓reduceIte,Nat.reduceAdd]
 by_cases hlt : i < P.progs.length
 ·obtain ⟨x,hg⟩ : ∃ x,P.progs[i]? = some x:=⟨P.progs[i],List.getElem?_eq_getElem hlt⟩
  have hgm : (P.progs.map gav)[i]? = some (.agg x.cells):=by simp [hg,gav]
  have e1:=wi64_s i _ hlt hP.len1
  have ht:=take_all (q:=argG P) hg
  have hq : argG P x = (uniB x && x.ops.all fun o => arg1 P o && uok o):=rfl
  have hjo:=z112 x (Nat.le_trans (hl x (List.mem_of_getElem? hg)) (by decide))
  have fin : ∀ f' : Fr,f' 1 = .ptr 0 1 0 → f' 3 = .bool (((b && (P.progs.take i).all (argG P)) && uniB x) && x.ops.all fun o => arg1 P o && uok o) → f' 7 = .int .i64 ((i + 1 : Nat) : Int) → ∃ k,k < P.progs.length - i ∧ I k ⟨f',[fr],[]⟩:=by
   intro f' a1 a3 a4
   exact ⟨P.progs.length - (i + 1),by omega,f',i + 1,rfl,rfl,by omega,a1,by rw [a3,ht,hq,Bool.and_assoc,Bool.and_assoc],a4⟩
  simp only [gav,PG.cells] at hgm hjo
  cases hb : (b && (P.progs.take i).all (argG P))
  ·rw [hb,Bool.false_and] at fin
   rw [hb] at h3
   simp only [lt_t hlt,h3,eES,Nat.reduceBEq]
   refine argp hM P hP fr m1' _ false (by first | rfl | exact h1 | simp only [h1,eES,eEX,Nat.reduceBEq,↓reduceIte,reduceCtorEq,Nat.reduceEqDiff]) (by first | rfl | simp only [eES,eEX,Nat.reduceBEq,↓reduceIte,reduceCtorEq,Nat.reduceEqDiff]) _ i x hg (by first | rfl | exact ha | simp only [ha,eES,eEX,Nat.reduceBEq,↓reduceIte,reduceCtorEq,Nat.reduceEqDiff]) (by first | rfl | simp only [eES,eEX,Nat.reduceBEq,↓reduceIte,reduceCtorEq,Nat.reduceEqDiff]) (fun f h1 h3 ha => ?_)
   simp only [ha,e1,eES,Nat.reduceBEq,↓reduceIte]
   exact fin _ (by first | rfl | exact h1 | simp only [h1,eES,eEX,Nat.reduceBEq,↓reduceIte,reduceCtorEq,Nat.reduceEqDiff]) (by first | rfl | exact h3 | simp only [h3,eES,eEX,Nat.reduceBEq,↓reduceIte,reduceCtorEq,Nat.reduceEqDiff]) (by first | rfl | simp only [eES,eEX,Nat.reduceBEq,↓reduceIte,reduceCtorEq,Nat.reduceEqDiff])
  ·rw [hb,Bool.true_and] at fin
   rw [hb] at h3
   simp only [lt_t hlt,nneg,Int.toNat_natCast,aiaddr,hgm,h1,m1,h3,ha,eES,eEX,Nat.reduceBEq,↓reduceIte,Nat.reduceAdd,Nat.reduceLeDiff]
   refine aops_call hjo rfl rfl rfl (.inl rfl) ?_
   simp only [eES,Nat.reduceBEq]
   refine argp hM P hP fr m1' _ (uniB x) (by first | rfl | exact h1 | simp only [h1,eES,eEX,Nat.reduceBEq,↓reduceIte,reduceCtorEq,Nat.reduceEqDiff]) (by first | rfl | simp only [eES,eEX,Nat.reduceBEq,↓reduceIte,reduceCtorEq,Nat.reduceEqDiff]) _ i x hg (by first | rfl | exact ha | simp only [ha,eES,eEX,Nat.reduceBEq,↓reduceIte,reduceCtorEq,Nat.reduceEqDiff]) (by first | rfl | simp only [eES,eEX,Nat.reduceBEq,↓reduceIte,reduceCtorEq,Nat.reduceEqDiff]) (fun f h1 h3 ha => ?_)
   simp only [ha,e1,eES,Nat.reduceBEq,↓reduceIte]
   exact fin _ (by first | rfl | exact h1 | simp only [h1,eES,eEX,Nat.reduceBEq,↓reduceIte,reduceCtorEq,Nat.reduceEqDiff]) (by first | rfl | exact h3 | simp only [h3,eES,eEX,Nat.reduceBEq,↓reduceIte,reduceCtorEq,Nat.reduceEqDiff]) (by first | rfl | simp only [eES,eEX,Nat.reduceBEq,↓reduceIte,reduceCtorEq,Nat.reduceEqDiff])
 ·have hf : (P.progs.take i).all (argG P) = P.progs.all (argG P):=by rw [List.take_of_length_le (by omega)]
  rw [hf] at h3
  simp only [lt_f hlt,eES]
  exact hx _ (by first | rfl | exact h1 | simp only [h1,eES,eEX,Nat.reduceBEq,↓reduceIte,reduceCtorEq,Nat.reduceEqDiff]) (by first | rfl | exact h3 | simp only [h3,eES,eEX,Nat.reduceBEq,↓reduceIte,reduceCtorEq,Nat.reduceEqDiff])

end

theorem z35 {M : Nat} (hM : M ≤ 140737488351232) (P : PL) (hP : P.ok M) (hl : ∀ g ∈ P.progs,g.ops.length ≤ 64) : Fn1 Tryz.prog 35 [P.av] (.bool (args P)):=by
 have e0 : P.av = .agg [.list (P.progs.map gav),.list (P.enums.map eav)]:=rfl
 have e : args P = (P.enums.all argE && P.progs.all (argG P)):=Bool.and_comm _ _
 refine fn1_of_awp (rc:=r35) (rs:=o35) Tryz.func35 rfl rfl Tryz.ntmps35 k35 q35 (by simp) ?_
 simp only [g35_0,g35_1,g35_2,g35_11,g35_19,r35,o35,e0,eES,eEX]
 refine argo hM P hP _ (by first | rfl | simp only [eES,eEX,Nat.reduceBEq,↓reduceIte,reduceCtorEq,Nat.reduceEqDiff]) _ true (by first | rfl | simp only [eES,eEX,Nat.reduceBEq,↓reduceIte,reduceCtorEq,Nat.reduceEqDiff]) (by first | rfl | simp only [eES,eEX,Nat.reduceBEq,↓reduceIte,reduceCtorEq,Nat.reduceEqDiff]) _ (by first | rfl | simp only [eES,eEX,Nat.reduceBEq,↓reduceIte,reduceCtorEq,Nat.reduceEqDiff]) (fun f h1 h3 => ?_)
 simp only [eES,↓reduceIte]
 refine argP hM P hP _ (by first | rfl | simp only [eES,eEX,Nat.reduceBEq,↓reduceIte,reduceCtorEq,Nat.reduceEqDiff]) _ _ (by first | rfl | exact h1 | simp only [h1,eES,eEX,Nat.reduceBEq,↓reduceIte,reduceCtorEq,Nat.reduceEqDiff]) (by first | rfl | exact h3 | simp only [h3,eES,eEX,Nat.reduceBEq,↓reduceIte,reduceCtorEq,Nat.reduceEqDiff]) _ hl (by first | rfl | simp only [eES,eEX,Nat.reduceBEq,↓reduceIte,reduceCtorEq,Nat.reduceEqDiff]) (fun f h1 h3 => ?_)
 simp only [h3,e,Bool.true_and,eES,Nat.reduceBEq,↓reduceIte]

end Go.Proofs.YtelhohgmmhbahaaGreatDoor.Va

set_option linter.unusedSimpArgs false
namespace Go.Proofs.YtelhohgmmhbahaaGreatDoor.Va
open Go Am Rc Bt Br

section
variable {M : Nat} (P : PL) (hP : P.ok M) (fr : Nat → Ob) (m1 : fr 1 = .cells (Pc P)) (f : Fr) (b : Bool) (h1 : f 1 = .ptr 0 1 0) (h3 : f 3 = .bool b) (Q : Exit → St → Prop)
include hP m1 h1 h3

theorem rngi (j : Nat) (x : PG) (hj : P.progs[j]? = some x) (ha : f 4 = .int .i64 (j : Nat)) (hc : f 5 = .int .i64 0) (hx : ∀ f,f 1 = .ptr 0 1 0 → f 3 = .bool (b && x.ops.all rngO) → f 4 = .int .i64 (j : Nat) → Q (.exit 2) (⟨f,[fr],[]⟩ : St)) : awp Tryz.prog (.loop l34_0) ⟨f,[fr],[]⟩ Q:=by
 let I : Nat → St → Prop:=fun k st => ∃ f i,st = ⟨f,[fr],[]⟩ ∧ k = x.ops.length - i ∧ i ≤ x.ops.length ∧ f 1 = .ptr 0 1 0 ∧ f 3 = .bool (b && (x.ops.take i).all rngO) ∧ f 4 = .int .i64 (j : Nat) ∧ f 5 = .int .i64 (i : Nat)
 have hjm : (P.progs.map gav)[j]? = some (.agg x.cells):=by simp [hj,gav]
 have hxo:=hP.progs x (List.mem_of_getElem? hj)
 refine awp_loop I _ ⟨f,0,rfl,rfl,Nat.zero_le _,h1,by rw [h3]; simp,ha,hc⟩ ?_
 clear h1 h3 ha hc
 simp only [Pc] at m1
 simp only [PG.cells] at hjm
 rintro _ st ⟨f,i,rfl,rfl,hi,h1,h3,ha,hc⟩
 simp only [l34_0,g34_6,g34_8,g34_9,g34_7,nneg,Int.toNat_natCast,aiaddr,hjm,List.length_map,h1,m1,ha,hc,eES,eEX,Nat.reduceBEq,↓reduceIte,Nat.reduceAdd]
 by_cases hlt : i < x.ops.length
 ·obtain ⟨o,hg⟩ : ∃ o,x.ops[i]? = some o:=⟨x.ops[i],List.getElem?_eq_getElem hlt⟩
  have hgm : (x.ops.map fun o => AV.agg o.cells)[i]? = some (.agg o.cells):=by simp [hg]
  have e1:=wi64_s i _ hlt hxo.len
  have ht:=take_all (q:=rngO) hg
  have hq : rngO o = (decide (o.num ≥ 1) && decide (o.num ≤ 65535)):=rfl
  have fin : ∀ f' : Fr,f' 1 = .ptr 0 1 0 → f' 3 = .bool ((b && (x.ops.take i).all rngO) && rngO o) → f' 4 = .int .i64 (j : Nat) → f' 5 = .int .i64 ((i + 1 : Nat) : Int) → ∃ k,k < x.ops.length - i ∧ I k ⟨f',[fr],[]⟩:=by
   intro f' a1 a3 a4 a5
   exact ⟨x.ops.length - (i + 1),by omega,f',i + 1,rfl,rfl,by omega,a1,by rw [a3,ht,Bool.and_assoc],a4,a5⟩
  simp only [PO.cells] at hgm
  cases hb : (b && (x.ops.take i).all rngO)
  ·rw [hb] at fin h3
   simp only [lt_t hlt,nneg,Int.toNat_natCast,aiaddr,hjm,hgm,PO.cells,h1,m1,h3,ha,hc,e1,eES,eEX,Nat.reduceBEq,↓reduceIte,Nat.reduceAdd]
   exact fin _ (by first | rfl | exact h1 | simp only [h1,eES,eEX,Nat.reduceBEq,↓reduceIte,reduceCtorEq,Nat.reduceEqDiff]) (by first | rfl | simp only [eES,eEX,Nat.reduceBEq,↓reduceIte,reduceCtorEq,Nat.reduceEqDiff]) (by first | rfl | exact ha | simp only [ha,eES,eEX,Nat.reduceBEq,↓reduceIte,reduceCtorEq,Nat.reduceEqDiff]) (by first | rfl | simp only [eES,eEX,Nat.reduceBEq,↓reduceIte,reduceCtorEq,Nat.reduceEqDiff])
  ·rw [hb,Bool.true_and,hq] at fin
   rw [hb] at h3
   cases a1 : decide (o.num ≥ 1)
   ·rw [a1] at fin
    simp only [lt_t hlt,nneg,Int.toNat_natCast,aiaddr,hjm,hgm,PO.cells,a1,h1,m1,h3,ha,hc,e1,eES,eEX,Nat.reduceBEq,↓reduceIte,Nat.reduceAdd]
    exact fin _ (by first | rfl | exact h1 | simp only [h1,eES,eEX,Nat.reduceBEq,↓reduceIte,reduceCtorEq,Nat.reduceEqDiff]) (by first | rfl | simp only [eES,eEX,Nat.reduceBEq,↓reduceIte,reduceCtorEq,Nat.reduceEqDiff]) (by first | rfl | exact ha | simp only [ha,eES,eEX,Nat.reduceBEq,↓reduceIte,reduceCtorEq,Nat.reduceEqDiff]) (by first | rfl | simp only [eES,eEX,Nat.reduceBEq,↓reduceIte,reduceCtorEq,Nat.reduceEqDiff])
   ·rw [a1,Bool.true_and] at fin
    simp only [lt_t hlt,nneg,Int.toNat_natCast,aiaddr,hjm,hgm,PO.cells,a1,h1,m1,h3,ha,hc,e1,eES,eEX,Nat.reduceBEq,↓reduceIte,Nat.reduceAdd]
    exact fin _ (by first | rfl | exact h1 | simp only [h1,eES,eEX,Nat.reduceBEq,↓reduceIte,reduceCtorEq,Nat.reduceEqDiff]) (by first | rfl | simp only [eES,eEX,Nat.reduceBEq,↓reduceIte,reduceCtorEq,Nat.reduceEqDiff]) (by first | rfl | exact ha | simp only [ha,eES,eEX,Nat.reduceBEq,↓reduceIte,reduceCtorEq,Nat.reduceEqDiff]) (by first | rfl | simp only [eES,eEX,Nat.reduceBEq,↓reduceIte,reduceCtorEq,Nat.reduceEqDiff])
 ·have hf : (x.ops.take i).all rngO = x.ops.all rngO:=by rw [List.take_of_length_le (by omega)]
  rw [hf] at h3
  simp only [lt_f hlt,eES]
  exact hx _ (by first | rfl | exact h1 | simp only [h1,eES,eEX,Nat.reduceBEq,↓reduceIte,reduceCtorEq,Nat.reduceEqDiff]) (by first | rfl | exact h3 | simp only [h3,eES,eEX,Nat.reduceBEq,↓reduceIte,reduceCtorEq,Nat.reduceEqDiff]) (by first | rfl | exact ha | simp only [ha,eES,eEX,Nat.reduceBEq,↓reduceIte,reduceCtorEq,Nat.reduceEqDiff])

theorem rngo (ha : f 4 = .int .i64 0) (hx : ∀ f,f 1 = .ptr 0 1 0 → f 3 = .bool (b && P.progs.all fun g => g.ops.all rngO) → Q (.exit 0) (⟨f,[fr],[]⟩ : St)) : awp Tryz.prog (.loop l34_1) ⟨f,[fr],[]⟩ Q:=by
 let I : Nat → St → Prop:=fun k st => ∃ f i,st = ⟨f,[fr],[]⟩ ∧ k = P.progs.length - i ∧ i ≤ P.progs.length ∧ f 1 = .ptr 0 1 0 ∧ f 3 = .bool (b && (P.progs.take i).all fun g => g.ops.all rngO) ∧ f 4 = .int .i64 (i : Nat)
 have m1':=m1
 refine awp_loop I _ ⟨f,0,rfl,rfl,Nat.zero_le _,h1,by rw [h3]; simp,ha⟩ ?_
 clear h1 h3 ha
 simp only [Pc] at m1
 rintro _ st ⟨f,i,rfl,rfl,hi,h1,h3,ha⟩
 simp only [l34_1,g34_3,g34_5,g34_4,List.length_map,h1,m1,ha,eES,eEX,Nat.reduceBEq,↓reduceIte,Nat.reduceAdd]
 by_cases hlt : i < P.progs.length
 ·obtain ⟨x,hg⟩ : ∃ x,P.progs[i]? = some x:=⟨P.progs[i],List.getElem?_eq_getElem hlt⟩
  have e1:=wi64_s i _ hlt hP.len1
  have ht:=take_all (q:=fun g : PG => g.ops.all rngO) hg
  simp only [lt_t hlt,eES]
  refine rngi P hP fr m1' _ (b && (P.progs.take i).all fun g => g.ops.all rngO) (by first | rfl | exact h1 | simp only [h1,eES,eEX,Nat.reduceBEq,↓reduceIte,reduceCtorEq,Nat.reduceEqDiff]) (by first | rfl | exact h3 | simp only [h3,eES,eEX,Nat.reduceBEq,↓reduceIte,reduceCtorEq,Nat.reduceEqDiff]) _ i x hg (by first | rfl | exact ha | simp only [ha,eES,eEX,Nat.reduceBEq,↓reduceIte,reduceCtorEq,Nat.reduceEqDiff]) (by first | rfl | simp only [eES,eEX,Nat.reduceBEq,↓reduceIte,reduceCtorEq,Nat.reduceEqDiff]) (fun f h1 h3 ha => ?_)
  simp only [ha,e1,eES,Nat.reduceBEq,↓reduceIte]
  exact ⟨P.progs.length - (i + 1),by omega,_,i + 1,rfl,rfl,by omega,(by first | rfl | exact h1 | simp only [h1,eES,eEX,Nat.reduceBEq,↓reduceIte,reduceCtorEq,Nat.reduceEqDiff]),by rw [ht,← Bool.and_assoc] <;> first | exact h3 | simp only [h3,eES,eEX,Nat.reduceBEq,Int.reduceLE,Int.reduceLT,Int.reduceToNat,Int.reduceEq,↓reduceIte,reduceCtorEq,Nat.reducePow,Nat.reduceAdd,Nat.reduceLeDiff,Nat.reduceLT,Nat.reduceSub,Nat.reduceEqDiff],(by first | rfl | simp only [eES,eEX,Nat.reduceBEq,↓reduceIte,reduceCtorEq,Nat.reduceEqDiff])⟩
 ·have hf : (P.progs.take i).all (fun g => g.ops.all rngO) = P.progs.all fun g => g.ops.all rngO:=by rw [List.take_of_length_le (by omega)]
  rw [hf] at h3
  simp only [lt_f hlt,eES]
  exact hx _ (by first | rfl | exact h1 | simp only [h1,eES,eEX,Nat.reduceBEq,↓reduceIte,reduceCtorEq,Nat.reduceEqDiff]) (by first | rfl | exact h3 | simp only [h3,eES,eEX,Nat.reduceBEq,↓reduceIte,reduceCtorEq,Nat.reduceEqDiff])

end

def rqi (x : PE) (i : Nat) : Bool:=match x.items[i]? with
 | some o => (i != 0 || o.num == 0) && rngI x o
 | none => true

theorem rqi_all (x : PE) : allU (rqi x) x.items.length = (frst x && x.items.all (rngI x)):=by
 rw [Bool.eq_iff_iff,Bool.and_eq_true,allU_iff,List.all_eq_true]
 constructor
 ·intro h
  refine ⟨?_,fun o ho => ?_⟩
  ·unfold frst
   cases hi : x.items with
   | nil => rfl
   | cons a l =>
    have:=h 0 (by rw [hi]; simp)
    unfold rqi at this
    rw [hi] at this
    simp only [List.getElem?_cons_zero,Bool.and_eq_true] at this
    simpa using this.1
  ·obtain ⟨i,hi⟩:=List.mem_iff_getElem?.1 ho
   have:=h i (List.getElem?_eq_some_iff.1 hi).1
   unfold rqi at this
   rw [hi] at this
   simp only [Bool.and_eq_true] at this
   exact this.2
 ·rintro ⟨h1,h2⟩ i _
  unfold rqi
  cases hg : x.items[i]? with
  | none => rfl
  | some o =>
   simp only [Bool.and_eq_true]
   refine ⟨?_,h2 o (List.mem_of_getElem? hg)⟩
   cases i with
   | zero =>
    unfold frst at h1
    cases hx : x.items with
    | nil => rw [hx] at hg; cases hg
    | cons a l =>
     rw [hx] at h1 hg
     cases hg
     simpa using h1
   | succ k => rfl

section
variable (x : PE) (hl1 : x.items.length ≤ maxLen) (hl : x.free.length ≤ maxLen) (P : PL) (f : Fr) (b : Bool) (j : Nat) (fr : Nat → Ob) (h1 : f 1 = .ptr 0 1 0) (h3 : f 3 = .bool b) (h7 : f 7 = .int .i64 (j : Nat)) (h8 : f 8 = .ptr 0 8 0) (m1 : fr 1 = .cells (Pc P)) (m8 : fr 8 = .cells x.cells) (Q : Exit → St → Prop)
include hl1 hl h1 h3 h7 h8 m8

theorem rngI_loop (hc : f 9 = .int .i64 0) (hx : ∀ f,f 1 = .ptr 0 1 0 → f 3 = .bool (b && (frst x && x.items.all (rngI x))) → f 7 = .int .i64 (j : Nat) → f 8 = .ptr 0 8 0 → Q (.exit 6) (⟨f,[fr],[]⟩ : St)) : awp Tryz.prog (.loop l34_2) ⟨f,[fr],[]⟩ Q:=by
 let I : Nat → St → Prop:=fun k st => ∃ f i,st = ⟨f,[fr],[]⟩ ∧ k = x.items.length - i ∧ i ≤ x.items.length ∧ f 1 = .ptr 0 1 0 ∧ f 3 = .bool (b && allU (rqi x) i) ∧ f 7 = .int .i64 (j : Nat) ∧ f 8 = .ptr 0 8 0 ∧ f 9 = .int .i64 (i : Nat)
 refine awp_loop I _ ⟨f,0,rfl,rfl,Nat.zero_le _,h1,by rw [h3]; simp [allU],h7,h8,hc⟩ ?_
 clear h1 h3 h7 h8 hc
 simp only [PE.cells] at m8
 rintro _ st ⟨f,i,rfl,rfl,hi,h1,h3,h7,h8,hc⟩
 simp only [l34_2,g34_15,g34_17,g34_18,g34_16,List.length_map,m8,h8,hc,eES,eEX,Nat.reduceBEq,↓reduceIte,Nat.reduceAdd]
 by_cases hlt : i < x.items.length
 ·obtain ⟨o,hg⟩ : ∃ o,x.items[i]? = some o:=⟨x.items[i],List.getElem?_eq_getElem hlt⟩
  have hgm : (x.items.map fun o => AV.agg o.cells)[i]? = some (.agg o.cells):=by simp [hg]
  have e1:=wi64_s i _ hlt hl1
  have ht:=acc_step b (rqi x) i
  have hr : Fn1 Tryz.prog 110 [.list (x.free.map fun n => AV.agg n.cells),.int .i64 o.num] (.bool (kept x.free o.num)):=z110 x.free hl o.num
  have hq : rqi x i = ((i != 0 || o.num == 0) && (decide (o.num ≤ 2147483647) && !kept x.free o.num)):=by unfold rqi; rw [hg]; rfl
  rw [hq] at ht
  have fin : ∀ (f' : Fr) (v : Bool),((b && allU (rqi x) i) && ((i != 0 || o.num == 0) && (decide (o.num ≤ 2147483647) && !kept x.free o.num))) = v → f' 1 = .ptr 0 1 0 → f' 3 = .bool v → f' 7 = .int .i64 (j : Nat) → f' 8 = .ptr 0 8 0 → f' 9 = .int .i64 ((i + 1 : Nat) : Int) → ∃ k,k < x.items.length - i ∧ I k ⟨f',[fr],[]⟩:=by
   intro f' v hv a1 a3 a4 a5 a6
   exact ⟨x.items.length - (i + 1),by omega,f',i + 1,rfl,rfl,by omega,a1,by rw [a3,ht,hv],a4,a5,a6⟩
  simp only [PI.cells] at hgm
  cases hb : (b && allU (rqi x) i)
  ·rw [hb] at fin h3
   simp only [Bool.false_and] at fin
   simp only [lt_t hlt,nneg,Int.toNat_natCast,aiaddr,hgm,PI.cells,m8,h3,h8,hc,e1,eES,eEX,Nat.reduceBEq,↓reduceIte,Nat.reduceAdd]
   exact fin _ _ rfl (by first | rfl | exact h1 | simp only [h1,eES,eEX,Nat.reduceBEq,↓reduceIte,reduceCtorEq,Nat.reduceEqDiff]) (by first | rfl | simp only [eES,eEX,Nat.reduceBEq,↓reduceIte,reduceCtorEq,Nat.reduceEqDiff]) (by first | rfl | exact h7 | simp only [h7,eES,eEX,Nat.reduceBEq,↓reduceIte,reduceCtorEq,Nat.reduceEqDiff]) (by first | rfl | exact h8 | simp only [h8,eES,eEX,Nat.reduceBEq,↓reduceIte,reduceCtorEq,Nat.reduceEqDiff]) (by first | rfl | simp only [eES,eEX,Nat.reduceBEq,↓reduceIte,reduceCtorEq,Nat.reduceEqDiff])
  ·rw [hb] at fin h3
   simp only [Bool.true_and] at fin
   cases a1 : decide (o.num ≤ 2147483647)
   ·simp only [a1,Bool.false_and,Bool.and_false] at fin
    simp only [lt_t hlt,nneg,Int.toNat_natCast,aiaddr,hgm,PI.cells,a1,m8,h3,h8,hc,e1,eES,eEX,Nat.reduceBEq,↓reduceIte,Nat.reduceAdd]
    exact fin _ _ rfl (by first | rfl | exact h1 | simp only [h1,eES,eEX,Nat.reduceBEq,↓reduceIte,reduceCtorEq,Nat.reduceEqDiff]) (by first | rfl | simp only [eES,eEX,Nat.reduceBEq,↓reduceIte,reduceCtorEq,Nat.reduceEqDiff]) (by first | rfl | exact h7 | simp only [h7,eES,eEX,Nat.reduceBEq,↓reduceIte,reduceCtorEq,Nat.reduceEqDiff]) (by first | rfl | exact h8 | simp only [h8,eES,eEX,Nat.reduceBEq,↓reduceIte,reduceCtorEq,Nat.reduceEqDiff]) (by first | rfl | simp only [eES,eEX,Nat.reduceBEq,↓reduceIte,reduceCtorEq,Nat.reduceEqDiff])
   simp only [a1,Bool.true_and] at fin
   have gt : ∀ (q : Bool),(i != 0 || o.num == 0) = q → (decide ((i : Int) > 0) = true ∧ q = true) ∨ (decide ((i : Int) > 0) = false ∧ (o.num == 0) = q):=by
    intro q hq
    cases i with
    | zero => exact .inr ⟨rfl,hq⟩
    | succ k => exact .inl ⟨decide_eq_true (by omega),hq.symm⟩
   cases a2 : (i != 0 || o.num == 0)
   ·rw [a2] at fin
    simp only [Bool.false_and] at fin
    rcases gt _ a2 with ⟨g1,g2⟩ | ⟨g1,g2⟩
    ·cases g2
    ·simp only [lt_t hlt,nneg,Int.toNat_natCast,aiaddr,hgm,PI.cells,a1,g1,g2,m8,h3,h8,hc,e1,eES,eEX,Nat.reduceBEq,↓reduceIte,Nat.reduceAdd]
     exact fin _ _ rfl (by first | rfl | exact h1 | simp only [h1,eES,eEX,Nat.reduceBEq,↓reduceIte,reduceCtorEq,Nat.reduceEqDiff]) (by first | rfl | simp only [eES,eEX,Nat.reduceBEq,↓reduceIte,reduceCtorEq,Nat.reduceEqDiff]) (by first | rfl | exact h7 | simp only [h7,eES,eEX,Nat.reduceBEq,↓reduceIte,reduceCtorEq,Nat.reduceEqDiff]) (by first | rfl | exact h8 | simp only [h8,eES,eEX,Nat.reduceBEq,↓reduceIte,reduceCtorEq,Nat.reduceEqDiff]) (by first | rfl | simp only [eES,eEX,Nat.reduceBEq,↓reduceIte,reduceCtorEq,Nat.reduceEqDiff])
   ·rw [a2] at fin
    simp only [Bool.true_and] at fin
    rcases gt _ a2 with ⟨g1,g2⟩ | ⟨g1,g2⟩
    all_goals
     simp only [lt_t hlt,nneg,Int.toNat_natCast,aiaddr,hgm,PI.cells,a1,g1,g2,m8,h3,h8,hc,eES,eEX,Nat.reduceBEq,↓reduceIte,Nat.reduceAdd]
     refine aops_call hr rfl rfl rfl (.inl rfl) ?_
     simp only [hc,e1,eES,Nat.reduceBEq,↓reduceIte]
     exact fin _ _ rfl (by first | rfl | exact h1 | simp only [h1,eES,eEX,Nat.reduceBEq,↓reduceIte,reduceCtorEq,Nat.reduceEqDiff]) (by first | rfl | simp only [eES,eEX,Nat.reduceBEq,↓reduceIte,reduceCtorEq,Nat.reduceEqDiff]) (by first | rfl | exact h7 | simp only [h7,eES,eEX,Nat.reduceBEq,↓reduceIte,reduceCtorEq,Nat.reduceEqDiff]) (by first | rfl | exact h8 | simp only [h8,eES,eEX,Nat.reduceBEq,↓reduceIte,reduceCtorEq,Nat.reduceEqDiff]) (by first | rfl | simp only [eES,eEX,Nat.reduceBEq,↓reduceIte,reduceCtorEq,Nat.reduceEqDiff])
 ·rw [show i = x.items.length by omega,rqi_all] at h3
  simp only [lt_f hlt,eES]
  exact hx _ (by first | rfl | exact h1 | simp only [h1,eES,eEX,Nat.reduceBEq,↓reduceIte,reduceCtorEq,Nat.reduceEqDiff]) (by first | rfl | exact h3 | simp only [h3,eES,eEX,Nat.reduceBEq,↓reduceIte,reduceCtorEq,Nat.reduceEqDiff]) (by first | rfl | exact h7 | simp only [h7,eES,eEX,Nat.reduceBEq,↓reduceIte,reduceCtorEq,Nat.reduceEqDiff]) (by first | rfl | exact h8 | simp only [h8,eES,eEX,Nat.reduceBEq,↓reduceIte,reduceCtorEq,Nat.reduceEqDiff])

omit hl1 in
include m1 in
theorem rngS_loop (hc : f 11 = .int .i64 0) (hrow : ∀ s ∈ [12],(fr s).isRow = false) (hx : ∀ f fr,f 1 = .ptr 0 1 0 → f 3 = .bool (b && (x.free.all spn && adj x.free spt)) → f 7 = .int .i64 (j : Nat) → fr 1 = .cells (Pc P) → (∀ s ∈ [12,8],(fr s).isRow = false) → Q (.exit 8) (⟨f,[fr],[]⟩ : St)) : awp Tryz.prog (.loop l34_3) ⟨f,[fr],[]⟩ Q:=by
 let I : Nat → St → Prop:=fun k st => ∃ f fr i,st = ⟨f,[fr],[]⟩ ∧ k = x.free.length - i ∧ i ≤ x.free.length ∧ f 1 = .ptr 0 1 0 ∧ f 3 = .bool (b && allU (spq x.free) i) ∧ f 7 = .int .i64 (j : Nat) ∧ f 8 = .ptr 0 8 0 ∧ f 11 = .int .i64 (i : Nat) ∧ fr 1 = .cells (Pc P) ∧ fr 8 = .cells x.cells ∧ ∀ s ∈ [12],(fr s).isRow = false
 refine awp_loop I _ ⟨f,fr,0,rfl,rfl,Nat.zero_le _,h1,by rw [h3]; simp [allU],h7,h8,hc,m1,m8,hrow⟩ ?_
 clear h1 h3 h7 h8 hc m1 m8 hrow
 rintro _ st ⟨f0,fr0,i,rfl,rfl,hi,h10,h30,h70,h80,hc0,m10,m80,r12⟩
 refine awp_drops (a:=_) [12] r12 ?_
 intro f fr hf hm hn
 have h1 : f 1 = .ptr 0 1 0:=by rw [hf,h10] <;> rfl
 have h3 : f 3 = .bool (b && allU (spq x.free) i):=by rw [hf,h30] <;> rfl
 have h7 : f 7 = .int .i64 (j : Nat):=by rw [hf,h70] <;> rfl
 have h8 : f 8 = .ptr 0 8 0:=by rw [hf,h80] <;> rfl
 have hc : f 11 = .int .i64 (i : Nat):=by rw [hf,hc0] <;> rfl
 have m1 : fr 1 = .cells (Pc P):=by rw [hm 1 (by decide),m10] <;> rfl
 have m8 : fr 8 = .cells x.cells:=by rw [hm 8 (by decide),m80] <;> rfl
 have n12:=hn 12 (by decide)
 clear hf hm hn h10 h30 h70 h80 hc0 m10 m80 r12
 have m8':=m8
 simp only [PE.cells] at m8
 simp only [g34_20,g34_22,g34_23,g34_21,List.length_map,m8,h8,hc,eES,eEX,Nat.reduceBEq,↓reduceIte,Nat.reduceAdd]
 by_cases hlt : i < x.free.length
 ·obtain ⟨y,hg⟩ : ∃ y,x.free[i]? = some y:=⟨x.free[i],List.getElem?_eq_getElem hlt⟩
  have hgm : (x.free.map fun o => AV.agg o.cells)[i]? = some (.agg y.cells):=by simp [hg]
  have e1:=wi64_s i _ hlt hl
  have ht:=acc_step b (spq x.free) i
  have hq : spq x.free i = ((decide (y.lo ≥ 0) && decide (y.hi ≤ 2147483647) && decide (y.lo ≤ y.hi)) && two x.free spt i):=by unfold spq; rw [ask_at hg]; rfl
  rw [hq] at ht
  have fin : ∀ (f' : Fr) (fr' : Nat → Ob) (v : Bool),((b && allU (spq x.free) i) && ((decide (y.lo ≥ 0) && decide (y.hi ≤ 2147483647) && decide (y.lo ≤ y.hi)) && two x.free spt i)) = v → f' 1 = .ptr 0 1 0 → f' 3 = .bool v → f' 7 = .int .i64 (j : Nat) → f' 8 = .ptr 0 8 0 → f' 11 = .int .i64 ((i + 1 : Nat) : Int) → fr' 1 = .cells (Pc P) → fr' 8 = .cells x.cells → (∀ s ∈ [12],(fr' s).isRow = false) → ∃ k,k < x.free.length - i ∧ I k ⟨f',[fr'],[]⟩:=by
   intro f' fr' v hv a1 a3 a4 a5 a6 a7 a8 a9
   exact ⟨x.free.length - (i + 1),by omega,f',fr',i + 1,rfl,rfl,by omega,a1,by rw [a3,ht,hv],a4,a5,a6,a7,a8,a9⟩
  simp only [PS.cells] at hgm
  cases hb : (b && allU (spq x.free) i)
  ·rw [hb] at fin h3
   simp only [Bool.false_and] at fin
   simp only [lt_t hlt,nneg,Int.toNat_natCast,aiaddr,hgm,PS.cells,n12,splice,List.take_succ_cons,List.take_zero,List.drop_succ_cons,List.drop_zero,List.drop_nil,List.append_nil,List.nil_append,List.length_cons,List.length_nil,m8,h3,h8,hc,e1,eES,eEX,Nat.reduceBEq,↓reduceIte,Nat.reduceAdd,Nat.reduceLeDiff]
   exact fin _ _ _ rfl (by first | rfl | exact h1 | simp only [h1,eES,eEX,Nat.reduceBEq,↓reduceIte,reduceCtorEq,Nat.reduceEqDiff]) (by first | rfl | simp only [eES,eEX,Nat.reduceBEq,↓reduceIte,reduceCtorEq,Nat.reduceEqDiff]) (by first | rfl | exact h7 | simp only [h7,eES,eEX,Nat.reduceBEq,↓reduceIte,reduceCtorEq,Nat.reduceEqDiff]) (by first | rfl | exact h8 | simp only [h8,eES,eEX,Nat.reduceBEq,↓reduceIte,reduceCtorEq,Nat.reduceEqDiff]) (by first | rfl | simp only [eES,eEX,Nat.reduceBEq,↓reduceIte,reduceCtorEq,Nat.reduceEqDiff]) (by first | rfl | exact m1 | simp only [m1,eES,eEX,Nat.reduceBEq,↓reduceIte,reduceCtorEq,Nat.reduceEqDiff]) (by first | rfl | exact m8' | simp only [m8',eES,eEX,Nat.reduceBEq,↓reduceIte,reduceCtorEq,Nat.reduceEqDiff]) (by simp <;> rfl)
  rw [hb] at fin h3
  simp only [Bool.true_and] at fin
  cases a1 : decide (y.lo ≥ 0)
  ·simp only [a1,Bool.false_and] at fin
   simp only [lt_t hlt,nneg,Int.toNat_natCast,aiaddr,hgm,PS.cells,n12,splice,List.take_succ_cons,List.take_zero,List.drop_succ_cons,List.drop_zero,List.drop_nil,List.append_nil,List.nil_append,List.length_cons,List.length_nil,a1,m8,h3,h8,hc,e1,eES,eEX,Nat.reduceBEq,↓reduceIte,Nat.reduceAdd,Nat.reduceLeDiff]
   exact fin _ _ _ rfl (by first | rfl | exact h1 | simp only [h1,eES,eEX,Nat.reduceBEq,↓reduceIte,reduceCtorEq,Nat.reduceEqDiff]) (by first | rfl | simp only [eES,eEX,Nat.reduceBEq,↓reduceIte,reduceCtorEq,Nat.reduceEqDiff]) (by first | rfl | exact h7 | simp only [h7,eES,eEX,Nat.reduceBEq,↓reduceIte,reduceCtorEq,Nat.reduceEqDiff]) (by first | rfl | exact h8 | simp only [h8,eES,eEX,Nat.reduceBEq,↓reduceIte,reduceCtorEq,Nat.reduceEqDiff]) (by first | rfl | simp only [eES,eEX,Nat.reduceBEq,↓reduceIte,reduceCtorEq,Nat.reduceEqDiff]) (by first | rfl | exact m1 | simp only [m1,eES,eEX,Nat.reduceBEq,↓reduceIte,reduceCtorEq,Nat.reduceEqDiff]) (by first | rfl | exact m8' | simp only [m8',eES,eEX,Nat.reduceBEq,↓reduceIte,reduceCtorEq,Nat.reduceEqDiff]) (by simp <;> rfl)
  cases a2 : decide (y.hi ≤ 2147483647)
  ·simp only [a1,a2,Bool.false_and,Bool.and_false] at fin
   simp only [lt_t hlt,nneg,Int.toNat_natCast,aiaddr,hgm,PS.cells,n12,splice,List.take_succ_cons,List.take_zero,List.drop_succ_cons,List.drop_zero,List.drop_nil,List.append_nil,List.nil_append,List.length_cons,List.length_nil,a1,a2,m8,h3,h8,hc,e1,eES,eEX,Nat.reduceBEq,↓reduceIte,Nat.reduceAdd,Nat.reduceLeDiff]
   exact fin _ _ _ rfl (by first | rfl | exact h1 | simp only [h1,eES,eEX,Nat.reduceBEq,↓reduceIte,reduceCtorEq,Nat.reduceEqDiff]) (by first | rfl | simp only [eES,eEX,Nat.reduceBEq,↓reduceIte,reduceCtorEq,Nat.reduceEqDiff]) (by first | rfl | exact h7 | simp only [h7,eES,eEX,Nat.reduceBEq,↓reduceIte,reduceCtorEq,Nat.reduceEqDiff]) (by first | rfl | exact h8 | simp only [h8,eES,eEX,Nat.reduceBEq,↓reduceIte,reduceCtorEq,Nat.reduceEqDiff]) (by first | rfl | simp only [eES,eEX,Nat.reduceBEq,↓reduceIte,reduceCtorEq,Nat.reduceEqDiff]) (by first | rfl | exact m1 | simp only [m1,eES,eEX,Nat.reduceBEq,↓reduceIte,reduceCtorEq,Nat.reduceEqDiff]) (by first | rfl | exact m8' | simp only [m8',eES,eEX,Nat.reduceBEq,↓reduceIte,reduceCtorEq,Nat.reduceEqDiff]) (by simp <;> rfl)
  cases a3 : decide (y.lo ≤ y.hi)
  ·simp only [a1,a2,a3,Bool.false_and,Bool.and_false] at fin
   simp only [lt_t hlt,nneg,Int.toNat_natCast,aiaddr,hgm,PS.cells,n12,splice,List.take_succ_cons,List.take_zero,List.drop_succ_cons,List.drop_zero,List.drop_nil,List.append_nil,List.nil_append,List.length_cons,List.length_nil,a1,a2,a3,m8,h3,h8,hc,e1,eES,eEX,Nat.reduceBEq,↓reduceIte,Nat.reduceAdd,Nat.reduceLeDiff]
   exact fin _ _ _ rfl (by first | rfl | exact h1 | simp only [h1,eES,eEX,Nat.reduceBEq,↓reduceIte,reduceCtorEq,Nat.reduceEqDiff]) (by first | rfl | simp only [eES,eEX,Nat.reduceBEq,↓reduceIte,reduceCtorEq,Nat.reduceEqDiff]) (by first | rfl | exact h7 | simp only [h7,eES,eEX,Nat.reduceBEq,↓reduceIte,reduceCtorEq,Nat.reduceEqDiff]) (by first | rfl | exact h8 | simp only [h8,eES,eEX,Nat.reduceBEq,↓reduceIte,reduceCtorEq,Nat.reduceEqDiff]) (by first | rfl | simp only [eES,eEX,Nat.reduceBEq,↓reduceIte,reduceCtorEq,Nat.reduceEqDiff]) (by first | rfl | exact m1 | simp only [m1,eES,eEX,Nat.reduceBEq,↓reduceIte,reduceCtorEq,Nat.reduceEqDiff]) (by first | rfl | exact m8' | simp only [m8',eES,eEX,Nat.reduceBEq,↓reduceIte,reduceCtorEq,Nat.reduceEqDiff]) (by simp <;> rfl)
  simp only [a1,a2,a3,Bool.true_and,Bool.and_true] at fin
  cases i with
  | zero =>
   have d0 : (((0 : Nat) : Int) == 0) = true:=rfl
   rw [two_zero] at fin
   simp only [lt_t hlt,nneg,Int.toNat_natCast,aiaddr,hgm,PS.cells,n12,splice,List.take_succ_cons,List.take_zero,List.drop_succ_cons,List.drop_zero,List.drop_nil,List.append_nil,List.nil_append,List.length_cons,List.length_nil,a1,a2,a3,d0,m8,h3,h8,hc,e1,eES,eEX,Nat.reduceBEq,↓reduceIte,Nat.reduceAdd,Nat.reduceLeDiff]
   exact fin _ _ _ rfl (by first | rfl | exact h1 | simp only [h1,eES,eEX,Nat.reduceBEq,↓reduceIte,reduceCtorEq,Nat.reduceEqDiff]) (by first | rfl | simp only [eES,eEX,Nat.reduceBEq,↓reduceIte,reduceCtorEq,Nat.reduceEqDiff]) (by first | rfl | exact h7 | simp only [h7,eES,eEX,Nat.reduceBEq,↓reduceIte,reduceCtorEq,Nat.reduceEqDiff]) (by first | rfl | exact h8 | simp only [h8,eES,eEX,Nat.reduceBEq,↓reduceIte,reduceCtorEq,Nat.reduceEqDiff]) (by first | rfl | simp only [eES,eEX,Nat.reduceBEq,↓reduceIte,reduceCtorEq,Nat.reduceEqDiff]) (by first | rfl | exact m1 | simp only [m1,eES,eEX,Nat.reduceBEq,↓reduceIte,reduceCtorEq,Nat.reduceEqDiff]) (by first | rfl | exact m8' | simp only [m8',eES,eEX,Nat.reduceBEq,↓reduceIte,reduceCtorEq,Nat.reduceEqDiff]) (by simp <;> rfl)
  | succ k =>
   have d0 : (((k + 1 : Nat) : Int) == 0) = false:=by rw [beq_eq_false_iff_ne]; omega
   obtain ⟨z,hgz⟩ : ∃ z,x.free[k]? = some z:=⟨x.free[k]'(by omega),List.getElem?_eq_getElem (by omega)⟩
   have hgzm : (x.free.map fun o => AV.agg o.cells)[k]? = some (.agg z.cells):=by simp [hgz]
   have w:=wp64 k _ hlt hl
   have hs : spt z y = decide (y.lo > z.hi):=rfl
   rw [two_at hgz hg,hs] at fin
   simp only [PS.cells] at hgzm
   simp only [lt_t hlt,nneg,Int.toNat_natCast,aiaddr,hgm,hgzm,w,PS.cells,n12,splice,List.take_succ_cons,List.take_zero,List.drop_succ_cons,List.drop_zero,List.drop_nil,List.append_nil,List.nil_append,List.length_cons,List.length_nil,a1,a2,a3,d0,m8,h3,h8,hc,e1,eES,eEX,Nat.reduceBEq,↓reduceIte,Nat.reduceAdd,Nat.reduceLeDiff]
   exact fin _ _ _ rfl (by first | rfl | exact h1 | simp only [h1,eES,eEX,Nat.reduceBEq,↓reduceIte,reduceCtorEq,Nat.reduceEqDiff]) (by first | rfl | simp only [eES,eEX,Nat.reduceBEq,↓reduceIte,reduceCtorEq,Nat.reduceEqDiff]) (by first | rfl | exact h7 | simp only [h7,eES,eEX,Nat.reduceBEq,↓reduceIte,reduceCtorEq,Nat.reduceEqDiff]) (by first | rfl | exact h8 | simp only [h8,eES,eEX,Nat.reduceBEq,↓reduceIte,reduceCtorEq,Nat.reduceEqDiff]) (by first | rfl | simp only [eES,eEX,Nat.reduceBEq,↓reduceIte,reduceCtorEq,Nat.reduceEqDiff]) (by first | rfl | exact m1 | simp only [m1,eES,eEX,Nat.reduceBEq,↓reduceIte,reduceCtorEq,Nat.reduceEqDiff]) (by first | rfl | exact m8' | simp only [m8',eES,eEX,Nat.reduceBEq,↓reduceIte,reduceCtorEq,Nat.reduceEqDiff]) (by simp <;> rfl)
 ·rw [show i = x.free.length by omega,spq_all] at h3
  simp only [lt_f hlt,eES]
  refine hx _ _ (by first | rfl | exact h1 | simp only [h1,eES,eEX,Nat.reduceBEq,↓reduceIte,reduceCtorEq,Nat.reduceEqDiff]) (by first | rfl | exact h3 | simp only [h3,eES,eEX,Nat.reduceBEq,↓reduceIte,reduceCtorEq,Nat.reduceEqDiff]) (by first | rfl | exact h7 | simp only [h7,eES,eEX,Nat.reduceBEq,↓reduceIte,reduceCtorEq,Nat.reduceEqDiff]) (by first | rfl | exact m1 | simp only [m1,eES,eEX,Nat.reduceBEq,↓reduceIte,reduceCtorEq,Nat.reduceEqDiff]) (fun s hs => ?_)
  simp at hs
  rcases hs with rfl | rfl
  ·rw [n12]; rfl
  ·rw [m8]; rfl

end

section
variable {M : Nat} (P : PL) (hP : P.ok M) (fr : Nat → Ob) (m1 : fr 1 = .cells (Pc P)) (f : Fr) (b : Bool) (h1 : f 1 = .ptr 0 1 0) (h3 : f 3 = .bool b) (Q : Exit → St → Prop)
include hP m1 h1 h3

theorem rnge (ha : f 7 = .int .i64 0) (hrow : ∀ s ∈ [12,8],(fr s).isRow = false) (hx : ∀ f fr,f 1 = .ptr 0 1 0 → f 3 = .bool (b && P.enums.all rng2) → Q (.exit 4) (⟨f,[fr],[]⟩ : St)) : awp Tryz.prog (.loop l34_4) ⟨f,[fr],[]⟩ Q:=by
 let I : Nat → St → Prop:=fun k st => ∃ f fr i,st = ⟨f,[fr],[]⟩ ∧ k = P.enums.length - i ∧ i ≤ P.enums.length ∧ f 1 = .ptr 0 1 0 ∧ f 3 = .bool (b && (P.enums.take i).all rng2) ∧ f 7 = .int .i64 (i : Nat) ∧ fr 1 = .cells (Pc P) ∧ ∀ s ∈ [12,8],(fr s).isRow = false
 refine awp_loop I _ ⟨f,fr,0,rfl,rfl,Nat.zero_le _,h1,by rw [h3]; simp,ha,m1,hrow⟩ ?_
 clear h1 h3 ha m1 hrow
 rintro _ st ⟨f0,fr0,i,rfl,rfl,hi,h10,h30,ha0,m10,hr⟩
 refine awp_drops (a:=_) [12,8] hr ?_
 intro f fr hf hm hn
 have h1 : f 1 = .ptr 0 1 0:=by rw [hf,h10] <;> rfl
 have h3 : f 3 = .bool (b && (P.enums.take i).all rng2):=by rw [hf,h30] <;> rfl
 have ha : f 7 = .int .i64 (i : Nat):=by rw [hf,ha0] <;> rfl
 have m1 : fr 1 = .cells (Pc P):=by rw [hm 1 (by decide),m10] <;> rfl
 have n12:=hn 12 (by decide)
 have n8:=hn 8 (by decide)
 clear hf hm hn h10 h30 ha0 m10 hr
 have m1':=m1
 simp only [Pc] at m1
 simp only [g34_11,g34_13,g34_14,g34_19,g34_12,List.length_map,h1,m1,ha,eES,eEX,Nat.reduceBEq,↓reduceIte,Nat.reduceAdd]
 by_cases hlt : i < P.enums.length
 ·obtain ⟨x,hg⟩ : ∃ x,P.enums[i]? = some x:=⟨P.enums[i],List.getElem?_eq_getElem hlt⟩
  have hgm : (P.enums.map eav)[i]? = some (.agg x.cells):=by simp [hg,eav]
  have e1:=wi64_s i _ hlt hP.len2
  have ht:=take_all (q:=rng2) hg
  have hq : (b && (P.enums.take (i + 1)).all rng2) = ((b && (P.enums.take i).all rng2 && (frst x && x.items.all (rngI x))) && (x.free.all spn && adj x.free spt)):=by
   rw [ht]
   unfold rng2
   cases b <;> cases (P.enums.take i).all _ <;> cases x.free.all spn <;> cases adj x.free spt <;> cases frst x <;> cases x.items.all (rngI x) <;> rfl
  have hxo:=hP.enums x (List.mem_of_getElem? hg)
  simp only [PE.cells] at hgm
  simp only [lt_t hlt,nneg,Int.toNat_natCast,aiaddr,hgm,n8,splice,List.take_succ_cons,List.take_zero,List.drop_succ_cons,List.drop_zero,List.drop_nil,List.append_nil,List.nil_append,List.length_cons,List.length_nil,h1,m1,ha,eES,eEX,Nat.reduceBEq,↓reduceIte,Nat.reduceAdd,Nat.reduceLeDiff]
  refine rngI_loop x hxo.len1 hxo.len2 _ (b && (P.enums.take i).all rng2) i _ (by first | rfl | exact h1 | simp only [h1,eES,eEX,Nat.reduceBEq,↓reduceIte,reduceCtorEq,Nat.reduceEqDiff]) (by first | rfl | exact h3 | simp only [h3,eES,eEX,Nat.reduceBEq,↓reduceIte,reduceCtorEq,Nat.reduceEqDiff]) (by first | rfl | exact ha | simp only [ha,eES,eEX,Nat.reduceBEq,↓reduceIte,reduceCtorEq,Nat.reduceEqDiff]) (by first | rfl | simp only [eES,eEX,Nat.reduceBEq,↓reduceIte,reduceCtorEq,Nat.reduceEqDiff]) (by first | rfl | simp only [eES,eEX,Nat.reduceBEq,↓reduceIte,reduceCtorEq,Nat.reduceEqDiff]) _ (by first | rfl | simp only [eES,eEX,Nat.reduceBEq,↓reduceIte,reduceCtorEq,Nat.reduceEqDiff]) (fun f h1 h3 ha h8 => ?_)
  simp only [eES,↓reduceIte]
  refine rngS_loop x hxo.len2 P _ _ i _ (by first | rfl | exact h1 | simp only [h1,eES,eEX,Nat.reduceBEq,↓reduceIte,reduceCtorEq,Nat.reduceEqDiff]) (by first | rfl | exact h3 | simp only [h3,eES,eEX,Nat.reduceBEq,↓reduceIte,reduceCtorEq,Nat.reduceEqDiff]) (by first | rfl | exact ha | simp only [ha,eES,eEX,Nat.reduceBEq,↓reduceIte,reduceCtorEq,Nat.reduceEqDiff]) (by first | rfl | exact h8 | simp only [h8,eES,eEX,Nat.reduceBEq,↓reduceIte,reduceCtorEq,Nat.reduceEqDiff]) (by first | rfl | exact m1' | simp only [m1',eES,eEX,Nat.reduceBEq,↓reduceIte,reduceCtorEq,Nat.reduceEqDiff]) (by first | rfl | simp only [eES,eEX,Nat.reduceBEq,↓reduceIte,reduceCtorEq,Nat.reduceEqDiff]) _ (by first | rfl | simp only [eES,eEX,Nat.reduceBEq,↓reduceIte,reduceCtorEq,Nat.reduceEqDiff]) (fun s hs => by simp at hs; subst hs; rw [upd_ne _ _ (by decide)]; first | rw [n12]; rfl | (rw [upd_ne _ _ (by decide),n12]; rfl)) (fun f fr h1 h3 ha m1 hr => ?_)
  simp only [ha,e1,eES,Nat.reduceBEq,↓reduceIte]
  exact ⟨P.enums.length - (i + 1),by omega,_,fr,i + 1,rfl,rfl,by omega,(by first | rfl | exact h1 | simp only [h1,eES,eEX,Nat.reduceBEq,↓reduceIte,reduceCtorEq,Nat.reduceEqDiff]),by rw [hq] <;> first | exact h3 | simp only [h3,eES,eEX,Nat.reduceBEq,Int.reduceLE,Int.reduceLT,Int.reduceToNat,Int.reduceEq,↓reduceIte,reduceCtorEq,Nat.reducePow,Nat.reduceAdd,Nat.reduceLeDiff,Nat.reduceLT,Nat.reduceSub,Nat.reduceEqDiff],(by first | rfl | simp only [eES,eEX,Nat.reduceBEq,↓reduceIte,reduceCtorEq,Nat.reduceEqDiff]),m1,hr⟩
 ·have hf : (P.enums.take i).all rng2 = P.enums.all rng2:=by rw [List.take_of_length_le (by omega)]
  rw [hf] at h3
  simp only [lt_f hlt,eES]
  exact hx _ _ (by first | rfl | exact h1 | simp only [h1,eES,eEX,Nat.reduceBEq,↓reduceIte,reduceCtorEq,Nat.reduceEqDiff]) (by first | rfl | exact h3 | simp only [h3,eES,eEX,Nat.reduceBEq,↓reduceIte,reduceCtorEq,Nat.reduceEqDiff])

end

theorem z34 {M : Nat} (P : PL) (hP : P.ok M) : Fn1 Tryz.prog 34 [P.av] (.bool (rng P)):=by
 have e0 : P.av = .agg [.list (P.progs.map gav),.list (P.enums.map eav)]:=rfl
 refine fn1_of_awp (rc:=r34) (rs:=o34) Tryz.func34 rfl rfl Tryz.ntmps34 k34 q34 (by simp) ?_
 simp only [g34_0,g34_1,g34_2,g34_10,g34_24,r34,o34,e0,eES,eEX]
 refine rngo P hP _ (by first | rfl | simp only [eES,eEX,Nat.reduceBEq,↓reduceIte,reduceCtorEq,Nat.reduceEqDiff]) _ true (by first | rfl | simp only [eES,eEX,Nat.reduceBEq,↓reduceIte,reduceCtorEq,Nat.reduceEqDiff]) (by first | rfl | simp only [eES,eEX,Nat.reduceBEq,↓reduceIte,reduceCtorEq,Nat.reduceEqDiff]) _ (by first | rfl | simp only [eES,eEX,Nat.reduceBEq,↓reduceIte,reduceCtorEq,Nat.reduceEqDiff]) (fun f h1 h3 => ?_)
 simp only [eES,↓reduceIte]
 refine rnge P hP _ (by first | rfl | simp only [eES,eEX,Nat.reduceBEq,↓reduceIte,reduceCtorEq,Nat.reduceEqDiff]) _ _ (by first | rfl | exact h1 | simp only [h1,eES,eEX,Nat.reduceBEq,↓reduceIte,reduceCtorEq,Nat.reduceEqDiff]) (by first | rfl | exact h3 | simp only [h3,eES,eEX,Nat.reduceBEq,↓reduceIte,reduceCtorEq,Nat.reduceEqDiff]) _ (by first | rfl | simp only [eES,eEX,Nat.reduceBEq,↓reduceIte,reduceCtorEq,Nat.reduceEqDiff]) (fun s hs => by simp at hs; rcases hs with rfl | rfl <;> rfl) (fun f fr h1 h3 => ?_)
 simp only [h3,rng,Bool.true_and,eES,Nat.reduceBEq,↓reduceIte]

end Go.Proofs.YtelhohgmmhbahaaGreatDoor.Va

set_option linter.unusedSimpArgs false
namespace Go.Proofs.YtelhohgmmhbahaaGreatDoor.Va
open Go Am Rc Bt Br

end Go.Proofs.YtelhohgmmhbahaaGreatDoor.Va

set_option linter.unusedSimpArgs false
namespace Go.Proofs.YtelhohgmmhbahaaGreatDoor.Va
open Go Am Rc Bt Br

structure Fi (P : PL) (c : Nat) (B : List Bool) (a : Bool) (f : Fr) (fr : Nat → Ob) : Prop where
 h1 : f 1 = .ptr 0 1 0
 m1 : fr 1 = .cells (Pc P)
 h3 : f 3 = .vec 0 12 1 0 P.progs.length false
 m12 : fr 12 = .vec 1 1 (B.map AV.bool)
 h4 : f 4 = .bool a
 h19 : f 19 = .int .i64 (P.progs.length : Nat)
 h20 : f 20 = .int .i64 (c : Nat)
 r8 : ∀ s ∈ [8],(fr s).isRow = false

theorem Fi.drop {P : PL} {c : Nat} {B : List Bool} {a : Bool} {f f' : Fr} {fr fr' : Nat → Ob} (h : Fi P c B a f fr) (hf : ∀ i,f' i = scrs [8] (f i)) (hm : ∀ i,i ∉ [8] → fr' i = oscrs [8] (fr i)) (hn : ∀ i ∈ [8],fr' i = .none) : Fi P c B a f' fr' where
 h1:=by rw [hf,h.h1] <;> rfl
 m1:=by rw [hm 1 (by decide),h.m1] <;> rfl
 h3:=by rw [hf,h.h3] <;> rfl
 m12:=by rw [hm 12 (by decide),h.m12] <;> rfl
 h4:=by rw [hf,h.h4] <;> rfl
 h19:=by rw [hf,h.h19] <;> rfl
 h20:=by rw [hf,h.h20] <;> rfl
 r8:=fun s hs => by rw [hn s hs] <;> rfl

section
variable {M : Nat} (P : PL) (hP : P.ok M) (hl : P.progs.length ≤ 64) (hT : Tgt P) (c : Nat) (B : List Bool) (hB : B.length = P.progs.length) (a : Bool)
include hP hT hB

theorem fini (i : Nat) (g : PG) (hg : P.progs[i]? = some g) (f : Fr) (fr : Nat → Ob) (H : Fi P c B a f fr) (h5 : f 5 = .int .i64 (i : Nat)) (h6 : f 6 = .bool true) (h7 : f 7 = .int .i64 0) (Q : Exit → St → Prop)
  (hx : ∀ f fr,Fi P c B a f fr → f 5 = .int .i64 (i : Nat) → f 6 = .bool (!g.ops.any (need B)) → Q (.exit 4) (⟨f,[fr],[]⟩ : St)) : awp Tryz.prog (.loop l36_0) ⟨f,[fr],[]⟩ Q:=by
 let I : Nat → St → Prop:=fun k st => ∃ f fr j,st = ⟨f,[fr],[]⟩ ∧ k = g.ops.length - j ∧ j ≤ g.ops.length ∧ Fi P c B a f fr ∧ f 5 = .int .i64 (i : Nat) ∧ f 6 = .bool (!(g.ops.take j).any (need B)) ∧ f 7 = .int .i64 (j : Nat)
 have hgm : (P.progs.map gav)[i]? = some (.agg g.cells):=by simp [hg,gav]
 have hgo:=hP.progs g (List.mem_of_getElem? hg)
 refine awp_loop I _ ⟨f,fr,0,rfl,rfl,Nat.zero_le _,H,h5,by rw [h6]; simp,h7⟩ ?_
 clear H h5 h6 h7
 simp only [PG.cells] at hgm
 rintro _ st ⟨f0,fr0,j,rfl,rfl,hj,H0,h50,h60,h70⟩
 refine awp_drops (a:=_) [8] H0.r8 ?_
 intro f fr hf hm hn
 have H:=H0.drop hf hm hn
 have h5 : f 5 = .int .i64 (i : Nat):=by rw [hf,h50] <;> rfl
 have h6 : f 6 = .bool (!(g.ops.take j).any (need B)):=by rw [hf,h60] <;> rfl
 have h7 : f 7 = .int .i64 (j : Nat):=by rw [hf,h70] <;> rfl
 have n8:=hn 8 (by decide)
 clear hf hm hn H0 h50 h60 h70
 obtain ⟨h1,m1,h3,m12,h4,h19,h20,r8⟩:=id H
 simp only [Pc] at m1
 simp only [g36_11,g36_13,g36_14,g36_12,nneg,Int.toNat_natCast,aiaddr,hgm,List.length_map,h1,m1,h5,h7,eES,eEX,Nat.reduceBEq,↓reduceIte,Nat.reduceAdd]
 by_cases hlt : j < g.ops.length
 ·obtain ⟨o,ho⟩ : ∃ o,g.ops[j]? = some o:=⟨g.ops[j],List.getElem?_eq_getElem hlt⟩
  have hom : (g.ops.map fun o => AV.agg o.cells)[j]? = some (.agg o.cells):=by simp [ho]
  have e1:=wi64_s j _ hlt hgo.len
  have htg:=hT g (List.mem_of_getElem? hg) o (List.mem_of_getElem? ho)
  have ht:=take_any (q:=need B) ho
  have fin2 : ∀ (f' : Fr) (fr' : Nat → Ob) (v : Bool),(!(g.ops.take j).any (need B) && !need B o) = v → Fi P c B a f' fr' → f' 5 = .int .i64 (i : Nat) → f' 6 = .bool v → f' 7 = .int .i64 ((j + 1 : Nat) : Int) → ∃ k,k < g.ops.length - j ∧ I k ⟨f',[fr'],[]⟩:=by
   intro f' fr' v hv b1 b2 b3 b4
   exact ⟨g.ops.length - (j + 1),by omega,f',fr',j + 1,rfl,rfl,by omega,b1,b2,by rw [b3,ht,Bool.not_or,hv],b4⟩
  simp only [PO.cells] at hom
  have m1' : fr 1 = .cells (Pc P):=by rw [m1] <;> rfl
  cases hb : !(g.ops.take j).any (need B)
  ·rw [hb] at fin2 h6
   simp only [Bool.false_and] at fin2
   simp only [lt_t hlt,nneg,Int.toNat_natCast,aiaddr,hgm,hom,PO.cells,n8,splice,List.take_succ_cons,List.take_zero,List.drop_succ_cons,List.drop_zero,List.drop_nil,List.append_nil,List.nil_append,List.length_cons,List.length_nil,h1,m1,h5,h6,h7,e1,eES,eEX,Nat.reduceBEq,↓reduceIte,Nat.reduceAdd,Nat.reduceLeDiff]
   exact fin2 _ _ _ rfl ⟨(by first | rfl | exact h1 | simp only [h1,eES,eEX,Nat.reduceBEq,↓reduceIte,reduceCtorEq,Nat.reduceEqDiff]),(by first | rfl | exact m1' | simp only [m1',eES,eEX,Nat.reduceBEq,↓reduceIte,reduceCtorEq,Nat.reduceEqDiff]),(by first | rfl | exact h3 | simp only [h3,eES,eEX,Nat.reduceBEq,↓reduceIte,reduceCtorEq,Nat.reduceEqDiff]),(by first | rfl | exact m12 | simp only [m12,eES,eEX,Nat.reduceBEq,↓reduceIte,reduceCtorEq,Nat.reduceEqDiff]),(by first | rfl | exact h4 | simp only [h4,eES,eEX,Nat.reduceBEq,↓reduceIte,reduceCtorEq,Nat.reduceEqDiff]),(by first | rfl | exact h19 | simp only [h19,eES,eEX,Nat.reduceBEq,↓reduceIte,reduceCtorEq,Nat.reduceEqDiff]),(by first | rfl | exact h20 | simp only [h20,eES,eEX,Nat.reduceBEq,↓reduceIte,reduceCtorEq,Nat.reduceEqDiff]),by simp <;> rfl⟩ (by first | rfl | exact h5 | simp only [h5,eES,eEX,Nat.reduceBEq,↓reduceIte,reduceCtorEq,Nat.reduceEqDiff]) (by first | rfl | simp only [eES,eEX,Nat.reduceBEq,↓reduceIte,reduceCtorEq,Nat.reduceEqDiff]) (by first | rfl | simp only [eES,eEX,Nat.reduceBEq,↓reduceIte,reduceCtorEq,Nat.reduceEqDiff])
  rw [hb] at fin2 h6
  simp only [Bool.true_and] at fin2
  cases c1 : (o.card == 1)
  ·have c1' : (o.card != 1) = true:=by rw [bne,c1]; rfl
   have hne : (!need B o) = true:=by unfold need; rw [c1]; rfl
   rw [hne] at fin2
   simp only [lt_t hlt,nneg,Int.toNat_natCast,aiaddr,hgm,hom,PO.cells,n8,splice,List.take_succ_cons,List.take_zero,List.drop_succ_cons,List.drop_zero,List.drop_nil,List.append_nil,List.nil_append,List.length_cons,List.length_nil,c1',h1,m1,h5,h6,h7,e1,eES,eEX,Nat.reduceBEq,↓reduceIte,Nat.reduceAdd,Nat.reduceLeDiff]
   exact fin2 _ _ _ rfl ⟨(by first | rfl | exact h1 | simp only [h1,eES,eEX,Nat.reduceBEq,↓reduceIte,reduceCtorEq,Nat.reduceEqDiff]),(by first | rfl | exact m1' | simp only [m1',eES,eEX,Nat.reduceBEq,↓reduceIte,reduceCtorEq,Nat.reduceEqDiff]),(by first | rfl | exact h3 | simp only [h3,eES,eEX,Nat.reduceBEq,↓reduceIte,reduceCtorEq,Nat.reduceEqDiff]),(by first | rfl | exact m12 | simp only [m12,eES,eEX,Nat.reduceBEq,↓reduceIte,reduceCtorEq,Nat.reduceEqDiff]),(by first | rfl | exact h4 | simp only [h4,eES,eEX,Nat.reduceBEq,↓reduceIte,reduceCtorEq,Nat.reduceEqDiff]),(by first | rfl | exact h19 | simp only [h19,eES,eEX,Nat.reduceBEq,↓reduceIte,reduceCtorEq,Nat.reduceEqDiff]),(by first | rfl | exact h20 | simp only [h20,eES,eEX,Nat.reduceBEq,↓reduceIte,reduceCtorEq,Nat.reduceEqDiff]),by simp <;> rfl⟩ (by first | rfl | exact h5 | simp only [h5,eES,eEX,Nat.reduceBEq,↓reduceIte,reduceCtorEq,Nat.reduceEqDiff]) (by first | rfl | simp only [eES,eEX,Nat.reduceBEq,↓reduceIte,reduceCtorEq,Nat.reduceEqDiff]) (by first | rfl | simp only [eES,eEX,Nat.reduceBEq,↓reduceIte,reduceCtorEq,Nat.reduceEqDiff])
  have c1' : (o.card != 1) = false:=by rw [bne,c1]; rfl
  cases c2 : (o.kind == 10)
  ·have c2' : (o.kind != 10) = true:=by rw [bne,c2]; rfl
   have hne : (!need B o) = true:=by unfold need; rw [c1,c2]; rfl
   rw [hne] at fin2
   simp only [lt_t hlt,nneg,Int.toNat_natCast,aiaddr,hgm,hom,PO.cells,n8,splice,List.take_succ_cons,List.take_zero,List.drop_succ_cons,List.drop_zero,List.drop_nil,List.append_nil,List.nil_append,List.length_cons,List.length_nil,c1',c2',h1,m1,h5,h6,h7,e1,eES,eEX,Nat.reduceBEq,↓reduceIte,Nat.reduceAdd,Nat.reduceLeDiff]
   exact fin2 _ _ _ rfl ⟨(by first | rfl | exact h1 | simp only [h1,eES,eEX,Nat.reduceBEq,↓reduceIte,reduceCtorEq,Nat.reduceEqDiff]),(by first | rfl | exact m1' | simp only [m1',eES,eEX,Nat.reduceBEq,↓reduceIte,reduceCtorEq,Nat.reduceEqDiff]),(by first | rfl | exact h3 | simp only [h3,eES,eEX,Nat.reduceBEq,↓reduceIte,reduceCtorEq,Nat.reduceEqDiff]),(by first | rfl | exact m12 | simp only [m12,eES,eEX,Nat.reduceBEq,↓reduceIte,reduceCtorEq,Nat.reduceEqDiff]),(by first | rfl | exact h4 | simp only [h4,eES,eEX,Nat.reduceBEq,↓reduceIte,reduceCtorEq,Nat.reduceEqDiff]),(by first | rfl | exact h19 | simp only [h19,eES,eEX,Nat.reduceBEq,↓reduceIte,reduceCtorEq,Nat.reduceEqDiff]),(by first | rfl | exact h20 | simp only [h20,eES,eEX,Nat.reduceBEq,↓reduceIte,reduceCtorEq,Nat.reduceEqDiff]),by simp <;> rfl⟩ (by first | rfl | exact h5 | simp only [h5,eES,eEX,Nat.reduceBEq,↓reduceIte,reduceCtorEq,Nat.reduceEqDiff]) (by first | rfl | simp only [eES,eEX,Nat.reduceBEq,↓reduceIte,reduceCtorEq,Nat.reduceEqDiff]) (by first | rfl | simp only [eES,eEX,Nat.reduceBEq,↓reduceIte,reduceCtorEq,Nat.reduceEqDiff])
  have c2' : (o.kind != 10) = false:=by rw [bne,c2]; rfl
  obtain ⟨t1,t2⟩:=htg (by simpa using c2)
  obtain ⟨t,hte⟩:=Int.eq_ofNat_of_zero_le t1
  obtain ⟨y,hy⟩ : ∃ y,B[t]? = some y:=⟨B[t]'(by omega),List.getElem?_eq_getElem (by omega)⟩
  have hym : (B.map AV.bool)[t]? = some (.bool y):=by simp [hy]
  have hlt2 : (t < P.progs.length) = True:=eq_true (by omega)
  have hne : (!need B o) = y:=by unfold need; rw [c1,c2,hte,Int.toNat_natCast,hy]; cases y <;> rfl
  rw [hne] at fin2
  simp only [lt_t hlt,nneg,Int.toNat_natCast,aiaddr,hgm,hom,PO.cells,n8,splice,List.take_succ_cons,List.take_zero,List.drop_succ_cons,List.drop_zero,List.drop_nil,List.append_nil,List.nil_append,List.length_cons,List.length_nil,c1',c2',hte,hym,hlt2,m12,Nat.zero_add,h1,m1,h3,h5,h6,h7,e1,eES,eEX,Nat.reduceBEq,↓reduceIte,Nat.reduceAdd,Nat.reduceLeDiff]
  exact fin2 _ _ _ rfl ⟨(by first | rfl | exact h1 | simp only [h1,eES,eEX,Nat.reduceBEq,↓reduceIte,reduceCtorEq,Nat.reduceEqDiff]),(by first | rfl | exact m1' | simp only [m1',eES,eEX,Nat.reduceBEq,↓reduceIte,reduceCtorEq,Nat.reduceEqDiff]),(by first | rfl | exact h3 | simp only [h3,eES,eEX,Nat.reduceBEq,↓reduceIte,reduceCtorEq,Nat.reduceEqDiff]),(by first | rfl | exact m12 | simp only [m12,eES,eEX,Nat.reduceBEq,↓reduceIte,reduceCtorEq,Nat.reduceEqDiff]),(by first | rfl | exact h4 | simp only [h4,eES,eEX,Nat.reduceBEq,↓reduceIte,reduceCtorEq,Nat.reduceEqDiff]),(by first | rfl | exact h19 | simp only [h19,eES,eEX,Nat.reduceBEq,↓reduceIte,reduceCtorEq,Nat.reduceEqDiff]),(by first | rfl | exact h20 | simp only [h20,eES,eEX,Nat.reduceBEq,↓reduceIte,reduceCtorEq,Nat.reduceEqDiff]),by simp <;> rfl⟩ (by first | rfl | exact h5 | simp only [h5,eES,eEX,Nat.reduceBEq,↓reduceIte,reduceCtorEq,Nat.reduceEqDiff]) (by first | rfl | simp only [eES,eEX,Nat.reduceBEq,↓reduceIte,reduceCtorEq,Nat.reduceEqDiff]) (by first | rfl | simp only [eES,eEX,Nat.reduceBEq,↓reduceIte,reduceCtorEq,Nat.reduceEqDiff])
 ·have hf : (g.ops.take j).any (need B) = g.ops.any (need B):=by rw [List.take_of_length_le (by omega)]
  rw [hf] at h6
  simp only [lt_f hlt,eES]
  refine hx _ _ ⟨(by first | rfl | exact h1 | simp only [h1,eES,eEX,Nat.reduceBEq,↓reduceIte,reduceCtorEq,Nat.reduceEqDiff]),by rw [m1] <;> rfl,(by first | rfl | exact h3 | simp only [h3,eES,eEX,Nat.reduceBEq,↓reduceIte,reduceCtorEq,Nat.reduceEqDiff]),(by first | rfl | exact m12 | simp only [m12,eES,eEX,Nat.reduceBEq,↓reduceIte,reduceCtorEq,Nat.reduceEqDiff]),(by first | rfl | exact h4 | simp only [h4,eES,eEX,Nat.reduceBEq,↓reduceIte,reduceCtorEq,Nat.reduceEqDiff]),(by first | rfl | exact h19 | simp only [h19,eES,eEX,Nat.reduceBEq,↓reduceIte,reduceCtorEq,Nat.reduceEqDiff]),(by first | rfl | exact h20 | simp only [h20,eES,eEX,Nat.reduceBEq,↓reduceIte,reduceCtorEq,Nat.reduceEqDiff]),r8⟩ (by first | rfl | exact h5 | simp only [h5,eES,eEX,Nat.reduceBEq,↓reduceIte,reduceCtorEq,Nat.reduceEqDiff]) (by first | rfl | exact h6 | simp only [h6,eES,eEX,Nat.reduceBEq,↓reduceIte,reduceCtorEq,Nat.reduceEqDiff])

end

theorem set_take {B : List Bool} {i : Nat} (h : i < B.length) (v : Bool) : ((B.set i v).take (i + 1)).all id = ((B.take i).all id && v):=by
 have h1 : (B.set i v)[i]? = some v:=List.getElem?_set_self h
 rw [take_all h1,List.take_set_of_le (Nat.le_refl _)]
 rfl

section
variable {M : Nat} (P : PL) (hP : P.ok M) (hl : P.progs.length ≤ 64) (hT : Tgt P) (c : Nat)
include hP hl hT

theorem finm (f : Fr) (fr : Nat → Ob) (H : Fi P c (its P.progs c) true f fr) (h5 : f 5 = .int .i64 0) (Q : Exit → St → Prop) (hx : ∀ f fr,Fi P c (its P.progs (c + 1)) ((its P.progs (c + 1)).all id) f fr → Q (.exit 2) (⟨f,[fr],[]⟩ : St)) : awp Tryz.prog (.loop l36_1) ⟨f,[fr],[]⟩ Q:=by
 let I : Nat → St → Prop:=fun k st => ∃ f fr i,st = ⟨f,[fr],[]⟩ ∧ k = P.progs.length - i ∧ i ≤ P.progs.length ∧ Fi P c (rnd P.progs (its P.progs c) i) (((rnd P.progs (its P.progs c) i).take i).all id) f fr ∧ f 5 = .int .i64 (i : Nat)
 refine awp_loop I _ ⟨f,fr,0,rfl,rfl,Nat.zero_le _,H,h5⟩ ?_
 clear H h5
 rintro _ st ⟨f0,fr0,i,rfl,rfl,hi,H0,h50⟩
 refine awp_drops (a:=_) [8] H0.r8 ?_
 intro f fr hf hm hn
 have H:=H0.drop hf hm hn
 have h5 : f 5 = .int .i64 (i : Nat):=by rw [hf,h50] <;> rfl
 clear hf hm hn H0 h50
 have hBl : (rnd P.progs (its P.progs c) i).length = P.progs.length:=by rw [rnd_len,its_len]
 obtain ⟨h1,m1,h3,m12,h4,h19,h20,r8⟩:=id H
 have m1':=m1
 simp only [Pc] at m1
 simp only [g36_7,g36_9,g36_10,g36_15,g36_16,g36_8,List.length_map,h1,m1,h5,eES,eEX,Nat.reduceBEq,↓reduceIte,Nat.reduceAdd]
 by_cases hlt : i < P.progs.length
 ·obtain ⟨g,hg⟩ : ∃ g,P.progs[i]? = some g:=⟨P.progs[i],List.getElem?_eq_getElem hlt⟩
  have e1:=wi64_s i _ hlt (by simp only [maxLen]; omega)
  have hst : rnd P.progs (its P.progs c) (i + 1) = (rnd P.progs (its P.progs c) i).set i (!g.ops.any (need (rnd P.progs (its P.progs c) i))):=by
   rw [rnd]
   conv => lhs; unfold stp
   rw [hg]
  have htk:=set_take (B:=rnd P.progs (its P.progs c) i) (i:=i) (by omega) (!g.ops.any (need (rnd P.progs (its P.progs c) i)))
  rw [← hst] at htk
  simp only [lt_t hlt,eES]
  refine fini P hP hT c _ hBl _ i g hg _ fr ⟨(by first | rfl | exact h1 | simp only [h1,eES,eEX,Nat.reduceBEq,↓reduceIte,reduceCtorEq,Nat.reduceEqDiff]),m1',(by first | rfl | exact h3 | simp only [h3,eES,eEX,Nat.reduceBEq,↓reduceIte,reduceCtorEq,Nat.reduceEqDiff]),m12,(by first | rfl | exact h4 | simp only [h4,eES,eEX,Nat.reduceBEq,↓reduceIte,reduceCtorEq,Nat.reduceEqDiff]),(by first | rfl | exact h19 | simp only [h19,eES,eEX,Nat.reduceBEq,↓reduceIte,reduceCtorEq,Nat.reduceEqDiff]),(by first | rfl | exact h20 | simp only [h20,eES,eEX,Nat.reduceBEq,↓reduceIte,reduceCtorEq,Nat.reduceEqDiff]),r8⟩ (by first | rfl | exact h5 | simp only [h5,eES,eEX,Nat.reduceBEq,↓reduceIte,reduceCtorEq,Nat.reduceEqDiff]) (by first | rfl | simp only [eES,eEX,Nat.reduceBEq,↓reduceIte,reduceCtorEq,Nat.reduceEqDiff]) (by first | rfl | simp only [eES,eEX,Nat.reduceBEq,↓reduceIte,reduceCtorEq,Nat.reduceEqDiff]) _ (fun f fr H h5 h6 => ?_)
  generalize hBB : rnd P.progs (its P.progs c) i = B at *
  generalize hv : (!g.ops.any (need B)) = v at *
  obtain ⟨h1,m1,h3,m12,h4,h19,h20,r8⟩:=H
  obtain ⟨y,hy⟩ : ∃ y,B[i]? = some y:=⟨B[i]'(by omega),List.getElem?_eq_getElem (by omega)⟩
  have hym : (B.map AV.bool)[i]? = some (.bool y):=by simp [hy]
  have ia : aiaddr [fr] 1 none (.vec 0 12 1 0 P.progs.length false) (i : Int) = some (.vptr 0 12 1 i 0):=by
   have e : Am.look [fr] 0 12 = .vec 1 1 (B.map AV.bool):=m12
   simp only [aiaddr,e,nneg,if_true,Int.toNat_natCast]
   simp; omega
  have ist : astore [fr] (.vptr 0 12 1 i 0) [.bool v] = some [upd fr 12 (.vec 1 1 ((B.map AV.bool).set i (.bool v)))]:=by
   have e : Am.look [fr] 0 12 = .vec 1 1 (B.map AV.bool):=m12
   simp only [astore,e,hym]
   simp [AV.cells,AV.rfL,AV.rf,Am.put,newElem]
  have hset : (B.map AV.bool).set i (.bool v) = (rnd P.progs (its P.progs c) (i + 1)).map AV.bool:=by rw [hst,List.map_set]
  rw [hset] at ist
  cases hal : (B.take i).all id
  ·rw [hal] at h4 htk
   simp only [ia,ist,h3,h4,h5,h6,e1,eES,eEX,Nat.reduceBEq,↓reduceIte,Nat.reduceAdd]
   exact ⟨P.progs.length - (i + 1),by omega,_,_,i + 1,rfl,rfl,by omega,⟨(by first | rfl | exact h1 | simp only [h1,eES,eEX,Nat.reduceBEq,↓reduceIte,reduceCtorEq,Nat.reduceEqDiff]),(by first | rfl | exact m1 | simp only [m1,eES,eEX,Nat.reduceBEq,↓reduceIte,reduceCtorEq,Nat.reduceEqDiff]),(by first | rfl | exact h3 | simp only [h3,eES,eEX,Nat.reduceBEq,↓reduceIte,reduceCtorEq,Nat.reduceEqDiff]),(by first | rfl | simp only [eES,eEX,Nat.reduceBEq,↓reduceIte,reduceCtorEq,Nat.reduceEqDiff]),by rw [htk] <;> first | exact h4 | simp only [h4,Bool.false_and,eES,Nat.reduceBEq],(by first | rfl | exact h19 | simp only [h19,eES,eEX,Nat.reduceBEq,↓reduceIte,reduceCtorEq,Nat.reduceEqDiff]),(by first | rfl | exact h20 | simp only [h20,eES,eEX,Nat.reduceBEq,↓reduceIte,reduceCtorEq,Nat.reduceEqDiff]),fun s hs => by simp at hs; subst hs; rw [upd_ne _ _ (by decide)]; exact r8 8 (by simp)⟩,(by first | rfl | simp only [eES,eEX,Nat.reduceBEq,↓reduceIte,reduceCtorEq,Nat.reduceEqDiff])⟩
  ·rw [hal] at h4 htk
   simp only [ia,ist,h3,h4,h5,h6,e1,eES,eEX,Nat.reduceBEq,↓reduceIte,Nat.reduceAdd]
   exact ⟨P.progs.length - (i + 1),by omega,_,_,i + 1,rfl,rfl,by omega,⟨(by first | rfl | exact h1 | simp only [h1,eES,eEX,Nat.reduceBEq,↓reduceIte,reduceCtorEq,Nat.reduceEqDiff]),(by first | rfl | exact m1 | simp only [m1,eES,eEX,Nat.reduceBEq,↓reduceIte,reduceCtorEq,Nat.reduceEqDiff]),(by first | rfl | exact h3 | simp only [h3,eES,eEX,Nat.reduceBEq,↓reduceIte,reduceCtorEq,Nat.reduceEqDiff]),(by first | rfl | simp only [eES,eEX,Nat.reduceBEq,↓reduceIte,reduceCtorEq,Nat.reduceEqDiff]),by rw [htk,Bool.true_and] <;> first | rfl | simp only [eES,eEX,Nat.reduceBEq,Int.reduceLE,Int.reduceLT,Int.reduceToNat,Int.reduceEq,↓reduceIte,reduceCtorEq,Nat.reducePow,Nat.reduceAdd,Nat.reduceLeDiff,Nat.reduceLT,Nat.reduceSub,Nat.reduceEqDiff],(by first | rfl | exact h19 | simp only [h19,eES,eEX,Nat.reduceBEq,↓reduceIte,reduceCtorEq,Nat.reduceEqDiff]),(by first | rfl | exact h20 | simp only [h20,eES,eEX,Nat.reduceBEq,↓reduceIte,reduceCtorEq,Nat.reduceEqDiff]),fun s hs => by simp at hs; subst hs; rw [upd_ne _ _ (by decide)]; exact r8 8 (by simp)⟩,(by first | rfl | simp only [eES,eEX,Nat.reduceBEq,↓reduceIte,reduceCtorEq,Nat.reduceEqDiff])⟩
 ·have hii : i = P.progs.length:=by omega
  subst hii
  have hits : rnd P.progs (its P.progs c) P.progs.length = its P.progs (c + 1):=rfl
  rw [hits] at H hBl m12 h4
  rw [List.take_of_length_le (by omega)] at h4
  simp only [lt_f hlt,eES]
  exact hx _ _ ⟨(by first | rfl | exact h1 | simp only [h1,eES,eEX,Nat.reduceBEq,↓reduceIte,reduceCtorEq,Nat.reduceEqDiff]),m1',(by first | rfl | exact h3 | simp only [h3,eES,eEX,Nat.reduceBEq,↓reduceIte,reduceCtorEq,Nat.reduceEqDiff]),m12,(by first | rfl | exact h4 | simp only [h4,eES,eEX,Nat.reduceBEq,↓reduceIte,reduceCtorEq,Nat.reduceEqDiff]),(by first | rfl | exact h19 | simp only [h19,eES,eEX,Nat.reduceBEq,↓reduceIte,reduceCtorEq,Nat.reduceEqDiff]),(by first | rfl | exact h20 | simp only [h20,eES,eEX,Nat.reduceBEq,↓reduceIte,reduceCtorEq,Nat.reduceEqDiff]),r8⟩

end

theorem z36 {M : Nat} (P : PL) (hP : P.ok M) (hl : P.progs.length ≤ 64) (hT : Tgt P) : Fn1 Tryz.prog 36 [P.av] (.bool (fin P)):=by
 have e0 : P.av = .agg [.list (P.progs.map gav),.list (P.enums.map eav)]:=rfl
 have hmx : P.progs.length ≤ maxLen:=by simp only [maxLen]; omega
 have hz : zeroE 1 [AV.bool false] = .bool false:=rfl
 have hr0 : (List.replicate P.progs.length (AV.bool false)) = (its P.progs 0).map AV.bool:=by simp [its]
 let A : Nat → Bool:=fun c => if c = 0 then (P.progs.length : Int) == 0 else (its P.progs c).all id
 have hA : A P.progs.length = fin P:=by
  show (if P.progs.length = 0 then (P.progs.length : Int) == 0 else (its P.progs P.progs.length).all id) = (its P.progs P.progs.length).all id
  split
  ·rename_i h
   rw [h]
   simp [its,h]
  ·rfl
 let I : Nat → St → Prop:=fun k st => ∃ f fr c,st = ⟨f,[fr],[]⟩ ∧ k = P.progs.length - c ∧ c ≤ P.progs.length ∧ Fi P c (its P.progs c) (A c) f fr
 refine fn1_of_awp (rc:=r36) (rs:=o36) Tryz.func36 rfl rfl Tryz.ntmps36 k36 q36 (by simp) ?_
 simp only [g36_0,g36_1,g36_2,g36_3,g36_18,r36,o36,e0,List.length_map,eES,eEX,Nat.reduceBEq,Nat.reduceAdd]
 refine aops_mk (n:=P.progs.length) (k:=P.progs.length) rfl rfl (Nat.le_refl _) (by omega) (by omega) rfl ?_
 simp only [hz,hr0,List.length_map,eES,eEX,Nat.reduceBEq,↓reduceIte,Nat.reduceAdd]
 refine awp_loop I _ ⟨_,_,0,rfl,rfl,Nat.zero_le _,⟨(by first | rfl | simp only [eES,eEX,Nat.reduceBEq,↓reduceIte,reduceCtorEq,Nat.reduceEqDiff]),(by first | rfl | simp only [eES,eEX,Nat.reduceBEq,↓reduceIte,reduceCtorEq,Nat.reduceEqDiff]),(by first | rfl | simp only [eES,eEX,Nat.reduceBEq,↓reduceIte,reduceCtorEq,Nat.reduceEqDiff]),(by first | rfl | simp only [eES,eEX,Nat.reduceBEq,↓reduceIte,reduceCtorEq,Nat.reduceEqDiff]),(by first | rfl | simp only [eES,eEX,Nat.reduceBEq,↓reduceIte,reduceCtorEq,Nat.reduceEqDiff]),(by first | rfl | simp only [eES,eEX,Nat.reduceBEq,↓reduceIte,reduceCtorEq,Nat.reduceEqDiff]),(by first | rfl | simp only [eES,eEX,Nat.reduceBEq,↓reduceIte,reduceCtorEq,Nat.reduceEqDiff]),by simp <;> rfl⟩⟩ ?_
 rintro _ st ⟨f0,fr0,c,rfl,rfl,hc,H0⟩
 refine awp_drops (a:=_) [8] H0.r8 ?_
 intro f fr hf hm hn
 have H:=H0.drop hf hm hn
 clear hf hm hn H0
 obtain ⟨h1,m1,h3,m12,h4,h19,h20,r8⟩:=id H
 simp only [g36_4,g36_5,g36_6,g36_17,h19,h20,eES,Nat.reduceBEq,↓reduceIte]
 by_cases hlt : c < P.progs.length
 ·have e1:=wi64_s c _ hlt hmx
  simp only [lt_t hlt,eES]
  refine finm P hP hl hT c _ fr ⟨(by first | rfl | exact h1 | simp only [h1,eES,eEX,Nat.reduceBEq,↓reduceIte,reduceCtorEq,Nat.reduceEqDiff]),m1,(by first | rfl | exact h3 | simp only [h3,eES,eEX,Nat.reduceBEq,↓reduceIte,reduceCtorEq,Nat.reduceEqDiff]),m12,(by first | rfl | simp only [eES,eEX,Nat.reduceBEq,↓reduceIte,reduceCtorEq,Nat.reduceEqDiff]),(by first | rfl | exact h19 | simp only [h19,eES,eEX,Nat.reduceBEq,↓reduceIte,reduceCtorEq,Nat.reduceEqDiff]),(by first | rfl | exact h20 | simp only [h20,eES,eEX,Nat.reduceBEq,↓reduceIte,reduceCtorEq,Nat.reduceEqDiff]),r8⟩ (by first | rfl | simp only [eES,eEX,Nat.reduceBEq,↓reduceIte,reduceCtorEq,Nat.reduceEqDiff]) _ (fun f fr H => ?_)
  obtain ⟨h1,m1,h3,m12,h4,h19,h20,r8⟩:=H
  simp only [h20,e1,eES,Nat.reduceBEq,↓reduceIte]
  exact ⟨P.progs.length - (c + 1),by omega,_,fr,c + 1,rfl,rfl,by omega,⟨(by first | rfl | exact h1 | simp only [h1,eES,eEX,Nat.reduceBEq,↓reduceIte,reduceCtorEq,Nat.reduceEqDiff]),m1,(by first | rfl | exact h3 | simp only [h3,eES,eEX,Nat.reduceBEq,↓reduceIte,reduceCtorEq,Nat.reduceEqDiff]),m12,(by first | rfl | exact h4 | simp only [h4,eES,eEX,Nat.reduceBEq,↓reduceIte,reduceCtorEq,Nat.reduceEqDiff]),(by first | rfl | exact h19 | simp only [h19,eES,eEX,Nat.reduceBEq,↓reduceIte,reduceCtorEq,Nat.reduceEqDiff]),(by first | rfl | simp only [eES,eEX,Nat.reduceBEq,↓reduceIte,reduceCtorEq,Nat.reduceEqDiff]),r8⟩⟩
 ·have hcc : c = P.progs.length:=by omega
  subst hcc
  rw [hA] at h4
  simp only [lt_f hlt,h4,eES,Nat.reduceBEq,↓reduceIte]

theorem z13 {M : Nat} (P : PL) (hP : P.ok M) (hM : M ≤ 140737488351232) : Fn1 Tryz.prog 13 [P.av] (.int .i64 (ck P)):=by
 have e0 : P.av = .agg [.list (P.progs.map gav),.list (P.enums.map eav)]:=rfl
 have c1:=z30 P hP
 have c2:=z31 P hP
 have c3:=z32 P hP
 have c4:=z33 P hP
 have c5:=z34 P hP
 refine fn1_of_awp (rc:=r13) (rs:=o13) Tryz.func13 rfl rfl Tryz.ntmps13 k13 q13 (by simp) ?_
 simp only [g13_0,g13_1,g13_2,g13_3,g13_4,g13_5,g13_6,g13_7,g13_8,g13_9,g13_10,g13_11,g13_12,g13_13,g13_14,g13_15,r13,o13,e0,ck,eES,eEX,Nat.reduceBEq,↓reduceIte,Nat.reduceAdd,Nat.reduceLeDiff]
 refine aops_call c1 rfl rfl rfl (.inl rfl) ?_
 cases hl : lim P
 ·simp only [Bool.not_false,eES,Nat.reduceBEq,↓reduceIte]
 obtain ⟨l1,l2,l3,l4⟩:=lim_progs hl
 have c6:=z35 hM P hP l3
 simp only [Bool.not_true,Bool.true_eq_false,eES,eEX,Nat.reduceBEq,↓reduceIte,Nat.reduceAdd,Nat.reduceLeDiff]
 refine aops_call c2 rfl rfl rfl (.inl rfl) ?_
 cases nam P
 ·simp only [Bool.not_false,eES,Nat.reduceBEq,↓reduceIte]
 simp only [Bool.not_true,Bool.true_eq_false,eES,eEX,Nat.reduceBEq,↓reduceIte,Nat.reduceAdd,Nat.reduceLeDiff]
 refine aops_call c3 rfl rfl rfl (.inl rfl) ?_
 cases ord P
 ·simp only [Bool.not_false,eES,Nat.reduceBEq,↓reduceIte]
 simp only [Bool.not_true,Bool.true_eq_false,eES,eEX,Nat.reduceBEq,↓reduceIte,Nat.reduceAdd,Nat.reduceLeDiff]
 refine aops_call c4 rfl rfl rfl (.inl rfl) ?_
 cases sin P
 ·simp only [Bool.not_false,eES,Nat.reduceBEq,↓reduceIte]
 simp only [Bool.not_true,Bool.true_eq_false,eES,eEX,Nat.reduceBEq,↓reduceIte,Nat.reduceAdd,Nat.reduceLeDiff]
 refine aops_call c5 rfl rfl rfl (.inl rfl) ?_
 cases rng P
 ·simp only [Bool.not_false,eES,Nat.reduceBEq,↓reduceIte]
 simp only [Bool.not_true,Bool.true_eq_false,eES,eEX,Nat.reduceBEq,↓reduceIte,Nat.reduceAdd,Nat.reduceLeDiff]
 refine aops_call c6 rfl rfl rfl (.inl rfl) ?_
 cases ha : args P
 ·simp only [Bool.not_false,eES,Nat.reduceBEq,↓reduceIte]
 have c7:=z36 P hP l1 (args_tgt ha)
 simp only [Bool.not_true,Bool.true_eq_false,eES,eEX,Nat.reduceBEq,↓reduceIte,Nat.reduceAdd,Nat.reduceLeDiff]
 refine aops_call c7 rfl rfl rfl (.inl rfl) ?_
 cases fin P
 ·simp only [Bool.not_false,eES,Nat.reduceBEq,↓reduceIte]
 ·simp only [Bool.not_true,Bool.true_eq_false,eES,Nat.reduceBEq,↓reduceIte]

end Go.Proofs.YtelhohgmmhbahaaGreatDoor.Va

namespace Go.Proofs.YtelhohgmmhbahaaGreatDoor.Cp
open Go Am Bt Vp

structure C where
 d : List UInt8
 a : Int
 e : Int
 dp : Int
 nd : Int
 tx : Int

def C.av (c : C) : AV:=.agg [.str c.d,.int .i64 c.a,.int .i64 c.e,.int .i64 c.dp,.int .i64 c.nd,.int .i64 c.tx]
def zc : C:=⟨[],0,0,0,0,0⟩

structure L where
 b : Int
 dp : Int
 nd : Int
 tx : Int
def L.av (l : L) : AV:=.agg [.int .i64 l.b,.int .i64 l.dp,.int .i64 l.nd,.int .i64 l.tx]

def C.sound (c : C) : Bool:=decide (0 ≤ c.a) && decide (c.a ≤ c.e) && decide (c.e ≤ (c.d.length : Int))
def C.rest (c : C) : List UInt8:=bif c.sound then (c.d.drop c.a.toNat).take (c.e.toNat - c.a.toNat) else []
def C.left (c : C) : Int:=(c.rest.length : Int)
def C.ahead (c : C) (n : Int) : C:={ c with a:=IntKind.i64.wrap (c.a + n) }

def opn (s : List UInt8) (l : L) : C × Nat :=
 if l.b < 0 ∨ l.dp < 0 ∨ l.nd < 0 ∨ l.tx < 0 then (zc,1) else if l.b < (s.length : Int) then (zc,3) else (⟨s,0,s.length,l.dp,l.nd,l.tx⟩,0)

def C.varint (c : C) : Nat × C × Nat :=
 let r:=Vp.take c.rest
 if r.2.2 = 0 then (r.1,c.ahead r.2.1,0) else (0,c,r.2.2)

end Go.Proofs.YtelhohgmmhbahaaGreatDoor.Cp

namespace Go.Proofs.YtelhohgmmhbahaaGreatDoor.Up
open Go Am Bt Vp Cp

structure R where
 num : Int
 wire : Int
 bits : Nat
 data : List UInt8
 deriving DecidableEq

def R.av (f : R) : AV:=.agg [.int .i64 f.num,.int .i64 f.wire,.int .u64 (f.bits : Nat),.str f.data]
def dat (c : C) (wire : Int) : List UInt8 × C × Nat :=
 let r:=c.varint
 if r.2.2 = 0 then
  if r.2.1.left < (r.1 : Int) then ([],c,4)
  else if (if wire = 3 then c.tx else 65536) < (r.1 : Int) then ([],c,3)
  else ((r.2.1.d.drop r.2.1.a.toNat).take r.1,r.2.1.ahead r.1,0)
 else ([],c,r.2.2)
end Go.Proofs.YtelhohgmmhbahaaGreatDoor.Up

namespace Go.Proofs.YtelhohgmmhbahaaGreatDoor.Br
open Go Am Up

theorem has_raw {M k : Nat} {cs : List AV} (h : Has Tryz.prog M k 74 cs) : ∃ f : R,((Lit.int .i64 f.num).wf = true ∧ (Lit.int .i64 f.wire).wf = true ∧ (Lit.int .u64 (f.bits : Int)).wf = true ∧ f.data.length ≤ M) ∧ .agg cs = f.av:=by
 obtain ⟨k,h⟩:=has_struct Tryz.underlying74 h
 simp only [Has.HasL] at h
 obtain ⟨_,_,rfl,h0,_,_,rfl,h1,_,_,rfl,h2,_,_,rfl,h3,rfl⟩:=h
 obtain ⟨a0,rfl,w0⟩:=has_int Tryz.underlying3 h0
 obtain ⟨a1,rfl,w1⟩:=has_int Tryz.underlying3 h1
 obtain ⟨a2,rfl,w2⟩:=has_int Tryz.underlying26 h2
 obtain ⟨a3,rfl,w3⟩:=has_str Tryz.underlying9 h3
 have hn : 0 ≤ a2:=u64_lo w2
 obtain ⟨n,rfl⟩:=Int.eq_ofNat_of_zero_le hn
 exact ⟨⟨a0,a1,n,a3⟩,⟨w0,w1,w2,w3⟩,rfl⟩

end Go.Proofs.YtelhohgmmhbahaaGreatDoor.Br

set_option linter.unusedSimpArgs false
namespace Go.Proofs.YtelhohgmmhbahaaGreatDoor.Br
open Go Am Up

inductive V where
 | mk (k : Int) (b : Nat) (t : List UInt8) (l : List V) (p : List (V × V)) (s : List (Int × V)) (r : List R)
 deriving Inhabited

mutual
def V.cells : V → List AV
 | .mk k b t l p s r => [.int .i64 k,.int .u64 (b : Nat),.str t,.list (V.cl l),.list (V.cp p),.list (V.cs s),.list (r.map R.av)]
def V.cl : List V → List AV
 | [] => []
 | x :: l => .agg x.cells :: V.cl l
def V.cp : List (V × V) → List AV
 | [] => []
 | (a,b) :: l => .agg (a.cells ++ b.cells) :: V.cp l
def V.cs : List (Int × V) → List AV
 | [] => []
 | (n,a) :: l => .agg (.int .i64 n :: a.cells) :: V.cs l
end

def V.kd : V → Int | .mk k _ _ _ _ _ _ => k
def V.bits : V → Nat | .mk _ b _ _ _ _ _ => b
def V.text : V → List UInt8 | .mk _ _ t _ _ _ _ => t
def V.list : V → List V | .mk _ _ _ l _ _ _ => l
def V.pairs : V → List (V × V) | .mk _ _ _ _ p _ _ => p
def V.slots : V → List (Int × V) | .mk _ _ _ _ _ s _ => s
def V.raws : V → List R | .mk _ _ _ _ _ _ r => r

def V.av (v : V) : AV:=.agg v.cells
def V.pav (p : V × V) : AV:=.agg (p.1.cells ++ p.2.cells)
def V.sav (s : Int × V) : AV:=.agg (.int .i64 s.1 :: s.2.cells)

theorem V.cl_eq : ∀ l : List V,V.cl l = l.map V.av
 | [] => rfl
 | x :: l => by rw [V.cl,V.cl_eq l]; rfl
theorem V.cp_eq : ∀ l : List (V × V),V.cp l = l.map V.pav
 | [] => rfl
 | (a,b) :: l => by rw [V.cp,V.cp_eq l]; rfl
theorem V.cs_eq : ∀ l : List (Int × V),V.cs l = l.map V.sav
 | [] => rfl
 | (n,a) :: l => by rw [V.cs,V.cs_eq l]; rfl

theorem V.eta : ∀ v : V,v.cells = [.int .i64 v.kd,.int .u64 (v.bits : Nat),.str v.text,.list (v.list.map V.av),.list (v.pairs.map V.pav),.list (v.slots.map V.sav),.list (v.raws.map R.av)]
 | .mk k b t l p s r => by rw [V.cells,V.cl_eq,V.cp_eq,V.cs_eq]; rfl

theorem V.ind {P : V → Prop} (h : ∀ v : V,(∀ x ∈ v.list,P x) → (∀ x ∈ v.pairs,P x.1 ∧ P x.2) → (∀ x ∈ v.slots,P x.2) → P v) (v : V) : P v :=
 V.rec (motive_1:=P) (motive_2:=fun l => ∀ x ∈ l,P x) (motive_3:=fun p => ∀ x ∈ p,P x.1 ∧ P x.2) (motive_4:=fun s => ∀ x ∈ s,P x.2) (motive_5:=fun q => P q.1 ∧ P q.2) (motive_6:=fun q => P q.2)
  (fun k b t l p s r hl hp hs => h (.mk k b t l p s r) hl hp hs)
  (by simp) (fun a l ha hl => by simpa using ⟨ha,hl⟩)
  (by simp) (fun a l ha hl => by simp only [List.mem_cons,forall_eq_or_imp]; exact ⟨ha,hl⟩)
  (by simp) (fun a l ha hl => by simp only [List.mem_cons,forall_eq_or_imp]; exact ⟨ha,hl⟩)
  (fun a b ha hb => ⟨ha,hb⟩) (fun n a ha => ha) v

structure _root_.Go.Proofs.YtelhohgmmhbahaaGreatDoor.Up.R.ok (M : Nat) (f : R) : Prop where
 num : (Lit.int .i64 f.num).wf = true
 wire : (Lit.int .i64 f.wire).wf = true
 bits : (Lit.int .u64 (f.bits : Int)).wf = true
 data : f.data.length ≤ M

inductive V.ok (M : Nat) : V → Prop
 | mk {v : V} (kd : (Lit.int .i64 v.kd).wf = true) (bits : (Lit.int .u64 (v.bits : Int)).wf = true) (text : v.text.length ≤ M) (nl : v.list.length ≤ 1099511627776) (np : v.pairs.length ≤ 549755813888) (ns : v.slots.length ≤ 1099511627776) (nr : v.raws.length ≤ 70368744177664)
   (list : ∀ x ∈ v.list,V.ok M x) (keys : ∀ x ∈ v.pairs,V.ok M x.1) (vals : ∀ x ∈ v.pairs,V.ok M x.2) (nums : ∀ x ∈ v.slots,(Lit.int .i64 x.1).wf = true) (slots : ∀ x ∈ v.slots,V.ok M x.2) (raws : ∀ x ∈ v.raws,x.ok M) : V.ok M v

section
variable {M : Nat} {v : V} (h : v.ok M)
include h
theorem V.ok.kd : (Lit.int .i64 v.kd).wf = true:=by cases h; assumption
theorem V.ok.bits : (Lit.int .u64 (v.bits : Int)).wf = true:=by cases h; assumption
theorem V.ok.text : v.text.length ≤ M:=by cases h; assumption
theorem V.ok.nl : v.list.length ≤ 1099511627776:=by cases h; assumption
theorem V.ok.np : v.pairs.length ≤ 549755813888:=by cases h; assumption
theorem V.ok.ns : v.slots.length ≤ 1099511627776:=by cases h; assumption
theorem V.ok.nr : v.raws.length ≤ 70368744177664:=by cases h; assumption
theorem V.ok.list : ∀ x ∈ v.list,x.ok M:=by cases h; assumption
theorem V.ok.keys : ∀ x ∈ v.pairs,x.1.ok M:=by cases h; assumption
theorem V.ok.vals : ∀ x ∈ v.pairs,x.2.ok M:=by cases h; assumption
theorem V.ok.nums : ∀ x ∈ v.slots,(Lit.int .i64 x.1).wf = true:=by cases h; assumption
theorem V.ok.slots : ∀ x ∈ v.slots,x.2.ok M:=by cases h; assumption
theorem V.ok.raws : ∀ x ∈ v.raws,x.ok M:=by cases h; assumption
end

theorem V.cells_length (v : V) : v.cells.length = 7:=by rw [V.eta]; rfl

theorem elemV_2 {c : List AV} (h : 2 ≤ c.length) : elemV c = .agg c:=by
 match c,h with
 | _ :: _ :: _,_ => rfl

theorem has_v {M : Nat} (hM : M = reachBytes ∨ M ≤ 1048576) : ∀ {k : Nat} {cs : List AV},Has Tryz.prog M k 32 cs → ∃ v : V,v.ok M ∧ cs = v.cells:=by
 intro k
 induction k using Nat.strongRecOn with
 | ind k ih =>
 intro cs h
 cases k with
 | zero => cases h
 | succ k =>
 simp only [Has,Tryz.underlying32,Has.HasL] at h
 obtain ⟨_,_,rfl,h0,_,_,rfl,h1,_,_,rfl,h2,_,_,rfl,h3,_,_,rfl,h4,_,_,rfl,h5,_,_,rfl,h6,rfl⟩:=h
 obtain ⟨a0,rfl,w0⟩:=has_int Tryz.underlying3 h0
 obtain ⟨a1,rfl,w1⟩:=has_int Tryz.underlying26 h1
 obtain ⟨a2,rfl,w2⟩:=has_str Tryz.underlying9 h2
 have hb : 0 ≤ a1:=u64_lo w1
 obtain ⟨b,rfl⟩:=Int.eq_ofNat_of_zero_le hb
 have sl : ∀ {k0 : Nat} {t e : TypeId} {cs : List AV},k0 ≤ k → Tryz.prog.underlying t = some (.slice e) → Has Tryz.prog M k0 t cs → ∃ (k' : Nat) (l : List (List AV)),k' < k ∧ cs = [.list (l.map elemV)] ∧ (l.length ≤ M ∧ (M = reachBytes → l.length * Tryz.prog.bytesOf e ≤ M)) ∧ ∀ c ∈ l,Has Tryz.prog M k' e c:=by
  intro k0 t e cs hk hu h
  cases k0 with
  | zero => cases h
  | succ k0 =>
   simp only [Has,hu] at h
   obtain ⟨l,h1,h4,h3,h2⟩:=h
   exact ⟨k0,l,by omega,h1,⟨h2,h4.2⟩,h3⟩
 have nb : ∀ {n b : Nat} (c : Nat),(n ≤ M ∧ (M = reachBytes → n * b ≤ M)) → 1048576 ≤ c → (n * b ≤ 140737488351232 → n ≤ c) → n ≤ c:=fun c h1 h2 h3 => by
  rcases hM with e | e
  ·refine h3 (Nat.le_trans (h1.2 e) ?_)
   rw [e]
   exact Nat.le_refl _
  ·exact Nat.le_trans h1.1 (Nat.le_trans e h2)
 have y1 : Tryz.prog.bytesOf 32 = 128:=by decide +kernel
 have y2 : Tryz.prog.bytesOf 85 = 256:=by decide +kernel
 have y3 : Tryz.prog.bytesOf 77 = 136:=by decide +kernel
 have y4 : Tryz.prog.bytesOf 74 = 40:=by decide +kernel
 obtain ⟨k3,l3,b3,rfl,w3,hl3⟩:=sl (Nat.le_refl _) Tryz.underlying27 h3
 obtain ⟨k4,l4,b4,rfl,w4,hl4⟩:=sl (Nat.le_refl _) Tryz.underlying28 h4
 obtain ⟨k5,l5,b5,rfl,w5,hl5⟩:=sl (Nat.le_refl _) Tryz.underlying29 h5
 obtain ⟨k6,l6,b6,rfl,w6,hl6⟩:=sl (Nat.le_refl _) Tryz.underlying30 h6
 obtain ⟨vs,rfl,hvs⟩:=list_of (f:=V.cells) (ok:=V.ok M) fun c hc => ih k3 (by omega) (hl3 c hc)
 obtain ⟨ps,rfl,hps⟩:=list_of (l:=l4) (f:=fun p : V × V => p.1.cells ++ p.2.cells) (ok:=fun p => p.1.ok M ∧ p.2.ok M) fun c hc => by
  have h:=hl4 c hc
  cases k4 with
  | zero => cases h
  | succ k4 =>
  simp only [Has,Tryz.underlying85,Has.HasL] at h
  obtain ⟨a,_,rfl,h0,b,_,rfl,h1,rfl⟩:=h
  obtain ⟨x,hx,rfl⟩:=ih k4 (by omega) h0
  obtain ⟨y,hy,rfl⟩:=ih k4 (by omega) h1
  exact ⟨(x,y),⟨hx,hy⟩,by simp⟩
 obtain ⟨ss,rfl,hss⟩:=list_of (l:=l5) (f:=fun s : Int × V => .int .i64 s.1 :: s.2.cells) (ok:=fun s => (Lit.int .i64 s.1).wf = true ∧ s.2.ok M) fun c hc => by
  have h:=hl5 c hc
  cases k5 with
  | zero => cases h
  | succ k5 =>
  simp only [Has,Tryz.underlying77,Has.HasL] at h
  obtain ⟨_,_,rfl,h0,b,_,rfl,h1,rfl⟩:=h
  obtain ⟨a0,rfl,w0⟩:=has_int Tryz.underlying3 h0
  obtain ⟨y,hy,rfl⟩:=ih k5 (by omega) h1
  exact ⟨(a0,y),⟨w0,hy⟩,by simp⟩
 obtain ⟨rs,rfl,hrs⟩:=list_of (l:=l6) (f:=fun r : R => r.av.cells) (ok:=R.ok M) fun c hc => by
  obtain ⟨f,⟨g1,g2,g3,g4⟩,e⟩:=has_raw (hl6 c hc)
  refine ⟨f,⟨g1,g2,g3,g4⟩,?_⟩
  rw [← e]
  rfl
 refine ⟨.mk a0 b a2 vs ps ss rs,.mk w0 w1 w2 (by rw [List.length_map,y1] at w3; exact nb _ w3 (by decide) (by omega)) (by rw [List.length_map,y2] at w4; exact nb _ w4 (by decide) (by omega)) (by rw [List.length_map,y3] at w5; exact nb _ w5 (by decide) (by omega)) (by rw [List.length_map,y4] at w6; exact nb _ w6 (by decide) (by omega)) hvs (fun x hx => (hps x hx).1) (fun x hx => (hps x hx).2) (fun x hx => (hss x hx).1) (fun x hx => (hss x hx).2) hrs,?_⟩
 rw [V.eta]
 have e3 : (vs.map V.cells).map elemV = vs.map V.av:=by
  rw [List.map_map]
  exact List.map_congr_left fun c _ => elemV_2 (by rw [V.cells_length]; omega)
 have e4 : (ps.map (fun p => p.1.cells ++ p.2.cells)).map elemV = ps.map V.pav:=by
  rw [List.map_map]
  exact List.map_congr_left fun p _ => elemV_2 (by rw [List.length_append,V.cells_length]; omega)
 have e5 : (ss.map (fun s => AV.int .i64 s.1 :: s.2.cells)).map elemV = ss.map V.sav:=by
  rw [List.map_map]
  exact List.map_congr_left fun p _ => elemV_2 (by rw [List.length_cons,V.cells_length]; omega)
 have e6 : (rs.map (fun r => r.av.cells)).map elemV = rs.map R.av:=by
  rw [List.map_map]
  exact List.map_congr_left fun r _ => rfl
 rw [e3,e4,e5,e6]
 rfl

end Go.Proofs.YtelhohgmmhbahaaGreatDoor.Br

set_option linter.unusedSimpArgs false
namespace Go.Proofs.YtelhohgmmhbahaaGreatDoor.Va
open Go Am Rc Bt Br

def oth (k : Int) (b : Nat) (t : List UInt8) (l p s r : List AV) : Bool :=
 (k != 11 && decide ((l.length : Int) > 0)) || (k != 12 && decide ((p.length : Int) > 0)) || (k != 10 && decide (((s.length + r.length : Nat) : Int) > 0)) || ((b : Int) != 0 && (txk k || k == 10 || k == 11 || k == 12)) || (!(t == []) && !txk k)

section
variable (k : Int) (b : Nat) (t : List UInt8) (l p s r : List AV) (hs : s.length ≤ 140737488351232) (hr : r.length ≤ 140737488351232)

set_option maxHeartbeats 2000000 in
include hs hr in
theorem z49 : Fn1 Tryz.prog 49 [vo k b t l p s r] (.bool (oth k b t l p s r)):=by
 have w : IntKind.i64.wrap ((s.length : Int) + (r.length : Int)) = ((s.length + r.length : Nat) : Int):=by simp only [wi64]; omega
 have n4 : ((b : Int) != 0) = !((b : Int) == 0):=rfl
 have n5 : (t != []) = !(t == []):=rfl
 refine fn1_of_awp (rc:=r49) (rs:=o49) Tryz.func49 rfl rfl Tryz.ntmps49 k49 q49 (by simp) ?_
 simp only [g49_0,g49_1,g49_2,r49,o49,vo,oth,txk,n4,eES,eEX,Nat.reduceBEq,↓reduceIte,Nat.reduceAdd]
 rcases (by omega : k = 7 ∨ k = 8 ∨ k = 10 ∨ k = 11 ∨ k = 12 ∨ (k ≠ 7 ∧ k ≠ 8 ∧ k ≠ 10 ∧ k ≠ 11 ∧ k ≠ 12)) with rfl | rfl | rfl | rfl | rfl | ⟨h7,h8,h10,h11,h12⟩
 ·have b7 : ((7 : Int) == 7) = true:=by decide
  have b8 : ((7 : Int) == 8) = false:=by decide
  have b10 : ((7 : Int) == 10) = false:=by decide
  have b11 : ((7 : Int) == 11) = false:=by decide
  have b12 : ((7 : Int) == 12) = false:=by decide
  have c10 : ((7 : Int) != 10) = true:=by decide
  have c11 : ((7 : Int) != 11) = true:=by decide
  have c12 : ((7 : Int) != 12) = true:=by decide
  have g1 : decide ((7 : Int) ≥ 10) = false:=by decide
  have g2 : decide ((7 : Int) ≤ 12) = true:=by decide
  simp only [b7,b8,b10,b11,b12,c10,c11,c12,Bool.true_and,Bool.or_false,Bool.and_false,Bool.and_true,Bool.not_true,eES,eEX,Nat.reduceBEq,↓reduceIte,Nat.reduceAdd]
  cases a1 : decide ((l.length : Int) > 0) <;> try simp only [c12,Bool.false_or,Bool.true_or,eES,eEX,Nat.reduceBEq,↓reduceIte,Nat.reduceAdd]
  all_goals (cases a2 : decide ((p.length : Int) > 0) <;> try simp only [c10,Bool.false_or,Bool.true_or,w,eES,eEX,Nat.reduceBEq,↓reduceIte,Nat.reduceAdd])
  all_goals (cases a3 : decide (((s.length + r.length : Nat) : Int) > 0) <;> try simp only [Bool.false_or,Bool.true_or,eES,eEX,Nat.reduceBEq,↓reduceIte,Nat.reduceAdd])
  all_goals (cases a4 : ((b : Int) == 0) <;> try simp only [a4,n4,Bool.not_false,Bool.not_true,astr,eES,eEX,Nat.reduceBEq,Nat.reduceAdd])
  all_goals (cases a5 : (t == []) <;> try simp only [Bool.not_false,Bool.not_true,eES,Nat.reduceBEq])

 ·have b7 : ((8 : Int) == 7) = false:=by decide
  have b8 : ((8 : Int) == 8) = true:=by decide
  have b10 : ((8 : Int) == 10) = false:=by decide
  have b11 : ((8 : Int) == 11) = false:=by decide
  have b12 : ((8 : Int) == 12) = false:=by decide
  have c10 : ((8 : Int) != 10) = true:=by decide
  have c11 : ((8 : Int) != 11) = true:=by decide
  have c12 : ((8 : Int) != 12) = true:=by decide
  have g1 : decide ((8 : Int) ≥ 10) = false:=by decide
  have g2 : decide ((8 : Int) ≤ 12) = true:=by decide
  simp only [b7,b8,b10,b11,b12,c10,c11,c12,Bool.true_and,Bool.or_false,Bool.or_true,Bool.and_false,Bool.and_true,Bool.not_true,eES,eEX,Nat.reduceBEq,↓reduceIte,Nat.reduceAdd]
  cases a1 : decide ((l.length : Int) > 0) <;> try simp only [c12,Bool.false_or,Bool.true_or,eES,eEX,Nat.reduceBEq,↓reduceIte,Nat.reduceAdd]
  all_goals (cases a2 : decide ((p.length : Int) > 0) <;> try simp only [c10,Bool.false_or,Bool.true_or,w,eES,eEX,Nat.reduceBEq,↓reduceIte,Nat.reduceAdd])
  all_goals (cases a3 : decide (((s.length + r.length : Nat) : Int) > 0) <;> try simp only [Bool.false_or,Bool.true_or,eES,eEX,Nat.reduceBEq,↓reduceIte,Nat.reduceAdd])
  all_goals (cases a4 : ((b : Int) == 0) <;> try simp only [a4,n4,Bool.not_false,Bool.not_true,astr,eES,eEX,Nat.reduceBEq,Nat.reduceAdd])
  all_goals (cases a5 : (t == []) <;> try simp only [Bool.not_false,Bool.not_true,eES,Nat.reduceBEq])

 ·have b7 : ((10 : Int) == 7) = false:=by decide
  have b8 : ((10 : Int) == 8) = false:=by decide
  have b10 : ((10 : Int) == 10) = true:=by decide
  have b11 : ((10 : Int) == 11) = false:=by decide
  have b12 : ((10 : Int) == 12) = false:=by decide
  have c10 : ((10 : Int) != 10) = false:=by decide
  have c11 : ((10 : Int) != 11) = true:=by decide
  have c12 : ((10 : Int) != 12) = true:=by decide
  have g1 : decide ((10 : Int) ≥ 10) = true:=by decide
  have g2 : decide ((10 : Int) ≤ 12) = true:=by decide
  simp only [b7,b8,b10,b11,b12,c10,c11,c12,Bool.true_and,Bool.false_and,Bool.or_false,Bool.or_true,Bool.and_true,Bool.not_false,eES,eEX,Nat.reduceBEq,↓reduceIte,Nat.reduceAdd]
  cases a1 : decide ((l.length : Int) > 0) <;> try simp only [c12,Bool.false_or,Bool.true_or,eES,eEX,Nat.reduceBEq,↓reduceIte,Nat.reduceAdd]
  all_goals (cases a2 : decide ((p.length : Int) > 0) <;> try simp only [c10,Bool.false_or,Bool.true_or,eES,eEX,Nat.reduceBEq,↓reduceIte,Nat.reduceAdd])
  all_goals (cases a3 : decide (((s.length + r.length : Nat) : Int) > 0) <;> try simp only [a3,g1,g2,b7,b8,b10,b11,b12,c10,c11,c12,Bool.true_and,Bool.false_and,Bool.or_false,Bool.or_true,Bool.false_or,Bool.true_or,Bool.and_false,Bool.and_true,Bool.not_false,Bool.not_true,w,astr,eES,eEX,Nat.reduceBEq,Int.reduceLE,Int.reduceLT,Int.reduceToNat,Int.reduceEq,↓reduceIte,reduceCtorEq,Nat.reducePow,Nat.reduceAdd,Nat.reduceLeDiff,Nat.reduceLT,Nat.reduceSub,Nat.reduceEqDiff])
  all_goals (cases a4 : ((b : Int) == 0) <;> try simp only [a4,n4,Bool.false_or,Bool.true_or,Bool.not_false,Bool.not_true,astr,eES,eEX,Nat.reduceBEq,Int.reduceLE,↓reduceIte,Nat.reduceAdd])
  all_goals (cases a5 : (t == []) <;> try simp only [Bool.not_false,Bool.not_true,eES,Nat.reduceBEq])

 ·have b7 : ((11 : Int) == 7) = false:=by decide
  have b8 : ((11 : Int) == 8) = false:=by decide
  have b10 : ((11 : Int) == 10) = false:=by decide
  have b11 : ((11 : Int) == 11) = true:=by decide
  have b12 : ((11 : Int) == 12) = false:=by decide
  have c10 : ((11 : Int) != 10) = true:=by decide
  have c11 : ((11 : Int) != 11) = false:=by decide
  have c12 : ((11 : Int) != 12) = true:=by decide
  have g1 : decide ((11 : Int) ≥ 10) = true:=by decide
  have g2 : decide ((11 : Int) ≤ 12) = true:=by decide
  simp only [b7,b8,b10,b11,b12,c10,c11,c12,Bool.true_and,Bool.false_and,Bool.or_false,Bool.or_true,Bool.false_or,Bool.and_true,Bool.not_false,eES,eEX,Nat.reduceBEq,↓reduceIte,Nat.reduceAdd]
  cases a1 : decide ((l.length : Int) > 0) <;> try simp only [a1,g1,g2,b7,b8,b10,b11,b12,c10,c11,c12,Bool.true_and,Bool.false_and,Bool.or_false,Bool.or_true,Bool.false_or,Bool.true_or,Bool.and_false,Bool.and_true,Bool.not_false,Bool.not_true,w,astr,eES,eEX,Nat.reduceBEq,Int.reduceLE,Int.reduceLT,Int.reduceToNat,Int.reduceEq,↓reduceIte,reduceCtorEq,Nat.reducePow,Nat.reduceAdd,Nat.reduceLeDiff,Nat.reduceLT,Nat.reduceSub,Nat.reduceEqDiff]
  all_goals (cases a2 : decide ((p.length : Int) > 0) <;> try simp only [c10,Bool.false_or,Bool.true_or,w,eES,eEX,Nat.reduceBEq,↓reduceIte,Nat.reduceAdd])
  all_goals (cases a3 : decide (((s.length + r.length : Nat) : Int) > 0) <;> try simp only [Bool.false_or,Bool.true_or,eES,eEX,Nat.reduceBEq,↓reduceIte,Nat.reduceAdd])
  all_goals (cases a4 : ((b : Int) == 0) <;> try simp only [a4,n4,Bool.false_or,Bool.true_or,Bool.not_false,Bool.not_true,astr,eES,eEX,Nat.reduceBEq,Int.reduceLE,↓reduceIte,Nat.reduceAdd])
  all_goals (cases a5 : (t == []) <;> try simp only [Bool.not_false,Bool.not_true,eES,Nat.reduceBEq])

 ·have b7 : ((12 : Int) == 7) = false:=by decide
  have b8 : ((12 : Int) == 8) = false:=by decide
  have b10 : ((12 : Int) == 10) = false:=by decide
  have b11 : ((12 : Int) == 11) = false:=by decide
  have b12 : ((12 : Int) == 12) = true:=by decide
  have c10 : ((12 : Int) != 10) = true:=by decide
  have c11 : ((12 : Int) != 11) = true:=by decide
  have c12 : ((12 : Int) != 12) = false:=by decide
  have g1 : decide ((12 : Int) ≥ 10) = true:=by decide
  have g2 : decide ((12 : Int) ≤ 12) = true:=by decide
  simp only [b7,b8,b10,b11,b12,c10,c11,c12,Bool.true_and,Bool.false_and,Bool.or_false,Bool.or_true,Bool.and_true,Bool.not_false,eES,eEX,Nat.reduceBEq,↓reduceIte,Nat.reduceAdd]
  cases a1 : decide ((l.length : Int) > 0) <;> try simp only [c10,c12,Bool.false_or,Bool.true_or,w,eES,eEX,Nat.reduceBEq,↓reduceIte,Nat.reduceAdd]
  all_goals (cases a2 : decide ((p.length : Int) > 0) <;> try simp only [a2,g1,g2,b7,b8,b10,b11,b12,c10,c11,c12,Bool.true_and,Bool.false_and,Bool.or_false,Bool.or_true,Bool.false_or,Bool.true_or,Bool.and_false,Bool.and_true,Bool.not_false,Bool.not_true,w,astr,eES,eEX,Nat.reduceBEq,Int.reduceLE,Int.reduceLT,Int.reduceToNat,Int.reduceEq,↓reduceIte,reduceCtorEq,Nat.reducePow,Nat.reduceAdd,Nat.reduceLeDiff,Nat.reduceLT,Nat.reduceSub,Nat.reduceEqDiff])
  all_goals (cases a3 : decide (((s.length + r.length : Nat) : Int) > 0) <;> try simp only [Bool.false_or,Bool.true_or,eES,eEX,Nat.reduceBEq,↓reduceIte,Nat.reduceAdd])
  all_goals (cases a4 : ((b : Int) == 0) <;> try simp only [a4,n4,Bool.false_or,Bool.true_or,Bool.not_false,Bool.not_true,astr,eES,eEX,Nat.reduceBEq,Int.reduceLE,↓reduceIte,Nat.reduceAdd])
  all_goals (cases a5 : (t == []) <;> try simp only [Bool.not_false,Bool.not_true,eES,Nat.reduceBEq])
 ·have b7 : (k == 7) = false:=by simp [h7]
  have b8 : (k == 8) = false:=by simp [h8]
  have b10 : (k == 10) = false:=by simp [h10]
  have b11 : (k == 11) = false:=by simp [h11]
  have b12 : (k == 12) = false:=by simp [h12]
  have c10 : (k != 10) = true:=by simp [h10]
  have c11 : (k != 11) = true:=by simp [h11]
  have c12 : (k != 12) = true:=by simp [h12]
  rcases (by omega : (k ≥ 10 ∧ ¬ k ≤ 12) ∨ ¬ k ≥ 10) with ⟨q1,q2⟩ | q1
  ·have g1 : decide (k ≥ 10) = true:=decide_eq_true q1
   have g2 : decide (k ≤ 12) = false:=decide_eq_false q2
   simp only [b7,b8,b10,b11,b12,c10,c11,c12,Bool.true_and,Bool.or_false,Bool.and_false,Bool.and_true,Bool.not_false,eES,eEX,Nat.reduceBEq,↓reduceIte,Nat.reduceAdd]
   cases a1 : decide ((l.length : Int) > 0) <;> try simp only [c12,Bool.false_or,Bool.true_or,eES,eEX,Nat.reduceBEq,↓reduceIte,Nat.reduceAdd]
   all_goals (cases a2 : decide ((p.length : Int) > 0) <;> try simp only [c10,Bool.false_or,Bool.true_or,w,eES,eEX,Nat.reduceBEq,↓reduceIte,Nat.reduceAdd])
   all_goals (cases a3 : decide (((s.length + r.length : Nat) : Int) > 0) <;> try simp only [Bool.false_or,Bool.true_or,eES,eEX,Nat.reduceBEq,↓reduceIte,Nat.reduceAdd])
   all_goals (cases a4 : ((b : Int) == 0) <;> try simp only [a4,n4,g1,g2,Bool.not_false,Bool.not_true,astr,eES,eEX,Nat.reduceBEq,↓reduceIte,Nat.reduceAdd])
   all_goals (cases a5 : (t == []) <;> try simp only [Bool.not_false,Bool.not_true,eES,Nat.reduceBEq])
  ·have g1 : decide (k ≥ 10) = false:=decide_eq_false q1
   simp only [b7,b8,b10,b11,b12,c10,c11,c12,Bool.true_and,Bool.or_false,Bool.and_false,Bool.and_true,Bool.not_false,eES,eEX,Nat.reduceBEq,↓reduceIte,Nat.reduceAdd]
   cases a1 : decide ((l.length : Int) > 0) <;> try simp only [c12,Bool.false_or,Bool.true_or,eES,eEX,Nat.reduceBEq,↓reduceIte,Nat.reduceAdd]
   all_goals (cases a2 : decide ((p.length : Int) > 0) <;> try simp only [c10,Bool.false_or,Bool.true_or,w,eES,eEX,Nat.reduceBEq,↓reduceIte,Nat.reduceAdd])
   all_goals (cases a3 : decide (((s.length + r.length : Nat) : Int) > 0) <;> try simp only [Bool.false_or,Bool.true_or,eES,eEX,Nat.reduceBEq,↓reduceIte,Nat.reduceAdd])
   all_goals (cases a4 : ((b : Int) == 0) <;> try simp only [a4,n4,g1,Bool.not_false,Bool.not_true,astr,eES,eEX,Nat.reduceBEq,↓reduceIte,Nat.reduceAdd])
   all_goals (cases a5 : (t == []) <;> try simp only [Bool.not_false,Bool.not_true,eES,Nat.reduceBEq])

end
end Go.Proofs.YtelhohgmmhbahaaGreatDoor.Va

set_option linter.unusedSimpArgs false
namespace Go.Proofs.YtelhohgmmhbahaaGreatDoor.Va
open Go Am Rc Bt Br

section
variable (k : Int) (b : Nat) (t : List UInt8) (l p s r : List AV) (hs : s.length ≤ 140737488351232) (hr : r.length ≤ 140737488351232)

set_option maxHeartbeats 2000000 in
include hs hr in
theorem z55 : Fn1 Tryz.prog 55 [vo k b t l p s r] (.bool (oth k b t l p s r)):=by
 have w : IntKind.i64.wrap ((s.length : Int) + (r.length : Int)) = ((s.length + r.length : Nat) : Int):=by simp only [wi64]; omega
 have n4 : ((b : Int) != 0) = !((b : Int) == 0):=rfl
 have n5 : (t != []) = !(t == []):=rfl
 refine fn1_of_awp (rc:=r55) (rs:=o55) Tryz.func55 rfl rfl Tryz.ntmps55 k55 q55 (by simp) ?_
 simp only [g55_0,g55_1,g55_2,g55_3,g55_4,g55_5,r55,o55,vo,oth,txk,n4,eES,eEX,Nat.reduceBEq,↓reduceIte,Nat.reduceAdd]
 rcases (by omega : k = 7 ∨ k = 8 ∨ k = 10 ∨ k = 11 ∨ k = 12 ∨ (k ≠ 7 ∧ k ≠ 8 ∧ k ≠ 10 ∧ k ≠ 11 ∧ k ≠ 12)) with rfl | rfl | rfl | rfl | rfl | ⟨h7,h8,h10,h11,h12⟩
 ·have b7 : ((7 : Int) == 7) = true:=by decide
  have b8 : ((7 : Int) == 8) = false:=by decide
  have b10 : ((7 : Int) == 10) = false:=by decide
  have b11 : ((7 : Int) == 11) = false:=by decide
  have b12 : ((7 : Int) == 12) = false:=by decide
  have c10 : ((7 : Int) != 10) = true:=by decide
  have c11 : ((7 : Int) != 11) = true:=by decide
  have c12 : ((7 : Int) != 12) = true:=by decide
  have g1 : decide ((7 : Int) ≥ 10) = false:=by decide
  have g2 : decide ((7 : Int) ≤ 12) = true:=by decide
  simp only [b7,b8,b10,b11,b12,c10,c11,c12,Bool.true_and,Bool.or_false,Bool.and_false,Bool.and_true,Bool.not_true,eES,eEX,Nat.reduceBEq,↓reduceIte,Nat.reduceAdd]
  cases a1 : decide ((l.length : Int) > 0) <;> try simp only [c11,Bool.false_or,Bool.true_or,eES,eEX,Nat.reduceBEq,↓reduceIte,Nat.reduceAdd]
  all_goals (cases a2 : decide ((p.length : Int) > 0) <;> try simp only [c12,Bool.false_or,Bool.true_or,w,eES,eEX,Nat.reduceBEq,↓reduceIte,Nat.reduceAdd])
  all_goals (cases a3 : decide (((s.length + r.length : Nat) : Int) > 0) <;> try simp only [Bool.false_or,Bool.true_or,Bool.not_false,eES,eEX,Nat.reduceBEq,↓reduceIte,Nat.reduceAdd])
  all_goals (cases a4 : ((b : Int) == 0) <;> try simp only [a4,n4,Bool.not_false,Bool.not_true,astr,eES,eEX,Nat.reduceBEq,Nat.reduceAdd])
  all_goals (cases a5 : (t == []) <;> try simp only [Bool.not_false,Bool.not_true,eES,Nat.reduceBEq])

 ·have b7 : ((8 : Int) == 7) = false:=by decide
  have b8 : ((8 : Int) == 8) = true:=by decide
  have b10 : ((8 : Int) == 10) = false:=by decide
  have b11 : ((8 : Int) == 11) = false:=by decide
  have b12 : ((8 : Int) == 12) = false:=by decide
  have c10 : ((8 : Int) != 10) = true:=by decide
  have c11 : ((8 : Int) != 11) = true:=by decide
  have c12 : ((8 : Int) != 12) = true:=by decide
  have g1 : decide ((8 : Int) ≥ 10) = false:=by decide
  have g2 : decide ((8 : Int) ≤ 12) = true:=by decide
  simp only [b7,b8,b10,b11,b12,c10,c11,c12,Bool.true_and,Bool.or_false,Bool.or_true,Bool.and_false,Bool.and_true,Bool.not_true,eES,eEX,Nat.reduceBEq,↓reduceIte,Nat.reduceAdd]
  cases a1 : decide ((l.length : Int) > 0) <;> try simp only [c11,Bool.false_or,Bool.true_or,eES,eEX,Nat.reduceBEq,↓reduceIte,Nat.reduceAdd]
  all_goals (cases a2 : decide ((p.length : Int) > 0) <;> try simp only [c12,Bool.false_or,Bool.true_or,w,eES,eEX,Nat.reduceBEq,↓reduceIte,Nat.reduceAdd])
  all_goals (cases a3 : decide (((s.length + r.length : Nat) : Int) > 0) <;> try simp only [Bool.false_or,Bool.true_or,Bool.not_false,eES,eEX,Nat.reduceBEq,↓reduceIte,Nat.reduceAdd])
  all_goals (cases a4 : ((b : Int) == 0) <;> try simp only [a4,n4,Bool.not_false,Bool.not_true,astr,eES,eEX,Nat.reduceBEq,Nat.reduceAdd])
  all_goals (cases a5 : (t == []) <;> try simp only [Bool.not_false,Bool.not_true,eES,Nat.reduceBEq])

 ·have b7 : ((10 : Int) == 7) = false:=by decide
  have b8 : ((10 : Int) == 8) = false:=by decide
  have b10 : ((10 : Int) == 10) = true:=by decide
  have b11 : ((10 : Int) == 11) = false:=by decide
  have b12 : ((10 : Int) == 12) = false:=by decide
  have c10 : ((10 : Int) != 10) = false:=by decide
  have c11 : ((10 : Int) != 11) = true:=by decide
  have c12 : ((10 : Int) != 12) = true:=by decide
  have g1 : decide ((10 : Int) ≥ 10) = true:=by decide
  have g2 : decide ((10 : Int) ≤ 12) = true:=by decide
  simp only [b7,b8,b10,b11,b12,c10,c11,c12,Bool.true_and,Bool.false_and,Bool.or_false,Bool.or_true,Bool.and_true,Bool.not_false,eES,eEX,Nat.reduceBEq,↓reduceIte,Nat.reduceAdd]
  cases a1 : decide ((l.length : Int) > 0) <;> try simp only [c11,Bool.false_or,Bool.true_or,eES,eEX,Nat.reduceBEq,↓reduceIte,Nat.reduceAdd]
  all_goals (cases a2 : decide ((p.length : Int) > 0) <;> try simp only [c12,Bool.false_or,Bool.true_or,w,eES,eEX,Nat.reduceBEq,↓reduceIte,Nat.reduceAdd])
  all_goals (cases a3 : decide (((s.length + r.length : Nat) : Int) > 0) <;> try simp only [Bool.not_true,eES,eEX,Nat.reduceBEq,↓reduceIte,Nat.reduceAdd])
  all_goals (cases a4 : ((b : Int) == 0) <;> try simp only [a4,n4,b11,b12,Bool.false_or,Bool.true_or,Bool.not_false,Bool.not_true,astr,eES,eEX,Nat.reduceBEq,↓reduceIte,Nat.reduceAdd])
  all_goals (cases a5 : (t == []) <;> try simp only [Bool.not_false,Bool.not_true,eES,Nat.reduceBEq])

 ·have b7 : ((11 : Int) == 7) = false:=by decide
  have b8 : ((11 : Int) == 8) = false:=by decide
  have b10 : ((11 : Int) == 10) = false:=by decide
  have b11 : ((11 : Int) == 11) = true:=by decide
  have b12 : ((11 : Int) == 12) = false:=by decide
  have c10 : ((11 : Int) != 10) = true:=by decide
  have c11 : ((11 : Int) != 11) = false:=by decide
  have c12 : ((11 : Int) != 12) = true:=by decide
  have g1 : decide ((11 : Int) ≥ 10) = true:=by decide
  have g2 : decide ((11 : Int) ≤ 12) = true:=by decide
  simp only [b7,b8,b10,b11,b12,c10,c11,c12,Bool.true_and,Bool.false_and,Bool.or_false,Bool.or_true,Bool.false_or,Bool.and_true,Bool.not_false,eES,eEX,Nat.reduceBEq,↓reduceIte,Nat.reduceAdd]
  cases a1 : decide ((l.length : Int) > 0) <;> try simp only [c11,eES,eEX,Nat.reduceBEq,↓reduceIte,Nat.reduceAdd]
  all_goals (cases a2 : decide ((p.length : Int) > 0) <;> try simp only [c12,Bool.false_or,Bool.true_or,w,eES,eEX,Nat.reduceBEq,↓reduceIte,Nat.reduceAdd])
  all_goals (cases a3 : decide (((s.length + r.length : Nat) : Int) > 0) <;> try simp only [Bool.false_or,Bool.true_or,Bool.not_false,eES,eEX,Nat.reduceBEq,↓reduceIte,Nat.reduceAdd])
  all_goals (cases a4 : ((b : Int) == 0) <;> try simp only [a4,n4,b11,Bool.false_or,Bool.true_or,Bool.not_false,Bool.not_true,astr,eES,eEX,Nat.reduceBEq,↓reduceIte,Nat.reduceAdd])
  all_goals (cases a5 : (t == []) <;> try simp only [Bool.not_false,Bool.not_true,eES,Nat.reduceBEq])

 ·have b7 : ((12 : Int) == 7) = false:=by decide
  have b8 : ((12 : Int) == 8) = false:=by decide
  have b10 : ((12 : Int) == 10) = false:=by decide
  have b11 : ((12 : Int) == 11) = false:=by decide
  have b12 : ((12 : Int) == 12) = true:=by decide
  have c10 : ((12 : Int) != 10) = true:=by decide
  have c11 : ((12 : Int) != 11) = true:=by decide
  have c12 : ((12 : Int) != 12) = false:=by decide
  have g1 : decide ((12 : Int) ≥ 10) = true:=by decide
  have g2 : decide ((12 : Int) ≤ 12) = true:=by decide
  simp only [b7,b8,b10,b11,b12,c10,c11,c12,Bool.true_and,Bool.false_and,Bool.or_false,Bool.or_true,Bool.and_true,Bool.not_false,eES,eEX,Nat.reduceBEq,↓reduceIte,Nat.reduceAdd]
  cases a1 : decide ((l.length : Int) > 0) <;> try simp only [c11,Bool.false_or,Bool.true_or,eES,eEX,Nat.reduceBEq,↓reduceIte,Nat.reduceAdd]
  all_goals (cases a2 : decide ((p.length : Int) > 0) <;> try simp only [c12,w,eES,eEX,Nat.reduceBEq,↓reduceIte,Nat.reduceAdd])
  all_goals (cases a3 : decide (((s.length + r.length : Nat) : Int) > 0) <;> try simp only [Bool.false_or,Bool.true_or,Bool.not_false,eES,eEX,Nat.reduceBEq,↓reduceIte,Nat.reduceAdd])
  all_goals (cases a4 : ((b : Int) == 0) <;> try simp only [a4,n4,b11,b12,Bool.false_or,Bool.true_or,Bool.not_false,Bool.not_true,astr,eES,eEX,Nat.reduceBEq,↓reduceIte,Nat.reduceAdd])
  all_goals (cases a5 : (t == []) <;> try simp only [Bool.not_false,Bool.not_true,eES,Nat.reduceBEq])
 ·have b7 : (k == 7) = false:=by simp [h7]
  have b8 : (k == 8) = false:=by simp [h8]
  have b10 : (k == 10) = false:=by simp [h10]
  have b11 : (k == 11) = false:=by simp [h11]
  have b12 : (k == 12) = false:=by simp [h12]
  have c10 : (k != 10) = true:=by simp [h10]
  have c11 : (k != 11) = true:=by simp [h11]
  have c12 : (k != 12) = true:=by simp [h12]
  rcases (by omega : (k ≥ 10 ∧ ¬ k ≤ 12) ∨ ¬ k ≥ 10) with ⟨q1,q2⟩ | q1
  ·have g1 : decide (k ≥ 10) = true:=decide_eq_true q1
   have g2 : decide (k ≤ 12) = false:=decide_eq_false q2
   simp only [b7,b8,b10,b11,b12,c10,c11,c12,Bool.true_and,Bool.or_false,Bool.and_false,Bool.and_true,Bool.not_false,eES,eEX,Nat.reduceBEq,↓reduceIte,Nat.reduceAdd]
   cases a1 : decide ((l.length : Int) > 0) <;> try simp only [c11,Bool.false_or,Bool.true_or,eES,eEX,Nat.reduceBEq,↓reduceIte,Nat.reduceAdd]
   all_goals (cases a2 : decide ((p.length : Int) > 0) <;> try simp only [c12,Bool.false_or,Bool.true_or,w,eES,eEX,Nat.reduceBEq,↓reduceIte,Nat.reduceAdd])
   all_goals (cases a3 : decide (((s.length + r.length : Nat) : Int) > 0) <;> try simp only [Bool.false_or,Bool.true_or,Bool.not_false,eES,eEX,Nat.reduceBEq,↓reduceIte,Nat.reduceAdd])
   all_goals (cases a4 : ((b : Int) == 0) <;> try simp only [a4,n4,b11,b12,Bool.not_false,Bool.not_true,astr,eES,eEX,Nat.reduceBEq,↓reduceIte,Nat.reduceAdd])
   all_goals (cases a5 : (t == []) <;> try simp only [Bool.not_false,Bool.not_true,eES,Nat.reduceBEq])
  ·have g1 : decide (k ≥ 10) = false:=decide_eq_false q1
   simp only [b7,b8,b10,b11,b12,c10,c11,c12,Bool.true_and,Bool.or_false,Bool.and_false,Bool.and_true,Bool.not_false,eES,eEX,Nat.reduceBEq,↓reduceIte,Nat.reduceAdd]
   cases a1 : decide ((l.length : Int) > 0) <;> try simp only [c11,Bool.false_or,Bool.true_or,eES,eEX,Nat.reduceBEq,↓reduceIte,Nat.reduceAdd]
   all_goals (cases a2 : decide ((p.length : Int) > 0) <;> try simp only [c12,Bool.false_or,Bool.true_or,w,eES,eEX,Nat.reduceBEq,↓reduceIte,Nat.reduceAdd])
   all_goals (cases a3 : decide (((s.length + r.length : Nat) : Int) > 0) <;> try simp only [Bool.false_or,Bool.true_or,Bool.not_false,eES,eEX,Nat.reduceBEq,↓reduceIte,Nat.reduceAdd])
   all_goals (cases a4 : ((b : Int) == 0) <;> try simp only [a4,n4,b11,b12,Bool.not_false,Bool.not_true,astr,eES,eEX,Nat.reduceBEq,↓reduceIte,Nat.reduceAdd])
   all_goals (cases a5 : (t == []) <;> try simp only [Bool.not_false,Bool.not_true,eES,Nat.reduceBEq])

end
end Go.Proofs.YtelhohgmmhbahaaGreatDoor.Va

set_option linter.unusedSimpArgs false
namespace Go.Proofs.YtelhohgmmhbahaaGreatDoor.Va
open Go Am Rc Bt Br

theorem find_drop {α : Type} (p : α → Bool) {l : List α} {i : Nat} {x : α} (hx : l[i]? = some x) : (l.drop i).find? p = if p x = true then some x else (l.drop (i + 1)).find? p:=by
 have hlt : i < l.length:=(List.getElem?_eq_some_iff.1 hx).1
 rw [List.drop_eq_getElem_cons hlt,show l[i] = x from (List.getElem?_eq_some_iff.1 hx).2,List.find?_cons]
 cases p x <;> rfl

def zc : List AV:=[.int .i64 0,.str [],.str [],.int .i64 0,.int .i64 0,.int .i64 0,.int .i64 0,.int .i64 0]

def OpI (g : PG) (n : Int) (k : Nat) (st : St) : Prop :=
 ∃ f fr i,st = ⟨f,[fr],[]⟩ ∧ k = g.ops.length - i ∧ g.ops.find? (fun o => o.num == n) = (g.ops.drop i).find? (fun o => o.num == n) ∧ f 1 = .int .i64 n ∧ f 2 = .ptr 0 2 0 ∧ f 4 = .ptr 0 4 0 ∧ f 6 = .int .i64 (i : Nat) ∧ fr 2 = .cells g.cells ∧ fr 4 = .cells zc

theorem y57 (g : PG) (hl : g.ops.length ≤ maxLen) (n : Int) : Fn1 Tryz.prog 57 [gav g,.int .i64 n] (opr (fun o => o.num == n) g.ops):=by
 refine fn1_of_awp (rc:=r57) (rs:=o57) Tryz.func57 rfl rfl Tryz.ntmps57 k57 q57 (by simp) ?_
 simp only [g57_0,g57_1,g57_6,r57,o57,gav,PG.cells,eES,eEX,Nat.reduceBEq]
 refine awp_loop (OpI g n) _ ⟨_,_,0,rfl,rfl,rfl,(by first | rfl | simp only [eES,eEX,Nat.reduceBEq,↓reduceIte,reduceCtorEq,Nat.reduceEqDiff]),(by first | rfl | simp only [eES,eEX,Nat.reduceBEq,↓reduceIte,reduceCtorEq,Nat.reduceEqDiff]),(by first | rfl | simp only [eES,eEX,Nat.reduceBEq,↓reduceIte,reduceCtorEq,Nat.reduceEqDiff]),(by first | rfl | simp only [eES,eEX,Nat.reduceBEq,↓reduceIte,reduceCtorEq,Nat.reduceEqDiff]),(by first | rfl | simp only [eES,eEX,Nat.reduceBEq,↓reduceIte,reduceCtorEq,Nat.reduceEqDiff]),(by first | rfl | simp only [eES,eEX,Nat.reduceBEq,↓reduceIte,reduceCtorEq,Nat.reduceEqDiff])⟩ ?_
 rintro _ st ⟨f,fr,i,rfl,rfl,hx,h1,h2,h4,h6,m2,m4⟩
 simp only [PG.cells,zc] at m2 m4
 simp only [l57_0,g57_2,g57_4,g57_5,g57_3,List.length_map,h2,h6,m2,eES,eEX,Nat.reduceBEq,↓reduceIte,Nat.reduceAdd]
 by_cases hlt : i < g.ops.length
 ·obtain ⟨x,hi⟩ : ∃ x,g.ops[i]? = some x:=⟨g.ops[i],List.getElem?_eq_getElem hlt⟩
  have hg : (g.ops.map fun o => AV.agg o.cells)[i]? = some (.agg x.cells):=by simp [hi]
  have e1:=wi64_s i _ hlt hl
  rw [find_drop _ hi] at hx
  simp only [PO.cells] at hg m2
  simp only [lt_t hlt,nneg,Int.toNat_natCast,aiaddr,hg,PO.cells,h1,h2,h6,m2,eES,eEX,Nat.reduceBEq,↓reduceIte,Nat.reduceAdd]
  cases hp : (x.num == n)
  ·rw [hp] at hx
   simp only [Bool.false_eq_true,if_false] at hx
   simp only [h6,e1,eES,Nat.reduceBEq,↓reduceIte]
   exact ⟨g.ops.length - (i + 1),by omega,_,_,i + 1,rfl,rfl,hx,(by first | rfl | exact h1 | simp only [h1,eES,eEX,Nat.reduceBEq,↓reduceIte,reduceCtorEq,Nat.reduceEqDiff]),(by first | rfl | exact h2 | simp only [h2,eES,eEX,Nat.reduceBEq,↓reduceIte,reduceCtorEq,Nat.reduceEqDiff]),(by first | rfl | exact h4 | simp only [h4,eES,eEX,Nat.reduceBEq,↓reduceIte,reduceCtorEq,Nat.reduceEqDiff]),(by first | rfl | simp only [eES,eEX,Nat.reduceBEq,↓reduceIte,reduceCtorEq,Nat.reduceEqDiff]),m2,m4⟩
  ·rw [hp] at hx
   simp only [if_true] at hx
   simp only [nneg,Int.toNat_natCast,aiaddr,hg,opr,hx,Option.getD_some,Option.isSome_some,oav,PO.cells,h2,h4,h6,m2,m4,splice,List.take_zero,List.nil_append,List.drop_succ_cons,List.drop_zero,List.drop_nil,List.append_nil,List.length_cons,List.length_nil,List.all_cons,List.all_nil,AV.leaf,eES,eEX,Nat.reduceBEq,↓reduceIte,Nat.reduceAdd,Nat.reduceLeDiff]
 ·have hx' : g.ops.find? (fun o => o.num == n) = none:=by rw [hx,List.drop_of_length_le (by omega)]; rfl
  simp only [lt_f hlt,h4,m4,opr,hx',Option.getD_none,Option.isSome_none,PO0,oav,PO.cells,splice,List.take_zero,List.nil_append,List.drop_succ_cons,List.drop_zero,List.drop_nil,List.append_nil,List.length_cons,List.length_nil,List.all_cons,List.all_nil,AV.leaf,eES,eEX,Nat.reduceBEq,↓reduceIte,Nat.reduceAdd,Nat.reduceLeDiff]

end Go.Proofs.YtelhohgmmhbahaaGreatDoor.Va

set_option linter.unusedSimpArgs false
namespace Go.Proofs.YtelhohgmmhbahaaGreatDoor.Va
open Go Am Rc Bt Br

section progs
variable (L : List PG) (hl : L.length ≤ maxLen) (p : PG → Bool) (c : Nat) (cap : AV) (m : Mem)

end progs

section items
variable (L : List PI) (hl : L.length ≤ maxLen) (p : PI → Bool) (c : Nat) (cap : AV) (m : Mem)

def IxI (k : Nat) (st : St) : Prop :=
 ∃ f i,st = ⟨f,noObs :: m,[]⟩ ∧ k = L.length - i ∧ fxi p L 0 = fxi p (L.drop i) i ∧ f 0 = .list (L.map iav) ∧ f 1 = .fn (.func c) [] [cap.sh] ∧ f 7 = .int .i64 (L.length : Nat) ∧ f 8 = .int .i64 (i : Nat)

include hl in
theorem y212 (hc : ∀ o ∈ L,ACalls Tryz.prog c [iav o,cap.sh] (noObs :: m) fun y m1 => y = .bool (p o) ∧ m1 = noObs :: m) :
  ACalls Tryz.prog 212 [.list (L.map iav),.fn (.func c) [] [cap]] m fun y m1 => y = .int .i64 (fxi p L 0) ∧ m1 = m:=by
 refine acalls_of_awp (rc:=r212) (rs:=o212) Tryz.func212 rfl rfl Tryz.ntmps212 k212 q212 (by simp) ?_
 simp only [g212_0,g212_1,g212_7,r212,o212,List.length_map,eES,Nat.reduceBEq]
 refine awp_loop (IxI L p c cap m) _ ⟨_,0,rfl,rfl,rfl,(by first | rfl | simp only [eES,eEX,Nat.reduceBEq,↓reduceIte,reduceCtorEq,Nat.reduceEqDiff]),(by first | rfl | simp only [eES,eEX,Nat.reduceBEq,↓reduceIte,reduceCtorEq,Nat.reduceEqDiff]),(by first | rfl | simp only [eES,eEX,Nat.reduceBEq,↓reduceIte,reduceCtorEq,Nat.reduceEqDiff]),(by first | rfl | simp only [eES,eEX,Nat.reduceBEq,↓reduceIte,reduceCtorEq,Nat.reduceEqDiff])⟩ ?_
 rintro _ st ⟨f,i,rfl,rfl,hx,h0,h1,h7,h8⟩
 simp only [l212_0,g212_2,g212_3,g212_4,g212_5,g212_6,h7,h8,eES,Nat.reduceBEq,↓reduceIte]
 by_cases hlt : i < L.length
 ·obtain ⟨x,hi⟩ : ∃ x,L[i]? = some x:=⟨L[i],List.getElem?_eq_getElem hlt⟩
  have hcl:=hc x (List.mem_of_getElem? hi)
  have hg : (L.map iav)[i]? = some (iav x):=by simp [hi]
  have e1:=wi64_s i _ hlt hl
  simp only [iav,PI.cells] at hcl
  simp only [lt_t hlt,nneg,Int.toNat_natCast,aiaddr,hg,iav,PI.cells,h0,h1,h8,eES,eEX,Nat.reduceBEq,↓reduceIte,Nat.reduceAdd,Nat.reduceLeDiff]
  refine aops_callV (fa:=[]) (fb:=[cap.sh]) (by first | rfl | exact h1 | simp only [h1,eES,eEX,Nat.reduceBEq,↓reduceIte,reduceCtorEq,Nat.reduceEqDiff]) hcl (by simp only [List.map_cons,List.map_nil,List.nil_append,List.cons_append,eES,Nat.reduceBEq]) ?_
  rw [fxi_drop p hi] at hx
  cases hp : p x
  ·rw [hp] at hx
   simp only [Bool.false_eq_true,if_false] at hx
   simp only [h8,e1,eES,Nat.reduceBEq,↓reduceIte]
   exact ⟨L.length - (i + 1),by omega,_,i + 1,rfl,rfl,hx,(by first | rfl | exact h0 | simp only [h0,eES,eEX,Nat.reduceBEq,↓reduceIte,reduceCtorEq,Nat.reduceEqDiff]),(by first | rfl | exact h1 | simp only [h1,eES,eEX,Nat.reduceBEq,↓reduceIte,reduceCtorEq,Nat.reduceEqDiff]),(by first | rfl | exact h7 | simp only [h7,eES,eEX,Nat.reduceBEq,↓reduceIte,reduceCtorEq,Nat.reduceEqDiff]),(by first | rfl | simp only [eES,eEX,Nat.reduceBEq,↓reduceIte,reduceCtorEq,Nat.reduceEqDiff])⟩
  ·rw [hp] at hx
   simp only [if_true] at hx
   simp only [hx,eES,Nat.reduceBEq]
 ·have hx' : fxi p L 0 = -1:=by rw [hx,List.drop_of_length_le (by omega)]; rfl
  simp only [lt_f hlt,hx',eES,Nat.reduceBEq,↓reduceIte]

theorem fxi_any {α : Type} (p : α → Bool) (l : List α) : decide (fxi p l 0 ≥ 0) = l.any p:=by
 rcases fxi_spec p l 0 with ⟨h1,h2⟩ | ⟨k,o,h1,_,h3⟩
 ·rw [h1]
  have : l.any p = false:=by
   rw [List.any_eq_false]
   intro x hx
   exact fun h => by have:=List.find?_eq_none.1 h2 x hx; exact this h
  rw [this]; rfl
 ·rw [h1]
  have : l.any p = true:=List.any_eq_true.2 ⟨o,List.mem_of_find?_eq_some h3,List.find?_some h3⟩
  rw [this]
  exact decide_eq_true (by omega)

include hl in
theorem y153 (hc : ∀ o ∈ L,ACalls Tryz.prog c [iav o,cap.sh.sh] (noObs :: noObs :: m) fun y m1 => y = .bool (p o) ∧ m1 = noObs :: noObs :: m) :
  ACalls Tryz.prog 153 [.list (L.map iav),.fn (.func c) [] [cap]] m fun y m1 => y = .bool (L.any p) ∧ m1 = m:=by
 refine acalls_of_awp (rc:=r153) (rs:=o153) Tryz.func153 rfl rfl Tryz.ntmps153 k153 q153 (by simp) ?_
 simp only [g153_0,g153_1,r153,o153,eES,Nat.reduceBEq]
 refine aops_callF (y212 L hl p c cap.sh _ hc) (by simp only [List.map_cons,List.map_nil,eES,Nat.reduceBEq]) ?_
 simp only [fxi_any,eES,Nat.reduceBEq,↓reduceIte]

end items

def pmi (b : Nat) (x : PI) : Bool:=IntKind.u64.wrap x.num == (b : Int)
def pri (b : Nat) (x : PI) : Bool:=x.num == IntKind.i64.wrap (b : Int)

theorem pmi_pri {b : Nat} {x : PI} (hb : b ≤ 2147483647) (hx : (Lit.int .i64 x.num).wf = true) : pri b x = pmi b x:=by
 have h1:=i64_lo hx
 have h2:=i64_hi hx
 unfold pri pmi
 rw [Bool.eq_iff_iff,beq_iff_eq,beq_iff_eq,wi64,wu64]
 omega

theorem y193 (x : PI) (b : Nat) (frO : Nat → Ob) (hf : frO 5 = .cells [.int .u64 (b : Nat)]) : ACalls Tryz.prog 193 [iav x,.ptr 2 5 0] [noObs,noObs,frO] fun y m1 => y = .bool (pmi b x) ∧ m1 = [noObs,noObs,frO]:=by
 refine acalls_of_awp (rc:=r193) (rs:=o193) Tryz.func193 rfl rfl Tryz.ntmps193 k193 q193 (by simp) ?_
 simp only [g193_0,g193_1,r193,o193,hf,iav,PI.cells,pmi,eES,eEX,Nat.reduceBEq,↓reduceIte,Nat.reduceAdd]

def acp (E : List PE) (t : Int) (b : Nat) : Bool :=
 if 0 ≤ t ∧ t < E.length ∧ b ≤ 2147483647 then
  match E[t.toNat]? with
  | some x => x.opn || x.items.any (pmi b)
  | none => false
 else false

theorem y133 {M : Nat} (P : PL) (hP : P.ok M) (t : Int) (b : Nat) : Fn1 Tryz.prog 133 [P.av,.int .i64 t,.int .u64 (b : Nat)] (.bool (acp P.enums t b)):=by
 have e0 : P.av = .agg [.list (P.progs.map gav),.list (P.enums.map eav)]:=rfl
 refine fn1_of_awp (rc:=r133) (rs:=o133) Tryz.func133 rfl rfl Tryz.ntmps133 k133 q133 (by simp) ?_
 simp only [g133_0,g133_1,g133_2,g133_3,g133_4,r133,o133,e0,eES,eEX,Nat.reduceBEq,↓reduceIte]
 by_cases h1 : 0 ≤ t
 ·have d1 : decide (t < 0) = false:=decide_eq_false (by omega)
  by_cases h2 : t < P.enums.length
  ·have d2 : decide (t ≥ (P.enums.length : Int)) = false:=decide_eq_false (by omega)
   by_cases h3 : b ≤ 2147483647
   ·have d3 : decide ((b : Int) > 2147483647) = false:=decide_eq_false (by omega)
    obtain ⟨n,rfl⟩:=Int.eq_ofNat_of_zero_le h1
    have hn : n < P.enums.length:=by omega
    obtain ⟨x,hi⟩ : ∃ x,P.enums[n]? = some x:=⟨P.enums[n],List.getElem?_eq_getElem hn⟩
    have hx:=hP.enums x (List.mem_of_getElem? hi)
    have hg : (P.enums.map eav)[n]? = some (.agg x.cells):=by simp [hi,eav]
    simp only [PE.cells] at hg
    have ha : acp P.enums (n : Int) b = (x.opn || x.items.any (pmi b)):=by
     unfold acp
     rw [if_pos ⟨h1,h2,h3⟩,Int.toNat_natCast,hi]
    simp only [d1,d2,List.length_map,d3,nneg,Int.toNat_natCast,aiaddr,hg,ha,eES,eEX,Nat.reduceBEq,↓reduceIte,Nat.reduceAdd,Nat.reduceLeDiff]
    cases ho : x.opn
    ·simp only [Bool.false_or,eES,eEX,Nat.reduceBEq,Nat.reduceAdd]
     refine aops_callF (y153 x.items hx.len1 (pmi b) 193 (.ptr 0 5 0) _ fun y _ => y193 y b _ (by first | rfl | simp only [eES,eEX,Nat.reduceBEq,↓reduceIte,reduceCtorEq,Nat.reduceEqDiff])) (by simp only [List.map_cons,List.map_nil,eES,Nat.reduceBEq] <;> rfl) ?_
     simp only [eES,Nat.reduceBEq]
    ·simp only [Bool.true_or,eES,Nat.reduceBEq]
   ·have d3 : decide ((b : Int) > 2147483647) = true:=decide_eq_true (by omega)
    have ha : acp P.enums t b = false:=by
     unfold acp
     rw [if_neg (by omega)]
    simp only [d1,d2,List.length_map,d3,ha,eES,eEX,Nat.reduceBEq,↓reduceIte,Nat.reduceAdd]
  ·have d2 : decide (t ≥ (P.enums.length : Int)) = true:=decide_eq_true (by omega)
   have ha : acp P.enums t b = false:=by
    unfold acp
    rw [if_neg (by omega)]
   simp only [d1,d2,List.length_map,ha,eES,eEX,Nat.reduceBEq,↓reduceIte,Nat.reduceAdd]
 ·have d1 : decide (t < 0) = true:=decide_eq_true (by omega)
  have ha : acp P.enums t b = false:=by
   unfold acp
   rw [if_neg (by omega)]
  simp only [d1,ha,eES,Nat.reduceBEq]

def AcI (P : PL) (L : List PI) (eo : Bool) (n b : Nat) (k : Nat) (st : St) : Prop :=
 ∃ f fr i,st = ⟨f,[fr],[]⟩ ∧ k = L.length - i ∧ f 1 = .int .i64 (n : Nat) ∧ f 2 = .int .u64 (b : Nat) ∧ f 3 = .ptr 0 3 0 ∧ fr 3 = .cells [.list (P.progs.map gav),.list (P.enums.map eav)] ∧ f 7 = .bool (eo || (L.take i).any (pri b)) ∧ f 8 = .int .i64 (i : Nat)

theorem y137 {M : Nat} (P : PL) (hP : P.ok M) (t : Int) (b : Nat) : Fn1 Tryz.prog 137 [P.av,.int .i64 t,.int .u64 (b : Nat)] (.bool (acp P.enums t b)):=by
 have e0 : P.av = .agg [.list (P.progs.map gav),.list (P.enums.map eav)]:=rfl
 refine fn1_of_awp (rc:=r137) (rs:=o137) Tryz.func137 rfl rfl Tryz.ntmps137 k137 q137 (by simp) ?_
 simp only [g137_0,g137_1,g137_2,g137_3,g137_4,g137_8,r137,o137,e0,eES,eEX,Nat.reduceBEq,↓reduceIte]
 by_cases h1 : 0 ≤ t
 ·have d1 : decide (t < 0) = false:=decide_eq_false (by omega)
  by_cases h2 : t < P.enums.length
  ·have d2 : decide (t ≥ (P.enums.length : Int)) = false:=decide_eq_false (by omega)
   by_cases h3 : b ≤ 2147483647
   ·have d3 : decide ((b : Int) > 2147483647) = false:=decide_eq_false (by omega)
    obtain ⟨n,rfl⟩:=Int.eq_ofNat_of_zero_le h1
    have hn : n < P.enums.length:=by omega
    obtain ⟨x,hi⟩ : ∃ x,P.enums[n]? = some x:=⟨P.enums[n],List.getElem?_eq_getElem hn⟩
    have hx:=hP.enums x (List.mem_of_getElem? hi)
    have hg : (P.enums.map eav)[n]? = some (.agg x.cells):=by simp [hi,eav]
    simp only [PE.cells] at hg
    have ha : acp P.enums (n : Int) b = (x.opn || x.items.any (pri b)):=by
     unfold acp
     rw [if_pos ⟨h1,h2,h3⟩,Int.toNat_natCast,hi]
     show (x.opn || x.items.any (pmi b)) = _
     congr 1
     rw [Bool.eq_iff_iff,List.any_eq_true,List.any_eq_true]
     constructor
     ·rintro ⟨y,hy,hp⟩
      exact ⟨y,hy,by rw [pmi_pri h3 (hx.items y hy).num]; exact hp⟩
     ·rintro ⟨y,hy,hp⟩
      exact ⟨y,hy,by rw [← pmi_pri h3 (hx.items y hy).num]; exact hp⟩
    simp only [d1,d2,List.length_map,d3,nneg,Int.toNat_natCast,aiaddr,hg,eES,eEX,Nat.reduceBEq,↓reduceIte,Nat.reduceAdd]
    refine awp_loop (AcI P x.items x.opn n b) _ ⟨_,_,0,rfl,rfl,(by first | rfl | simp only [eES,eEX,Nat.reduceBEq,↓reduceIte,reduceCtorEq,Nat.reduceEqDiff]),(by first | rfl | simp only [eES,eEX,Nat.reduceBEq,↓reduceIte,reduceCtorEq,Nat.reduceEqDiff]),(by first | rfl | simp only [eES,eEX,Nat.reduceBEq,↓reduceIte,reduceCtorEq,Nat.reduceEqDiff]),(by first | rfl | simp only [eES,eEX,Nat.reduceBEq,↓reduceIte,reduceCtorEq,Nat.reduceEqDiff]),by simp only [List.take_zero,List.any_nil,Bool.or_false] <;> first | rfl | simp only [eES,eEX,Nat.reduceBEq,Int.reduceLE,Int.reduceLT,Int.reduceToNat,Int.reduceEq,↓reduceIte,reduceCtorEq,Nat.reducePow,Nat.reduceAdd,Nat.reduceLeDiff,Nat.reduceLT,Nat.reduceSub,Nat.reduceEqDiff],(by first | rfl | simp only [eES,eEX,Nat.reduceBEq,↓reduceIte,reduceCtorEq,Nat.reduceEqDiff])⟩ ?_
    rintro _ st ⟨f,fr,i,rfl,rfl,g1,g2,g3,m3,g7,g8⟩
    simp only [l137_0,g137_5,g137_7,g137_6,List.length_map,nneg,Int.toNat_natCast,aiaddr,hg,g1,g3,m3,g8,eES,eEX,Nat.reduceBEq,↓reduceIte,Nat.reduceAdd]
    by_cases hlt : i < x.items.length
    ·obtain ⟨y,hd⟩ : ∃ y,x.items[i]? = some y:=⟨x.items[i],List.getElem?_eq_getElem hlt⟩
     have hdm : (x.items.map fun n => AV.agg n.cells)[i]? = some (.agg y.cells):=by simp [hd]
     simp only [PI.cells] at hdm
     have e1:=wi64_s i _ hlt hx.len1
     have ht : (x.opn || (x.items.take (i + 1)).any (pri b)) = ((x.opn || (x.items.take i).any (pri b)) || pri b y):=by
      rw [List.take_add_one,hd]
      simp [Bool.or_assoc]
     have hp : pri b y = (y.num == IntKind.i64.wrap (b : Int)):=rfl
     rw [hp] at ht
     simp only [PI.cells] at hg
     cases hq : (x.opn || (x.items.take i).any (pri b))
     ·rw [hq,Bool.false_or] at ht
      simp only [lt_t hlt,nneg,Int.toNat_natCast,aiaddr,hg,hdm,hq,PI.cells,g1,g2,g3,m3,g7,g8,e1,eES,eEX,Nat.reduceBEq,↓reduceIte,Nat.reduceAdd]
      exact ⟨x.items.length - (i + 1),by omega,_,_,i + 1,rfl,rfl,(by first | rfl | exact g1 | simp only [g1,eES,eEX,Nat.reduceBEq,↓reduceIte,reduceCtorEq,Nat.reduceEqDiff]),(by first | rfl | exact g2 | simp only [g2,eES,eEX,Nat.reduceBEq,↓reduceIte,reduceCtorEq,Nat.reduceEqDiff]),(by first | rfl | exact g3 | simp only [g3,eES,eEX,Nat.reduceBEq,↓reduceIte,reduceCtorEq,Nat.reduceEqDiff]),(by first | rfl | exact m3 | simp only [m3,eES,eEX,Nat.reduceBEq,↓reduceIte,reduceCtorEq,Nat.reduceEqDiff]),by rw [ht] <;> first | rfl | simp only [eES,eEX,Nat.reduceBEq,Int.reduceLE,Int.reduceLT,Int.reduceToNat,Int.reduceEq,↓reduceIte,reduceCtorEq,Nat.reducePow,Nat.reduceAdd,Nat.reduceLeDiff,Nat.reduceLT,Nat.reduceSub,Nat.reduceEqDiff],(by first | rfl | simp only [eES,eEX,Nat.reduceBEq,↓reduceIte,reduceCtorEq,Nat.reduceEqDiff])⟩
     ·rw [hq,Bool.true_or] at ht
      simp only [lt_t hlt,hq,PI.cells,g7,g8,e1,eES,Nat.reduceBEq,↓reduceIte]
      exact ⟨x.items.length - (i + 1),by omega,_,_,i + 1,rfl,rfl,(by first | rfl | exact g1 | simp only [g1,eES,eEX,Nat.reduceBEq,↓reduceIte,reduceCtorEq,Nat.reduceEqDiff]),(by first | rfl | exact g2 | simp only [g2,eES,eEX,Nat.reduceBEq,↓reduceIte,reduceCtorEq,Nat.reduceEqDiff]),(by first | rfl | exact g3 | simp only [g3,eES,eEX,Nat.reduceBEq,↓reduceIte,reduceCtorEq,Nat.reduceEqDiff]),(by first | rfl | exact m3 | simp only [m3,eES,eEX,Nat.reduceBEq,↓reduceIte,reduceCtorEq,Nat.reduceEqDiff]),by rw [ht] <;> first | rfl | simp only [eES,eEX,Nat.reduceBEq,Int.reduceLE,Int.reduceLT,Int.reduceToNat,Int.reduceEq,↓reduceIte,reduceCtorEq,Nat.reducePow,Nat.reduceAdd,Nat.reduceLeDiff,Nat.reduceLT,Nat.reduceSub,Nat.reduceEqDiff],(by first | rfl | simp only [eES,eEX,Nat.reduceBEq,↓reduceIte,reduceCtorEq,Nat.reduceEqDiff])⟩
    ·rw [List.take_of_length_le (by omega)] at g7
     simp only [lt_f hlt,g7,ha,eES,Nat.reduceBEq,↓reduceIte]
   ·have d3 : decide ((b : Int) > 2147483647) = true:=decide_eq_true (by omega)
    have ha : acp P.enums t b = false:=by
     unfold acp
     rw [if_neg (by omega)]
    simp only [d1,d2,List.length_map,d3,ha,eES,eEX,Nat.reduceBEq,↓reduceIte,Nat.reduceAdd]
  ·have d2 : decide (t ≥ (P.enums.length : Int)) = true:=decide_eq_true (by omega)
   have ha : acp P.enums t b = false:=by
    unfold acp
    rw [if_neg (by omega)]
   simp only [d1,d2,List.length_map,ha,eES,eEX,Nat.reduceBEq,↓reduceIte,Nat.reduceAdd]
 ·have d1 : decide (t < 0) = true:=decide_eq_true (by omega)
  have ha : acp P.enums t b = false:=by
   unfold acp
   rw [if_neg (by omega)]
  simp only [d1,ha,eES,Nat.reduceBEq]

end Go.Proofs.YtelhohgmmhbahaaGreatDoor.Va

set_option linter.unusedSimpArgs false
namespace Go.Proofs.YtelhohgmmhbahaaGreatDoor.Va
open Go Am Rc Bt Br

def onef (P : PL) (k tg kd : Int) (b : Nat) (t : List UInt8) (l p s r : List AV) : Int :=
 if (kd != k || oth kd b t l p s r) = true then 12 else if decide ((t.length : Int) > 4096) = true then 3 else if (k == 7 && !vld t) = true then 7
 else if (!fitv k kd b t l p s r) = true then 12 else if (k == 9 && !acp P.enums tg b) = true then 16 else 0

section
variable {M : Nat} (P : PL) (hP : P.ok M) (k tg kd : Int) (b : Nat) (t : List UInt8) (l p s r : List AV) (hl : l.length ≤ 140737488351232) (hp : p.length ≤ 140737488351232) (hs : s.length ≤ 140737488351232) (hr : r.length ≤ 140737488351232)

include hP hl hp hs hr in
theorem z240 : Fn1 Tryz.prog 240 [P.av,.int .i64 k,.int .i64 tg,vo kd b t l p s r] (.int .i64 (onef P k tg kd b t l p s r)):=by
 have e0 : P.av = .agg [.list (P.progs.map gav),.list (P.enums.map eav)]:=rfl
 have ho:=z49 kd b t l p s r hs hr
 have hf:=z263 k kd b t l p s r hl hp hs hr
 have ha:=y133 P hP tg b
 simp only [vo] at ho hf
 simp only [e0] at ha
 refine fn1_of_awp (rc:=r240) (rs:=o240) Tryz.func240 rfl rfl Tryz.ntmps240 k240 q240 (by simp) ?_
 simp only [g240_0,g240_1,g240_2,g240_3,g240_4,g240_5,g240_6,g240_7,g240_8,g240_9,g240_10,g240_11,r240,o240,e0,vo,onef,eES,eEX,Nat.reduceBEq,↓reduceIte,Nat.reduceAdd]
 cases a1 : (kd != k)
 ·simp only [Bool.false_or,eES,eEX,Nat.reduceBEq,↓reduceIte,Nat.reduceAdd,Nat.reduceLeDiff]
  refine aops_call ho rfl rfl rfl (.inl rfl) ?_
  cases oth kd b t l p s r
  ·simp only [Bool.false_eq_true,eES,eEX,Nat.reduceBEq,↓reduceIte,Nat.reduceAdd]
   cases a2 : decide ((t.length : Int) > 4096)
   ·simp only [Bool.false_eq_true,eES,Nat.reduceBEq,↓reduceIte]
    have fin : ∀ c : Bool,True:=fun _ => trivial
    cases a3 : (k == 7)
    ·simp only [Bool.false_and,Bool.false_eq_true,eES,eEX,Nat.reduceBEq,↓reduceIte,Nat.reduceAdd,Nat.reduceLeDiff]
     refine aops_call hf rfl rfl rfl (.inl rfl) ?_
     cases fitv k kd b t l p s r
     ·simp only [Bool.not_false,eES,Nat.reduceBEq,↓reduceIte]
     ·simp only [Bool.not_true,Bool.false_eq_true,eES,Nat.reduceBEq,↓reduceIte]
      cases a4 : (k == 9)
      ·simp only [Bool.false_and,Bool.false_eq_true,eES,Nat.reduceBEq,↓reduceIte]
      ·simp only [Bool.true_and,eES,eEX,Nat.reduceBEq,↓reduceIte,Nat.reduceAdd,Nat.reduceLeDiff]
       refine aops_call ha rfl rfl rfl (.inl rfl) ?_
       cases acp P.enums tg b <;> simp only [Bool.not_false,Bool.not_true,Bool.false_eq_true,eES,Nat.reduceBEq,↓reduceIte]
    ·simp only [Bool.true_and,eES,eEX,Nat.reduceBEq,Nat.reduceAdd]
     refine aops_call (x100 t) rfl rfl rfl (.inl rfl) ?_
     cases vld t
     ·simp only [Bool.not_false,eES,Nat.reduceBEq,↓reduceIte]
     ·have a4 : (k == 9) = false:=by
       rw [beq_iff_eq] at a3
       subst a3; rfl
      simp only [Bool.not_true,Bool.false_eq_true,eES,eEX,Nat.reduceBEq,↓reduceIte,Nat.reduceAdd,Nat.reduceLeDiff]
      refine aops_call hf rfl rfl rfl (.inl rfl) ?_
      cases fitv k kd b t l p s r
      ·simp only [Bool.not_false,eES,Nat.reduceBEq,↓reduceIte]
      ·simp only [Bool.not_true,a4,Bool.false_and,Bool.false_eq_true,eES,Nat.reduceBEq,↓reduceIte]
   ·simp only [eES,Nat.reduceBEq,↓reduceIte]
  ·simp only [eES,Nat.reduceBEq,↓reduceIte]
 ·simp only [Bool.true_or,eES,Nat.reduceBEq,↓reduceIte]

end
end Go.Proofs.YtelhohgmmhbahaaGreatDoor.Va

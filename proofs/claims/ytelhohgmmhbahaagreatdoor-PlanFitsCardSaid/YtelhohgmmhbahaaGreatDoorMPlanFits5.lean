/- Parts of the proof, in order. -/
import Derived.Test.YtelhohgmmhbahaaGreatDoorMPlanFits4

set_option linter.unusedSimpArgs false
namespace Go.Proofs.YtelhohgmmhbahaaGreatDoor.Va
open Go Am Rc Bt Br

section
variable (k kd : Int) (b : Nat) (t : List UInt8) (l p s r : List AV) (ht : t.length + 8 ≤ maxLen)

include ht in
theorem v220 : Fn1 Tryz.prog 220 [.int .i64 k,vo kd b t l p s r] (.bool (fitv k kd b t l p s r)):=by
 have hl:=y190 kd b t l p s r
 simp only [vo] at hl
 have n1 : (kd != k) = !(kd == k):=rfl
 have n2 : (t != []) = !(t == []):=rfl
 refine fn1_of_awp (rc:=r220) (rs:=o220) Tryz.func220 rfl rfl Tryz.ntmps220 k220 q220 (by simp) ?_
 simp only [g220_0,g220_1,g220_2,g220_3,g220_4,g220_5,g220_6,g220_7,g220_8,g220_9,g220_10,g220_11,g220_12,g220_13,g220_14,g220_15,g220_16,g220_17,r220,o220,vo,fitv,eES,eEX,Nat.reduceBEq]
 refine aops_call (x189 k) rfl rfl rfl (.inl rfl) ?_
 cases hk : isk k
 ·simp only [Bool.not_false,Bool.false_and,eES,Nat.reduceBEq]
 simp only [n1,Bool.not_true,Bool.true_and,eES,eEX,Nat.reduceBEq,↓reduceIte,Nat.reduceAdd]
 cases a1 : (kd == k)
 ·simp only [Bool.not_false,Bool.false_and,eES,Nat.reduceBEq]
 have e : kd = k:=by simpa using a1
 subst e
 simp only [Bool.not_true,Bool.true_and,eES,eEX,Nat.reduceBEq,↓reduceIte,Nat.reduceAdd,Nat.reduceLeDiff]
 refine aops_call hl rfl rfl rfl (.inl rfl) ?_
 cases lon l p s r
 ·simp only [Bool.not_false,Bool.false_and,eES,Nat.reduceBEq]
 simp only [Bool.not_true,Bool.true_and,eES,Nat.reduceBEq]
 refine aops_call (x238 kd) rfl rfl rfl (.inl rfl) ?_
 cases tx : txk kd
 ·simp only [Bool.false_eq_true,astr,eES,eEX,Nat.reduceBEq,↓reduceIte,Nat.reduceAdd]
  cases a2 : (t == [])
  ·simp only [Bool.not_false,Bool.false_and,eES,Nat.reduceBEq]
  have e : t = []:=by simpa using a2
  subst e
  have k7 : (kd != 7) = true:=by
   simp only [txk,Bool.or_eq_false_iff,beq_eq_false_iff_ne] at tx
   simp [tx.1]
  have d0 : decide (((0 : Nat) : Int) ≤ 4096) = true:=rfl
  simp only [k7,d0,List.length_nil,Bool.not_true,Bool.true_and,Bool.and_true,Bool.true_or,eES,Nat.reduceBEq,↓reduceIte]
  unfold fitn
  by_cases h1 : kd = 1
  ·subst h1
   have b1 : ((1 : Int) == 1) = true:=rfl
   simp only [b1,eES,eEX,Nat.reduceBEq,↓reduceIte,Nat.reduceAdd]
  ·have b1 : (kd == 1) = false:=by simp [h1]
   by_cases h2 : kd = 2
   ·subst h2
    have b2 : ((2 : Int) == 2) = true:=rfl
    simp only [b1,b2,h1,eES,eEX,Nat.reduceBEq,↓reduceIte,Nat.reduceAdd]
    cases hd : decide (IntKind.i64.wrap (b : Int) ≥ -2147483648) <;> simp only [Bool.true_and,Bool.false_and,eES,Nat.reduceBEq,↓reduceIte]
   ·have b2 : (kd == 2) = false:=by simp [h2]
    by_cases h4 : kd = 4
    ·subst h4
     have b4 : ((4 : Int) == 4) = true:=rfl
     simp only [b1,b2,b4,h1,h2,eES,eEX,Nat.reduceBEq,↓reduceIte,Nat.reduceAdd]
    ·have b4 : (kd == 4) = false:=by simp [h4]
     by_cases h9 : kd = 9
     ·subst h9
      have b9 : ((9 : Int) == 9) = true:=rfl
      simp only [b1,b2,b9,b4,h1,h2,h4,eES,eEX,Nat.reduceBEq,↓reduceIte,Nat.reduceAdd]
     ·have b9 : (kd == 9) = false:=by simp [h9]
      simp only [b1,b2,b9,b4,h1,h2,h4,h9,eES,Nat.reduceBEq,↓reduceIte]
 ·simp only [eES,eEX,Nat.reduceBEq,↓reduceIte,Nat.reduceAdd]
  cases a2 : ((b : Int) == 0)
  ·simp only [Bool.false_and,eES,Nat.reduceBEq]
  have hfn : fitn kd b = true:=by
   simp only [txk,Bool.or_eq_true,beq_iff_eq] at tx
   rcases tx with rfl | rfl <;> rfl
  cases a3 : decide ((t.length : Int) ≤ 4096)
  ·simp only [a3,hfn,Bool.false_and,Bool.and_false,eES,eEX,Nat.reduceBEq,↓reduceIte,Nat.reduceAdd]
  simp only [txk,Bool.or_eq_true,beq_iff_eq] at tx
  rcases tx with rfl | rfl
  ·have c8 : ((7 : Int) == 8) = false:=rfl
   have c7 : ((7 : Int) != 7) = false:=rfl
   simp only [a3,c8,c7,hfn,Bool.true_and,Bool.false_or,eES,eEX,Nat.reduceBEq,↓reduceIte,Nat.reduceAdd]
   refine aops_call (c169 t ht) rfl rfl rfl (.inl rfl) ?_
   simp only [eES,Nat.reduceBEq]
  ·have c8 : ((8 : Int) == 8) = true:=rfl
   have c7 : ((8 : Int) != 7) = true:=rfl
   simp only [a3,c8,c7,hfn,Bool.true_or,eES,eEX,Nat.reduceBEq,↓reduceIte,Nat.reduceAdd]

end

section
variable {M : Nat} (P : PL) (hP : P.ok M) (k tg kd : Int) (b : Nat) (t : List UInt8) (l p s r : List AV) (ht : t.length + 8 ≤ maxLen) (hs : s.length ≤ 140737488351232) (hr : r.length ≤ 140737488351232)

include hP ht hs hr in
theorem z194 : Fn1 Tryz.prog 194 [P.av,.int .i64 k,.int .i64 tg,vo kd b t l p s r] (.int .i64 (onef P k tg kd b t l p s r)):=by
 have e0 : P.av = .agg [.list (P.progs.map gav),.list (P.enums.map eav)]:=rfl
 have ho:=z55 kd b t l p s r hs hr
 have hf:=v220 k kd b t l p s r ht
 have ha:=y137 P hP tg b
 simp only [vo] at ho hf
 simp only [e0] at ha
 refine fn1_of_awp (rc:=r194) (rs:=o194) Tryz.func194 rfl rfl Tryz.ntmps194 k194 q194 (by simp) ?_
 simp only [g194_0,g194_1,g194_2,g194_3,g194_4,g194_5,g194_6,g194_7,g194_8,g194_9,g194_10,g194_11,r194,o194,e0,vo,onef,eES,eEX,Nat.reduceBEq,↓reduceIte,Nat.reduceAdd]
 cases a1 : (kd != k)
 ·simp only [Bool.false_or,eES,eEX,Nat.reduceBEq,↓reduceIte,Nat.reduceAdd,Nat.reduceLeDiff]
  refine aops_call ho rfl rfl rfl (.inl rfl) ?_
  cases oth kd b t l p s r
  ·simp only [Bool.false_eq_true,eES,eEX,Nat.reduceBEq,↓reduceIte,Nat.reduceAdd]
   cases a2 : decide ((t.length : Int) > 4096)
   ·simp only [Bool.false_eq_true,eES,Nat.reduceBEq,↓reduceIte]
    cases a3 : (k == 7)
    ·simp only [Bool.false_and,Bool.false_eq_true,eES,eEX,Nat.reduceBEq,↓reduceIte,Nat.reduceAdd,Nat.reduceLeDiff]
     refine aops_call hf rfl rfl rfl (.inl rfl) ?_
     cases fitv k kd b t l p s r
     ·simp only [Bool.not_false,eES,Nat.reduceBEq,↓reduceIte]
     ·simp only [Bool.not_true,Bool.false_eq_true,eES,Nat.reduceBEq,↓reduceIte]
      cases a4 : (k == 9)
      ·simp only [Bool.false_and,Bool.false_eq_true,eES,Nat.reduceBEq,↓reduceIte]
      ·simp only [Bool.true_and,eES,eEX,Nat.reduceBEq,↓reduceIte,Nat.reduceAdd,Nat.reduceLeDiff]
       refine aops_call ha rfl rfl rfl (.inl rfl) ?_
       cases acp P.enums tg b <;> simp only [Bool.not_false,Bool.not_true,Bool.false_eq_true,eES,Nat.reduceBEq,↓reduceIte]
    ·simp only [Bool.true_and,eES,eEX,Nat.reduceBEq,Nat.reduceAdd]
     refine aops_call (c169 t ht) rfl rfl rfl (.inl rfl) ?_
     cases vld t
     ·simp only [Bool.not_false,eES,Nat.reduceBEq,↓reduceIte]
     ·have a4 : (k == 9) = false:=by
       rw [beq_iff_eq] at a3
       subst a3; rfl
      simp only [Bool.not_true,Bool.false_eq_true,eES,eEX,Nat.reduceBEq,↓reduceIte,Nat.reduceAdd,Nat.reduceLeDiff]
      refine aops_call hf rfl rfl rfl (.inl rfl) ?_
      cases fitv k kd b t l p s r
      ·simp only [Bool.not_false,eES,Nat.reduceBEq,↓reduceIte]
      ·simp only [Bool.not_true,a4,Bool.false_and,Bool.false_eq_true,eES,Nat.reduceBEq,↓reduceIte]
   ·simp only [eES,Nat.reduceBEq,↓reduceIte]
  ·simp only [eES,Nat.reduceBEq,↓reduceIte]
 ·simp only [Bool.true_or,eES,Nat.reduceBEq,↓reduceIte]

end
end Go.Proofs.YtelhohgmmhbahaaGreatDoor.Va

set_option linter.unusedSimpArgs false
namespace Go.Proofs.YtelhohgmmhbahaaGreatDoor.Va
open Go Am Rc Bt Br Up

def fei (f : Nat → Int) : Nat → Nat → Int
 | 0,_ => 0
 | k + 1,i => if f i = 0 then fei f k (i + 1) else f i

theorem fei_lt {f : Nat → Int} {n i : Nat} (h : i < n) : fei f (n - i) i = if f i = 0 then fei f (n - (i + 1)) (i + 1) else f i:=by
 rw [show n - i = (n - (i + 1)) + 1 by omega]
 rfl
theorem fei_go {f : Nat → Int} {n i : Nat} (h : i < n) (e : f i = 0) : fei f (n - i) i = fei f (n - (i + 1)) (i + 1):=by
 rw [fei_lt h,if_pos e]
theorem fei_st {f : Nat → Int} {n i : Nat} {v : Int} (h : i < n) (e : f i = v) (hv : v ≠ 0) : fei f (n - i) i = v:=by
 rw [fei_lt h,if_neg (by rw [e]; exact hv),e]
theorem fei_end {f : Nat → Int} {n i : Nat} (h : ¬ i < n) : fei f (n - i) i = 0:=by
 rw [show n - i = 0 by omega]
 rfl
theorem fei_zero {f : Nat → Int} : ∀ {k i : Nat},fei f k i = 0 → ∀ j,i ≤ j → j < i + k → f j = 0
 | 0,_,_,_,h1,h2 => by omega
 | k + 1,i,h,j,h1,h2 => by
  rw [fei] at h
  split at h
  ·rename_i h0
   by_cases e : j = i
   ·rw [e]; exact h0
   ·exact fei_zero h j (by omega) (by omega)
  ·rename_i h0
   exact absurd h h0

def _root_.Go.Proofs.YtelhohgmmhbahaaGreatDoor.Br.V.oth (v : V) : Bool:=Va.oth v.kd v.bits v.text (v.list.map V.av) (v.pairs.map V.pav) (v.slots.map V.sav) (v.raws.map R.av)
def _root_.Go.Proofs.YtelhohgmmhbahaaGreatDoor.Br.V.one (P : PL) (k tg : Int) (v : V) : Int:=onef P k tg v.kd v.bits v.text (v.list.map V.av) (v.pairs.map V.pav) (v.slots.map V.sav) (v.raws.map R.av)

theorem vo_av (v : V) : v.av = vo v.kd v.bits v.text (v.list.map V.av) (v.pairs.map V.pav) (v.slots.map V.sav) (v.raws.map R.av):=by
 rw [V.av,V.eta]; rfl

def gat (P : PL) (t : Int) : PG:=P.progs[t.toNat]?.getD ⟨[],[],0⟩
def keq (a b : V) : Bool:=a.bits == b.bits && a.text == b.text
def opq (g : PG) (n : Int) : Option PO:=g.ops.find? fun o => o.num == n

section
variable (m : PG → V → Int) (P : PL)
def elemF (o : PO) (v : V) : Int:=if o.kind = 10 then m (gat P o.target) v else v.one P o.kind o.target
def entF (o : PO) (ps : List (V × V)) (i : Nat) : Int:=match ps[i]? with
 | none => 0
 | some x => if x.1.one P o.key (-1) = 0 then (if (ps.take i).any (fun q => keq q.1 x.1) = true then 9 else elemF m P o x.2) else x.1.one P o.key (-1)
def lstF (o : PO) (l : List V) (i : Nat) : Int:=match l[i]? with
 | none => 0
 | some x => elemF m P o x
def fieldF (o : PO) (v : V) : Int :=
 if o.card = 5 then (if (v.kd != 12 || v.oth) = true then 12 else fei (entF m P o v.pairs) v.pairs.length 0)
 else if o.card = 4 then (if (v.kd != 11 || v.oth) = true then 12 else fei (lstF m P o v.list) v.list.length 0)
 else elemF m P o v
def uniF (g : PG) (o : PO) (y : Int × V) : Bool:=o.union != -1 && (((opq g y.1).getD PO0).union == o.union)
def slotF (g : PG) (sl : List (Int × V)) (i : Nat) : Int:=match sl[i]? with
 | none => 0
 | some x => match opq g x.1 with
  | none => 8
  | some o => if (sl.take i).any (fun y => y.1 == x.1) = true then 9 else if (sl.take i).any (uniF g o) = true then 15 else fieldF m P o x.2
def keptF (g : PG) (f : R) : Bool:=match opq g f.num with
 | none => true
 | some o => o.kind == 9 && o.card != 5 && f.wire == 0 && decide ((f.bits : Int) ≤ 2147483647) && !acp P.enums o.target f.bits
def rawF (g : PG) (f : R) : Int :=
 if (decide (f.num < 1) || decide (f.num > 65535) || decide (f.wire < 0) || decide (f.wire > 6)) = true then 1
 else if (decide (f.wire ≤ 2) && !(f.data == []) || decide (f.wire > 2) && !((f.bits : Int) == 0)) = true then 1
 else if (!keptF P g f) = true then 1
 else if (f.wire == 3 && decide ((f.data.length : Int) > 4096) || decide ((f.data.length : Int) > 65536)) = true then 3 else 0
def rawsF (g : PG) (l : List R) (i : Nat) : Int:=match l[i]? with
 | none => 0
 | some f => rawF P g f
def misF (g : PG) (sl : List (Int × V)) : Bool:=g.ops.any fun o => o.card == 1 && !sl.any fun y => y.1 == o.num
def bodyF (g : PG) (v : V) : Int :=
 if fei (slotF m P g v.slots) v.slots.length 0 = 0 then
  (if misF g v.slots = true then 14 else fei (rawsF P g v.raws) v.raws.length 0)
 else fei (slotF m P g v.slots) v.slots.length 0
end

theorem entF_at {m : PG → V → Int} {P : PL} {o : PO} {ps : List (V × V)} {i : Nat} {x : V × V} (h : ps[i]? = some x) :
  entF m P o ps i = if x.1.one P o.key (-1) = 0 then (if (ps.take i).any (fun q => keq q.1 x.1) = true then 9 else elemF m P o x.2) else x.1.one P o.key (-1):=by
 unfold entF
 rw [h]
theorem lstF_at {m : PG → V → Int} {P : PL} {o : PO} {l : List V} {i : Nat} {x : V} (h : l[i]? = some x) : lstF m P o l i = elemF m P o x:=by
 unfold lstF
 rw [h]
theorem rawsF_at {P : PL} {g : PG} {l : List R} {i : Nat} {x : R} (h : l[i]? = some x) : rawsF P g l i = rawF P g x:=by
 unfold rawsF
 rw [h]

def msgF (P : PL) : Nat → PG → V → Int
 | 0,_,v => if (v.kd != 10 || v.oth) = true then 12 else 17
 | n + 1,g,v => if (v.kd != 10 || v.oth) = true then 12 else bodyF (msgF P n) P g v

mutual
def _root_.Go.Proofs.YtelhohgmmhbahaaGreatDoor.Br.V.cnt : V → Nat
 | .mk _ _ _ l p s r => 1 + r.length + cntL l + cntP p + cntS s
def cntL : List V → Nat
 | [] => 0
 | x :: l => x.cnt + cntL l
def cntP : List (V × V) → Nat
 | [] => 0
 | (a,b) :: l => a.cnt + b.cnt + cntP l
def cntS : List (Int × V) → Nat
 | [] => 0
 | (_,a) :: l => a.cnt + cntS l
end

theorem cnt_eq : ∀ v : V,v.cnt = 1 + v.raws.length + cntL v.list + cntP v.pairs + cntS v.slots
 | .mk k b t l p s r => by rw [V.cnt]; rfl

theorem cntL_snoc {l : List V} {i : Nat} {x : V} (h : l[i]? = some x) : cntL (l.take (i + 1)) = cntL (l.take i) + x.cnt:=by
 induction l generalizing i with
 | nil => simp at h
 | cons y l ih =>
  cases i with
  | zero => simp at h; subst h; simp [cntL]
  | succ i =>
   simp only [List.take_succ_cons,cntL]
   rw [ih (by simpa using h)]; omega
theorem cntP_snoc {l : List (V × V)} {i : Nat} {x : V × V} (h : l[i]? = some x) : cntP (l.take (i + 1)) = cntP (l.take i) + (x.1.cnt + x.2.cnt):=by
 induction l generalizing i with
 | nil => simp at h
 | cons y l ih =>
  obtain ⟨y1,y2⟩:=y
  cases i with
  | zero => simp at h; subst h; simp [cntP]
  | succ i =>
   simp only [List.take_succ_cons,cntP]
   rw [ih (by simpa using h)]; omega
theorem cntS_snoc {l : List (Int × V)} {i : Nat} {x : Int × V} (h : l[i]? = some x) : cntS (l.take (i + 1)) = cntS (l.take i) + x.2.cnt:=by
 induction l generalizing i with
 | nil => simp at h
 | cons y l ih =>
  obtain ⟨y1,y2⟩:=y
  cases i with
  | zero => simp at h; subst h; simp [cntS]
  | succ i =>
   simp only [List.take_succ_cons,cntS]
   rw [ih (by simpa using h)]; omega

inductive Thin : V → Prop
 | mk {v : V} (n : v.list.length + 2 * v.pairs.length + v.slots.length ≤ 1099511627776) (list : ∀ x ∈ v.list,Thin x) (keys : ∀ x ∈ v.pairs,Thin x.1) (vals : ∀ x ∈ v.pairs,Thin x.2) (slots : ∀ x ∈ v.slots,Thin x.2) : Thin v

theorem oth_nil {v : V} (h : v.oth = false) : (v.kd ≠ 11 → v.list = []) ∧ (v.kd ≠ 12 → v.pairs = []) ∧ (v.kd ≠ 10 → v.slots = []):=by
 unfold V.oth Va.oth at h
 simp only [Bool.or_eq_false_iff,Bool.and_eq_false_iff,bne_eq_false_iff_eq,decide_eq_false_iff_not,List.length_map] at h
 obtain ⟨⟨⟨⟨h1,h2⟩,h3⟩,_⟩,_⟩:=h
 refine ⟨fun h => ?_,fun h => ?_,fun h => ?_⟩
 ·rcases h1 with h1 | h1
  ·exact absurd h1 h
  ·exact List.length_eq_zero_iff.1 (by omega)
 ·rcases h2 with h2 | h2
  ·exact absurd h2 h
  ·exact List.length_eq_zero_iff.1 (by omega)
 ·rcases h3 with h3 | h3
  ·exact absurd h3 h
  ·exact List.length_eq_zero_iff.1 (by omega)

theorem one_kd {P : PL} {k tg : Int} {v : V} (h : v.one P k tg = 0) : v.kd = k ∧ v.oth = false ∧ fitv k v.kd v.bits v.text (v.list.map V.av) (v.pairs.map V.pav) (v.slots.map V.sav) (v.raws.map R.av) = true:=by
 unfold V.one onef at h
 split at h
 ·omega
 ·rename_i h1
  split at h
  ·omega
  ·split at h
   ·omega
   ·split at h
    ·omega
    ·rename_i h2
     simp only [Bool.not_eq_true,Bool.or_eq_false_iff,bne_eq_false_iff_eq] at h1
     exact ⟨h1.1,h1.2,by simpa using h2⟩

theorem fitv_isk {k kd : Int} {b : Nat} {t : List UInt8} {l p s r : List AV} (h : fitv k kd b t l p s r = true) : isk k = true:=by
 unfold fitv at h
 simp only [Bool.and_eq_true] at h
 exact h.1.1.1.1.1.1

theorem isk_ne {k : Int} (h : isk k = true) : k ≠ 10 ∧ k ≠ 11 ∧ k ≠ 12:=by
 unfold isk at h
 simp only [Bool.and_eq_true,decide_eq_true_eq] at h
 omega

theorem thin_one {P : PL} {k tg : Int} {v : V} (h : v.one P k tg = 0) : Thin v:=by
 obtain ⟨h1,h2,h3⟩:=one_kd h
 obtain ⟨i1,i2,i3⟩:=isk_ne (fitv_isk h3)
 obtain ⟨o1,o2,o3⟩:=oth_nil h2
 rw [← h1] at i1 i2 i3
 refine .mk ?_ ?_ ?_ ?_ ?_
 ·rw [o1 i2,o2 i3,o3 i1]; simp
 ·rw [o1 i2]; simp
 ·rw [o2 i3]; simp
 ·rw [o2 i3]; simp
 ·rw [o3 i1]; simp

theorem thin_msg {P : PL} {M : Nat} : ∀ (n : Nat) (g : PG) (v : V),v.ok M → msgF P n g v = 0 → Thin v:=by
 intro n
 induction n with
 | zero =>
  intro g v _ h
  unfold msgF at h
  split at h <;> omega
 | succ n ih =>
  intro g v hv h
  unfold msgF at h
  split at h
  ·omega
  rename_i h0
  simp only [Bool.not_eq_true,Bool.or_eq_false_iff,bne_eq_false_iff_eq] at h0
  obtain ⟨o1,o2,o3⟩:=oth_nil h0.2
  have e1:=o1 (by omega)
  have e2:=o2 (by omega)
  unfold bodyF at h
  have hs : fei (slotF (msgF P n) P g v.slots) v.slots.length 0 = 0:=by
   split at h
   ·assumption
   ·exact h
  refine .mk ?_ (by rw [e1]; simp) (by rw [e2]; simp) (by rw [e2]; simp) ?_
  ·rw [e1,e2]
   have:=hv.ns
   simp; omega
  ·intro x hx
   obtain ⟨i,hi⟩:=List.mem_iff_getElem?.1 hx
   have hlt:=(List.getElem?_eq_some_iff.1 hi).1
   have h1:=fei_zero hs i (Nat.zero_le _) (by omega)
   unfold slotF at h1
   rw [hi] at h1
   dsimp only at h1
   split at h1
   ·omega
   rename_i o _
   split at h1
   ·omega
   split at h1
   ·omega
   have hx2:=hv.slots x hx
   have helem : ∀ y : V,y.ok M → elemF (msgF P n) P o y = 0 → Thin y:=by
    intro y hy he
    unfold elemF at he
    split at he
    ·exact ih _ _ hy he
    ·exact thin_one he
   unfold fieldF at h1
   split at h1
   ·split at h1
    ·omega
    rename_i h2
    simp only [Bool.not_eq_true,Bool.or_eq_false_iff,bne_eq_false_iff_eq] at h2
    obtain ⟨o1,o2,o3⟩:=oth_nil h2.2
    have e1:=o1 (by omega)
    have e3:=o3 (by omega)
    have hp : ∀ y ∈ x.2.pairs,Thin y.1 ∧ Thin y.2:=by
     intro y hy
     obtain ⟨j,hj⟩:=List.mem_iff_getElem?.1 hy
     have hlt:=(List.getElem?_eq_some_iff.1 hj).1
     have h3:=fei_zero h1 j (Nat.zero_le _) (by omega)
     unfold entF at h3
     rw [hj] at h3
     dsimp only at h3
     split at h3
     ·rename_i hk
      split at h3
      ·omega
      ·exact ⟨thin_one hk,helem _ (hx2.vals y hy) h3⟩
     ·rename_i hk
      exact absurd h3 hk
    refine .mk ?_ (by rw [e1]; simp) (fun y hy => (hp y hy).1) (fun y hy => (hp y hy).2) (by rw [e3]; simp)
    rw [e1,e3]
    have:=hx2.np
    simp; omega
   ·split at h1
    ·split at h1
     ·omega
     rename_i h2
     simp only [Bool.not_eq_true,Bool.or_eq_false_iff,bne_eq_false_iff_eq] at h2
     obtain ⟨o1,o2,o3⟩:=oth_nil h2.2
     have e2:=o2 (by omega)
     have e3:=o3 (by omega)
     refine .mk ?_ ?_ (by rw [e2]; simp) (by rw [e2]; simp) (by rw [e3]; simp)
     ·rw [e2,e3]
      have:=hx2.nl
      simp; omega
     ·intro y hy
      obtain ⟨j,hj⟩:=List.mem_iff_getElem?.1 hy
      have hlt:=(List.getElem?_eq_some_iff.1 hj).1
      have h3:=fei_zero h1 j (Nat.zero_le _) (by omega)
      unfold lstF at h3
      rw [hj] at h3
      exact helem _ (hx2.list y hy) h3
    ·exact helem _ hx2 h1

end Go.Proofs.YtelhohgmmhbahaaGreatDoor.Va

set_option linter.unusedSimpArgs false
namespace Go.Proofs.YtelhohgmmhbahaaGreatDoor.Va
open Go Am Rc Bt Br

def kv (k : Int) (b : Nat) (t : List UInt8) : AV:=.agg [.int .i64 k,.int .u64 (b : Nat),.str t,.list [],.list [],.list [],.list []]
def keyk (k : Int) : Prop:=(1 ≤ k ∧ k ≤ 5) ∨ k = 7

theorem keyk.isk {k : Int} (h : keyk k) : isk k = true:=by
 rcases h with h | rfl
 ·simp [Va.isk]; omega
 ·rfl

theorem bless_self : ∀ s : List UInt8,Op.bytesLess s s = false
 | [] => rfl
 | a :: l => by simp [Op.bytesLess,bless_self l]

theorem v124 (a : Int) : Fn1 Tryz.prog 124 [.int .i64 a] (.bool false):=by
 refine fn1_of_awp (rc:=r124) (rs:=o124) Tryz.func124 rfl rfl Tryz.ntmps124 k124 q124 (by simp) ?_
 simp only [g124_0,g124_1,r124,o124,bne_self_eq_false,eES,Nat.reduceBEq,↓reduceIte]

theorem v294 (a : Int) : Fn1 Tryz.prog 294 [.int .u64 a] (.bool false):=by
 refine fn1_of_awp (rc:=r294) (rs:=o294) Tryz.func294 rfl rfl Tryz.ntmps294 k294 q294 (by simp) ?_
 simp only [g294_0,g294_1,r294,o294,bne_self_eq_false,eES,Nat.reduceBEq,↓reduceIte]

theorem v293 (a : List UInt8) : Fn1 Tryz.prog 293 [.str a] (.bool false):=by
 have e : astr .neq a a = some (.bool false):=by simp [astr]
 refine fn1_of_awp (rc:=r293) (rs:=o293) Tryz.func293 rfl rfl Tryz.ntmps293 k293 q293 (by simp) ?_
 simp only [g293_0,g293_1,r293,o293,e,eES,Nat.reduceBEq]

def cN (a b : Int) : Int:=if a < b then -1 else if b < a then 1 else 0
theorem cN_zero {a b : Int} : cN a b = 0 ↔ a = b:=by
 unfold cN
 split
 ·omega
 ·split <;> omega

theorem v44 (a b : Int) : Fn1 Tryz.prog 44 [.int .i64 a,.int .i64 b] (.int .i64 (cN a b)):=by
 refine fn1_of_awp (rc:=r44) (rs:=o44) Tryz.func44 rfl rfl Tryz.ntmps44 k44 q44 (by simp) ?_
 simp only [g44_0,g44_1,g44_2,g44_3,g44_4,g44_5,g44_6,g44_7,g44_8,g44_9,g44_10,g44_11,g44_12,g44_13,r44,o44,eES,Nat.reduceBEq]
 refine aops_call (v124 a) rfl rfl rfl (.inl rfl) ?_
 simp only [eES,Nat.reduceBEq]
 refine aops_call (v124 b) rfl rfl rfl (.inl rfl) ?_
 simp only [eES,Nat.reduceBEq,↓reduceIte]
 by_cases h1 : a < b
 ·have d1 : decide (a < b) = true:=by simpa using h1
  simp only [d1,cN,if_pos h1,eES,Nat.reduceBEq]
 ·have d1 : decide (a < b) = false:=by simpa using h1
  by_cases h2 : b < a
  ·have d2 : decide (a > b) = true:=by simpa using h2
   simp only [d1,d2,cN,if_neg h1,if_pos h2,eES,Nat.reduceBEq,↓reduceIte]
  ·have d2 : decide (a > b) = false:=by simpa using h2
   simp only [d1,d2,cN,if_neg h1,if_neg h2,eES,Nat.reduceBEq,↓reduceIte]

theorem v269 (a b : Int) : Fn1 Tryz.prog 269 [.int .u64 a,.int .u64 b] (.int .i64 (cN a b)):=by
 refine fn1_of_awp (rc:=r269) (rs:=o269) Tryz.func269 rfl rfl Tryz.ntmps269 k269 q269 (by simp) ?_
 simp only [g269_0,g269_1,g269_2,g269_3,g269_4,g269_5,g269_6,g269_7,g269_8,g269_9,g269_10,g269_11,g269_12,g269_13,r269,o269,eES,Nat.reduceBEq]
 refine aops_call (v294 a) rfl rfl rfl (.inl rfl) ?_
 simp only [eES,Nat.reduceBEq]
 refine aops_call (v294 b) rfl rfl rfl (.inl rfl) ?_
 simp only [eES,Nat.reduceBEq,↓reduceIte]
 by_cases h1 : a < b
 ·have d1 : decide (a < b) = true:=by simpa using h1
  simp only [d1,cN,if_pos h1,eES,Nat.reduceBEq]
 ·have d1 : decide (a < b) = false:=by simpa using h1
  by_cases h2 : b < a
  ·have d2 : decide (a > b) = true:=by simpa using h2
   simp only [d1,d2,cN,if_neg h1,if_pos h2,eES,Nat.reduceBEq,↓reduceIte]
  ·have d2 : decide (a > b) = false:=by simpa using h2
   simp only [d1,d2,cN,if_neg h1,if_neg h2,eES,Nat.reduceBEq,↓reduceIte]

def cS (a b : List UInt8) : Int:=if Op.bytesLess a b = true then -1 else if a == b then 0 else 1
theorem cS_zero {a b : List UInt8} : cS a b = 0 ↔ a = b:=by
 unfold cS
 constructor
 ·intro h
  split at h
  ·omega
  ·split at h
   ·rename_i h2; simpa using h2
   ·omega
 ·rintro rfl
  simp [bless_self]

theorem v268 (a b : List UInt8) : Fn1 Tryz.prog 268 [.str a,.str b] (.int .i64 (cS a b)):=by
 refine fn1_of_awp (rc:=r268) (rs:=o268) Tryz.func268 rfl rfl Tryz.ntmps268 k268 q268 (by simp) ?_
 simp only [g268_0,g268_1,g268_2,g268_3,g268_4,g268_5,g268_6,g268_7,g268_8,g268_9,g268_10,g268_11,g268_12,g268_13,r268,o268,eES,Nat.reduceBEq]
 refine aops_call (v293 a) rfl rfl rfl (.inl rfl) ?_
 simp only [eES,Nat.reduceBEq]
 refine aops_call (v293 b) rfl rfl rfl (.inl rfl) ?_
 simp only [astr,cS,eES,Nat.reduceBEq]
 cases h1 : Op.bytesLess a b
 ·cases h2 : (a == b) <;> simp only [astr,h1,h2,Bool.false_or,Bool.not_true,Bool.not_false,Bool.false_eq_true,eES,Nat.reduceBEq,↓reduceIte]
 ·simp only [eES,Nat.reduceBEq,↓reduceIte]

def cmi (k : Int) (a : Nat) (s : List UInt8) (b : Nat) (t : List UInt8) : Int :=
 if txk k = true then cS s t else if (k == 2 || k == 3) = true then cN (IntKind.i64.wrap (a : Int)) (IntKind.i64.wrap (b : Int)) else cN (a : Int) (b : Int)

theorem v226 (k : Int) (hk : keyk k) (a b : Nat) (s t : List UInt8) : Fn1 Tryz.prog 226 [kv k a s,kv k b t] (.int .i64 (cmi k a s b t)):=by
 have hi:=hk.isk
 have k6 : (k == 6) = false:=by
  rcases hk with h | rfl
  ·simp; omega
  ·rfl
 refine fn1_of_awp (rc:=r226) (rs:=o226) Tryz.func226 rfl rfl Tryz.ntmps226 k226 q226 (by simp) ?_
 simp only [g226_0,g226_1,g226_2,g226_3,g226_4,g226_5,g226_6,g226_7,g226_8,g226_9,g226_10,g226_11,r226,o226,kv,cmi,bne_self_eq_false,eES,eEX,Nat.reduceBEq,↓reduceIte,Nat.reduceAdd]
 refine aops_call (x159 k) rfl rfl rfl (.inl rfl) ?_
 simp only [hi,eES,eEX,Nat.reduceBEq,Nat.reduceAdd]
 refine aops_call (x235 k) rfl rfl rfl (.inl rfl) ?_
 cases h1 : txk k
 ·simp only [Bool.false_eq_true,eES,eEX,Nat.reduceBEq,↓reduceIte,Nat.reduceAdd]
  cases h2 : (k == 2)
  ·cases h3 : (k == 3)
   ·simp only [h3,k6,Bool.or_false,Bool.false_eq_true,eES,eEX,Nat.reduceBEq,↓reduceIte,Nat.reduceAdd]
    refine aops_call (v269 _ _) rfl rfl rfl (.inl rfl) ?_
    simp only [eES,Nat.reduceBEq]
   ·simp only [h3,Bool.false_or,eES,eEX,Nat.reduceBEq,↓reduceIte,Nat.reduceAdd]
    refine aops_call (v44 _ _) rfl rfl rfl (.inl rfl) ?_
    simp only [eES,Nat.reduceBEq]
  ·simp only [Bool.true_or,eES,eEX,Nat.reduceBEq,↓reduceIte,Nat.reduceAdd]
   refine aops_call (v44 _ _) rfl rfl rfl (.inl rfl) ?_
   simp only [eES,Nat.reduceBEq]
 ·simp only [eES,eEX,Nat.reduceBEq,↓reduceIte,Nat.reduceAdd]
  refine aops_call (v268 s t) rfl rfl rfl (.inl rfl) ?_
  simp only [eES,Nat.reduceBEq]

theorem v225 (k : Int) (hk : keyk k) (b : Nat) (t : List UInt8) : Fn1 Tryz.prog 225 [kv k b t] (.iface 215 (kv k b t)):=by
 have hi:=hk.isk
 refine fn1_of_awp (rc:=r225) (rs:=o225) Tryz.func225 rfl rfl Tryz.ntmps225 k225 q225 (by simp) ?_
 simp only [g225_0,g225_1,g225_2,g225_3,g225_4,g225_5,g225_6,g225_7,g225_8,g225_9,r225,o225,kv,eES,eEX,Nat.reduceBEq,Nat.reduceAdd]
 refine aops_call (x159 k) rfl rfl rfl (.inl rfl) ?_
 simp only [hi,eES,eEX,Nat.reduceBEq,↓reduceIte,Nat.reduceAdd,Nat.reduceLeDiff]

theorem v176 (k : Int) (hk : keyk k) (a b : Nat) (s t : List UInt8) : Fn1 Tryz.prog 176 [kv k a s,kv k b t] (.int .i64 (cmi k a s b t)):=by
 have h1:=v225 k hk a s
 have h2:=v225 k hk b t
 have h3:=v226 k hk a b s t
 simp only [kv] at h1 h2 h3
 refine fn1_of_awp (rc:=r176) (rs:=o176) Tryz.func176 rfl rfl Tryz.ntmps176 k176 q176 (by simp) ?_
 simp only [g176_0,g176_1,g176_2,g176_3,g176_4,g176_5,g176_6,g176_7,g176_8,g176_9,g176_10,g176_11,g176_12,g176_13,g176_14,g176_15,g176_16,g176_18,r176,o176,kv,bne_self_eq_false,eES,eEX,Nat.reduceBEq,↓reduceIte,Nat.reduceAdd,Nat.reduceLeDiff]
 refine aops_call h2 rfl rfl rfl (.inl rfl) ?_
 simp only [eES,eEX,Nat.reduceBEq,↓reduceIte,Nat.reduceAdd,Nat.reduceLeDiff]
 refine aops_call h1 rfl rfl rfl (.inl rfl) ?_
 simp only [eES,eEX,Nat.reduceBEq,↓reduceIte,Nat.reduceAdd,Nat.reduceLeDiff]
 refine aops_call h3 rfl rfl rfl (.inl rfl) ?_
 simp only [eES,Nat.reduceBEq]

theorem v177 (k : Int) (hk : keyk k) (a b : Nat) (s t : List UInt8) : Fn1 Tryz.prog 177 [kv k a s,kv k b t] (.bool (cmi k a s b t == 0)):=by
 have h1:=v176 k hk a b s t
 simp only [kv] at h1
 refine fn1_of_awp (rc:=r177) (rs:=o177) Tryz.func177 rfl rfl Tryz.ntmps177 k177 q177 (by simp) ?_
 simp only [g177_0,g177_1,r177,o177,kv,eES,eEX,Nat.reduceBEq,↓reduceIte,Nat.reduceAdd,Nat.reduceLeDiff]
 refine aops_call h1 rfl rfl rfl (.inl rfl) ?_
 simp only [eES,Nat.reduceBEq,↓reduceIte]

def rkk (k : Int) (b : Nat) : Int:=if (k == 2 || k == 3) = true then IntKind.u64.wrap ((b : Int) + 9223372036854775808) else (b : Int)

theorem v272 (k : Int) : Fn1 Tryz.prog 272 [.int .i64 k] (.bool (k == 2 || k == 3)):=by
 refine fn1_of_awp (rc:=r272) (rs:=o272) Tryz.func272 rfl rfl Tryz.ntmps272 k272 q272 (by simp) ?_
 simp only [g272_0,g272_1,r272,o272,eES,Nat.reduceBEq,↓reduceIte]
 cases h : (k == 2) <;> simp only [Bool.true_or,Bool.false_or,eES,Nat.reduceBEq,↓reduceIte]

theorem v239 (k : Int) (k6 : (k != 6) = true) (b : Nat) (t : List UInt8) : Fn1 Tryz.prog 239 [kv k b t] (.int .u64 (rkk k b)):=by
 refine fn1_of_awp (rc:=r239) (rs:=o239) Tryz.func239 rfl rfl Tryz.ntmps239 k239 q239 (by simp) ?_
 simp only [g239_0,g239_1,g239_2,g239_3,g239_4,g239_5,g239_6,g239_7,g239_8,g239_9,r239,o239,kv,eES,eEX,Nat.reduceBEq,Nat.reduceAdd]
 refine aops_call (v272 k) rfl rfl rfl (.inl rfl) ?_
 unfold rkk
 cases h1 : (k == 2 || k == 3)
 ·simp only [k6,Bool.false_eq_true,eES,eEX,Nat.reduceBEq,↓reduceIte,Nat.reduceAdd]
 ·simp only [eES,eEX,Nat.reduceBEq,↓reduceIte,Nat.reduceAdd]

def cmr (k : Int) (a : Nat) (s : List UInt8) (b : Nat) (t : List UInt8) : Int:=if txk k = true then cS s t else cN (rkk k a) (rkk k b)

theorem v187 (k : Int) (hk : keyk k) (a b : Nat) (s t : List UInt8) : Fn1 Tryz.prog 187 [kv k a s,kv k b t] (.int .i64 (cmr k a s b t)):=by
 have hi:=hk.isk
 have k6 : (k != 6) = true:=by
  rcases hk with h | rfl
  ·simp; omega
  ·rfl
 have d1 : decide (k < k) = false:=by simp
 have d2 : decide (k > k) = false:=by simp
 have hr:=v239 k k6 a s
 have hq:=v239 k k6 b t
 simp only [kv] at hr hq
 refine fn1_of_awp (rc:=r187) (rs:=o187) Tryz.func187 rfl rfl Tryz.ntmps187 k187 q187 (by simp) ?_
 simp only [g187_0,g187_1,g187_2,g187_3,g187_4,g187_5,g187_6,g187_7,g187_8,g187_9,g187_10,g187_11,g187_12,g187_13,g187_14,g187_15,g187_16,g187_17,r187,o187,kv,cmr,d1,eES,eEX,Nat.reduceBEq,↓reduceIte,Nat.reduceAdd]
 refine aops_call (x189 k) rfl rfl rfl (.inl rfl) ?_
 simp only [hi,eES,eEX,Nat.reduceBEq,Nat.reduceAdd]
 refine aops_call (x238 k) rfl rfl rfl (.inl rfl) ?_
 cases h2 : txk k
 ·simp only [Bool.false_eq_true,eES,eEX,Nat.reduceBEq,↓reduceIte,Nat.reduceAdd]
  refine aops_call (x238 k) rfl rfl rfl (.inl rfl) ?_
  simp only [h2,eES,eEX,Nat.reduceBEq,Nat.reduceAdd]
  refine aops_call (x238 k) rfl rfl rfl (.inl rfl) ?_
  simp only [h2,eES,eEX,Nat.reduceBEq,↓reduceIte,Nat.reduceAdd,Nat.reduceLeDiff]
  refine aops_call hr rfl rfl rfl (.inl rfl) ?_
  simp only [eES,eEX,Nat.reduceBEq,↓reduceIte,Nat.reduceAdd,Nat.reduceLeDiff]
  refine aops_call hq rfl rfl rfl (.inl rfl) ?_
  simp only [eES,Nat.reduceBEq,↓reduceIte]
  by_cases c1 : rkk k a < rkk k b
  ·have e1 : decide (rkk k a < rkk k b) = true:=decide_eq_true c1
   simp only [e1,cN,if_pos c1,eES,Nat.reduceBEq]
  ·have e1 : decide (rkk k a < rkk k b) = false:=decide_eq_false c1
   simp only [e1,cN,if_neg c1,eES,eEX,Nat.reduceBEq,↓reduceIte,Nat.reduceAdd,Nat.reduceLeDiff]
   refine aops_call hr rfl rfl rfl (.inl rfl) ?_
   simp only [eES,eEX,Nat.reduceBEq,↓reduceIte,Nat.reduceAdd,Nat.reduceLeDiff]
   refine aops_call hq rfl rfl rfl (.inl rfl) ?_
   by_cases c2 : rkk k b < rkk k a
   ·have e2 : decide (rkk k a > rkk k b) = true:=decide_eq_true c2
    simp only [e2,if_pos c2,eES,Nat.reduceBEq,↓reduceIte]
   ·have e2 : decide (rkk k a > rkk k b) = false:=decide_eq_false c2
    simp only [e2,if_neg c2,eES,Nat.reduceBEq,↓reduceIte]
 ·simp only [astr,cS,eES,eEX,Nat.reduceBEq,↓reduceIte,Nat.reduceAdd]
  cases h1 : Op.bytesLess s t
  ·simp only [Bool.false_eq_true,eES,eEX,Nat.reduceBEq,↓reduceIte,Nat.reduceAdd]
   refine aops_call (x238 k) rfl rfl rfl (.inl rfl) ?_
   cases h3 : (s == t)
   ·simp only [h1,h2,h3,astr,Bool.false_or,Bool.not_false,Bool.false_eq_true,eES,eEX,Nat.reduceBEq,↓reduceIte,Nat.reduceAdd]
   ·simp only [h1,h2,h3,astr,Bool.false_or,Bool.not_true,eES,eEX,Nat.reduceBEq,↓reduceIte,Nat.reduceAdd]
    refine aops_call (x238 k) rfl rfl rfl (.inl rfl) ?_
    simp only [h2,eES,Nat.reduceBEq]
  ·simp only [eES,Nat.reduceBEq,↓reduceIte]

theorem v125 (k : Int) (hk : keyk k) (a b : Nat) (s t : List UInt8) : Fn1 Tryz.prog 125 [kv k a s,kv k b t] (.int .i64 (cmr k a s b t)):=by
 have b1 : (k == 11) = false:=by rcases hk with h | rfl <;> simp <;> omega
 have b2 : (k == 12) = false:=by rcases hk with h | rfl <;> simp <;> omega
 have b3 : (k == 10) = false:=by rcases hk with h | rfl <;> simp <;> omega
 have hr:=v187 k hk a b s t
 simp only [kv] at hr
 refine fn1_of_awp (rc:=r125) (rs:=o125) Tryz.func125 rfl rfl Tryz.ntmps125 k125 q125 (by simp) ?_
 simp only [g125_0,g125_1,g125_2,g125_3,g125_4,g125_5,g125_6,g125_7,g125_8,g125_9,g125_10,g125_11,g125_12,g125_13,r125,o125,kv,bne_self_eq_false,b1,b2,b3,eES,eEX,Nat.reduceBEq,↓reduceIte,Nat.reduceAdd,Nat.reduceLeDiff]
 refine aops_call hr rfl rfl rfl (.inl rfl) ?_
 simp only [eES,Nat.reduceBEq]

theorem v45 (k : Int) (hk : keyk k) (a b : Nat) (s t : List UInt8) : Fn1 Tryz.prog 45 [kv k a s,kv k b t] (.bool (cmr k a s b t == 0)):=by
 have hr:=v125 k hk a b s t
 simp only [kv] at hr
 refine fn1_of_awp (rc:=r45) (rs:=o45) Tryz.func45 rfl rfl Tryz.ntmps45 k45 q45 (by simp) ?_
 simp only [g45_0,g45_1,r45,o45,kv,eES,eEX,Nat.reduceBEq,↓reduceIte,Nat.reduceAdd,Nat.reduceLeDiff]
 refine aops_call hr rfl rfl rfl (.inl rfl) ?_
 simp only [eES,Nat.reduceBEq,↓reduceIte]

theorem kv_of {v : V} {P : PL} {k tg : Int} (h : v.one P k tg = 0) : v.av = kv k v.bits v.text ∧ (txk k = true → (v.bits : Int) = 0) ∧ (txk k = false → v.text = []):=by
 obtain ⟨h1,_,h3⟩:=one_kd h
 rw [vo_av,h1]
 rw [h1] at h3
 unfold fitv lon at h3
 simp only [Bool.and_eq_true,beq_iff_eq] at h3
 obtain ⟨⟨⟨⟨⟨_,⟨⟨⟨e1,e2⟩,e3⟩,e4⟩⟩,h4⟩,_⟩,_⟩,_⟩:=h3
 have f1:=List.length_eq_zero_iff.1 (Int.ofNat_eq_zero.1 e1)
 have f2:=List.length_eq_zero_iff.1 (Int.ofNat_eq_zero.1 e2)
 have f3:=List.length_eq_zero_iff.1 (Int.ofNat_eq_zero.1 e3)
 have f4:=List.length_eq_zero_iff.1 (Int.ofNat_eq_zero.1 e4)
 rw [f1,f2,f3,f4]
 refine ⟨rfl,fun ht => ?_,fun ht => ?_⟩
 ·rw [if_pos ht] at h4; simpa using h4
 ·rw [if_neg (by simp [ht])] at h4; simpa using h4

theorem cmi_keq {x y : V} {P : PL} {k tg : Int} (_hk : keyk k) (hx : x.one P k tg = 0) (hy : y.one P k tg = 0) (bx : x.bits < 18446744073709551616) (bY : y.bits < 18446744073709551616) : (cmi k x.bits x.text y.bits y.text == 0) = keq x y:=by
 obtain ⟨_,x1,x2⟩:=kv_of hx
 obtain ⟨_,y1,y2⟩:=kv_of hy
 rw [Bool.eq_iff_iff,beq_iff_eq]
 unfold keq cmi
 simp only [Bool.and_eq_true,beq_iff_eq]
 split
 ·rename_i ht
  have:=x1 ht
  have:=y1 ht
  rw [cS_zero]
  exact ⟨fun h => ⟨by omega,h⟩,fun h => h.2⟩
 ·rename_i ht
  have ht : txk k = false:=by simpa using ht
  rw [x2 ht,y2 ht]
  split
  ·rw [cN_zero,wi64,wi64]
   exact ⟨fun h => ⟨by omega,rfl⟩,fun h => by rw [h.1]⟩
  ·rw [cN_zero]
   exact ⟨fun h => ⟨by omega,rfl⟩,fun h => by rw [h.1]⟩

theorem cmr_keq {x y : V} {P : PL} {k tg : Int} (_hk : keyk k) (hx : x.one P k tg = 0) (hy : y.one P k tg = 0) (bx : x.bits < 18446744073709551616) (bY : y.bits < 18446744073709551616) : (cmr k x.bits x.text y.bits y.text == 0) = keq x y:=by
 obtain ⟨_,x1,x2⟩:=kv_of hx
 obtain ⟨_,y1,y2⟩:=kv_of hy
 rw [Bool.eq_iff_iff,beq_iff_eq]
 unfold keq cmr
 simp only [Bool.and_eq_true,beq_iff_eq]
 split
 ·rename_i ht
  have:=x1 ht
  have:=y1 ht
  rw [cS_zero]
  exact ⟨fun h => ⟨by omega,h⟩,fun h => h.2⟩
 ·rename_i ht
  have ht : txk k = false:=by simpa using ht
  rw [x2 ht,y2 ht]
  unfold rkk
  split
  ·rw [cN_zero,wu64,wu64]
   exact ⟨fun h => ⟨by omega,rfl⟩,fun h => by rw [h.1]⟩
  ·rw [cN_zero]
   exact ⟨fun h => ⟨by omega,rfl⟩,fun h => by rw [h.1]⟩

end Go.Proofs.YtelhohgmmhbahaaGreatDoor.Va

set_option linter.unusedSimpArgs false
namespace Go.Proofs.YtelhohgmmhbahaaGreatDoor.Va
open Go Am Rc Bt Br Up

def vc (x : V) : List AV:=[.int .i64 x.kd,.int .u64 (x.bits : Nat),.str x.text,.list (x.list.map V.av),.list (x.pairs.map V.pav),.list (x.slots.map V.sav),.list (x.raws.map R.av)]
theorem av7 (x : V) : x.av = .agg [.int .i64 x.kd,.int .u64 (x.bits : Nat),.str x.text,.list (x.list.map V.av),.list (x.pairs.map V.pav),.list (x.slots.map V.sav),.list (x.raws.map R.av)]:=by
 rw [V.av,V.eta]
theorem pav14 (p : V × V) : V.pav p = .agg [.int .i64 p.1.kd,.int .u64 (p.1.bits : Nat),.str p.1.text,.list (p.1.list.map V.av),.list (p.1.pairs.map V.pav),.list (p.1.slots.map V.sav),.list (p.1.raws.map R.av),.int .i64 p.2.kd,.int .u64 (p.2.bits : Nat),.str p.2.text,.list (p.2.list.map V.av),.list (p.2.pairs.map V.pav),.list (p.2.slots.map V.sav),.list (p.2.raws.map R.av)]:=by
 rw [V.pav,V.eta,V.eta]; rfl
theorem sav8 (s : Int × V) : V.sav s = .agg [.int .i64 s.1,.int .i64 s.2.kd,.int .u64 (s.2.bits : Nat),.str s.2.text,.list (s.2.list.map V.av),.list (s.2.pairs.map V.pav),.list (s.2.slots.map V.sav),.list (s.2.raws.map R.av)]:=by
 rw [V.sav,V.eta]
theorem getV {l : List V} {i : Nat} {x : V} (h : l[i]? = some x) : (l.map V.av)[i]? = some (.agg [.int .i64 x.kd,.int .u64 (x.bits : Nat),.str x.text,.list (x.list.map V.av),.list (x.pairs.map V.pav),.list (x.slots.map V.sav),.list (x.raws.map R.av)]):=by
 rw [List.getElem?_map,h,Option.map_some,av7]
theorem getP {l : List (V × V)} {i : Nat} {p : V × V} (h : l[i]? = some p) : (l.map V.pav)[i]? = some (.agg [.int .i64 p.1.kd,.int .u64 (p.1.bits : Nat),.str p.1.text,.list (p.1.list.map V.av),.list (p.1.pairs.map V.pav),.list (p.1.slots.map V.sav),.list (p.1.raws.map R.av),.int .i64 p.2.kd,.int .u64 (p.2.bits : Nat),.str p.2.text,.list (p.2.list.map V.av),.list (p.2.pairs.map V.pav),.list (p.2.slots.map V.sav),.list (p.2.raws.map R.av)]):=by
 rw [List.getElem?_map,h,Option.map_some,pav14]
theorem getS {l : List (Int × V)} {i : Nat} {s : Int × V} (h : l[i]? = some s) : (l.map V.sav)[i]? = some (.agg [.int .i64 s.1,.int .i64 s.2.kd,.int .u64 (s.2.bits : Nat),.str s.2.text,.list (s.2.list.map V.av),.list (s.2.pairs.map V.pav),.list (s.2.slots.map V.sav),.list (s.2.raws.map R.av)]):=by
 rw [List.getElem?_map,h,Option.map_some,sav8]

structure UO (P : PL) (o : PO) : Prop where
 tgt : o.kind = 10 → 0 ≤ o.target ∧ o.target < (P.progs.length : Int)
 enm : o.kind = 9 → 0 ≤ o.target ∧ o.target < (P.enums.length : Int)
 key : o.card = 5 → keyk o.key
def Use (P : PL) : Prop:=∀ g ∈ P.progs,∀ o ∈ g.ops,UO P o

theorem use_of {P : PL} (h : ck P = 0) : Use P:=by
 unfold ck at h
 split at h
 ·omega
 split at h
 ·omega
 split at h
 ·omega
 split at h
 ·omega
 split at h
 ·omega
 split at h
 ·omega
 rename_i ha
 have ha : args P = true:=by simpa using ha
 intro g hg o ho
 unfold args at ha
 simp only [Bool.and_eq_true,List.all_eq_true] at ha
 have h1:=ha.1 g hg
 unfold argG at h1
 simp only [Bool.and_eq_true,List.all_eq_true] at h1
 have h2:=(h1.2 o ho).1
 unfold arg1 at h2
 simp only [Bool.and_eq_true,decide_eq_true_eq] at h2
 obtain ⟨⟨_,hk⟩,hm⟩:=h2
 refine ⟨fun h => ?_,fun h => ?_,fun h => ?_⟩
 ·unfold aim at hm
  rw [if_pos h] at hm
  simp only [Bool.and_eq_true,decide_eq_true_eq] at hm
  exact hm.1
 ·unfold aim at hm
  rw [if_neg (by omega),if_pos h] at hm
  simp only [Bool.and_eq_true,decide_eq_true_eq] at hm
  exact hm
 ·unfold Va.key at hk
  rw [if_pos h] at hk
  simp only [Bool.and_eq_true,decide_eq_true_eq,bne_iff_ne] at hk
  unfold keyk
  omega

section
variable {M : Nat} {P : PL} (hP : P.ok M) (hM : M ≤ 140737488351232) {m : PG → V → Int} {lv lv1 : Int} (hw : IntKind.i64.wrap (lv + 1) = lv1)

include hP in
theorem one_i (k tg : Int) {v : V} (hv : v.ok M) : Fn1 Tryz.prog 240 [P.av,.int .i64 k,.int .i64 tg,v.av] (.int .i64 (v.one P k tg)):=by
 rw [vo_av]
 exact z240 P hP k tg _ _ _ _ _ _ _ (by have:=hv.nl; simp; omega) (by have:=hv.np; simp; omega) (by have:=hv.ns; simp; omega) (by have:=hv.nr; simp; omega)

include hP hM in
theorem one_r (k tg : Int) {v : V} (hv : v.ok M) : Fn1 Tryz.prog 194 [P.av,.int .i64 k,.int .i64 tg,v.av] (.int .i64 (v.one P k tg)):=by
 rw [vo_av]
 exact z194 P hP k tg _ _ _ _ _ _ _ (by have:=hv.text; simp only [maxLen]; omega) (by have:=hv.ns; simp; omega) (by have:=hv.nr; simp; omega)

include hP hw in
theorem v191 (hm : ∀ g ∈ P.progs,∀ v : V,v.ok M → Fn1 Tryz.prog 18 [P.av,gav g,v.av,.int .i64 lv1] (.int .i64 (m g v))) (o : PO) (ho : UO P o) (v : V) (hv : v.ok M) :
  Fn1 Tryz.prog 191 [P.av,oav o,v.av,.int .i64 lv] (.int .i64 (elemF m P o v)):=by
 have e0 : P.av = .agg [.list (P.progs.map gav),.list (P.enums.map eav)]:=rfl
 have h1:=one_i hP o.kind o.target hv
 rw [e0,av7] at h1
 rw [av7]
 refine fn1_of_awp (rc:=r191) (rs:=o191) Tryz.func191 rfl rfl Tryz.ntmps191 k191 q191 (by simp) ?_
 simp only [g191_0,g191_1,g191_2,g191_3,r191,o191,e0,oav,PO.cells,elemF,eES,eEX,Nat.reduceBEq,↓reduceIte,Nat.reduceAdd]
 by_cases hk : o.kind = 10
 ·have b : (o.kind == 10) = true:=by simp [hk]
  obtain ⟨t0,t1⟩:=ho.tgt hk
  obtain ⟨i,hi⟩:=Int.eq_ofNat_of_zero_le t0
  have hlt : i < P.progs.length:=by omega
  obtain ⟨g,hg⟩ : ∃ g,P.progs[i]? = some g:=⟨P.progs[i],List.getElem?_eq_getElem hlt⟩
  have hga : (P.progs.map gav)[i]? = some (.agg g.cells):=by simp [hg,gav]
  have hq : gat P o.target = g:=by unfold gat; rw [hi,Int.toNat_natCast,hg]; rfl
  have h2:=hm g (List.mem_of_getElem? hg) v hv
  rw [e0,av7] at h2
  simp only [gav,PG.cells] at h2
  simp only [PG.cells] at hga
  rw [if_pos hk,hq]
  simp only [b,hi,nneg,Int.toNat_natCast,aiaddr,hga,hw,eES,eEX,Nat.reduceBEq,↓reduceIte,Nat.reduceAdd,Nat.reduceLeDiff]
  refine aops_call h2 rfl rfl rfl (.inl rfl) ?_
  simp only [eES,Nat.reduceBEq]
 ·have b : (o.kind == 10) = false:=by simp [hk]
  rw [if_neg hk]
  simp only [b,eES,eEX,Nat.reduceBEq,↓reduceIte,Nat.reduceAdd,Nat.reduceLeDiff]
  refine aops_call h1 rfl rfl rfl (.inl rfl) ?_
  simp only [eES,Nat.reduceBEq]

include hP hM hw in
theorem v136 (hm : ∀ (t : Int) (g : PG),P.progs[t.toNat]? = some g → 0 ≤ t → ∀ v : V,v.ok M → Fn1 Tryz.prog 20 [P.av,.int .i64 t,v.av,.int .i64 lv1] (.int .i64 (m g v))) (o : PO) (ho : UO P o) (v : V) (hv : v.ok M) :
  Fn1 Tryz.prog 136 [P.av,oav o,v.av,.int .i64 lv] (.int .i64 (elemF m P o v)):=by
 have e0 : P.av = .agg [.list (P.progs.map gav),.list (P.enums.map eav)]:=rfl
 have h1:=one_r hP hM o.kind o.target hv
 rw [e0,av7] at h1
 rw [av7]
 refine fn1_of_awp (rc:=r136) (rs:=o136) Tryz.func136 rfl rfl Tryz.ntmps136 k136 q136 (by simp) ?_
 simp only [g136_0,g136_1,g136_2,g136_3,r136,o136,e0,oav,PO.cells,elemF,eES,eEX,Nat.reduceBEq,↓reduceIte,Nat.reduceAdd]
 by_cases hk : o.kind = 10
 ·have b : (o.kind == 10) = true:=by simp [hk]
  obtain ⟨t0,t1⟩:=ho.tgt hk
  obtain ⟨g,hg⟩ : ∃ g,P.progs[o.target.toNat]? = some g:=⟨P.progs[o.target.toNat]'(by omega),List.getElem?_eq_getElem (by omega)⟩
  have hq : gat P o.target = g:=by unfold gat; rw [hg]; rfl
  have h2:=hm o.target g hg t0 v hv
  rw [e0,av7] at h2
  rw [if_pos hk,hq]
  simp only [b,hw,eES,eEX,Nat.reduceBEq,↓reduceIte,Nat.reduceAdd,Nat.reduceLeDiff]
  refine aops_call h2 rfl rfl rfl (.inl rfl) ?_
  simp only [eES,Nat.reduceBEq]
 ·have b : (o.kind == 10) = false:=by simp [hk]
  rw [if_neg hk]
  simp only [b,eES,eEX,Nat.reduceBEq,↓reduceIte,Nat.reduceAdd,Nat.reduceLeDiff]
  refine aops_call h1 rfl rfl rfl (.inl rfl) ?_
  simp only [eES,Nat.reduceBEq]

end

section pairs
variable (L : List (V × V)) (hl : L.length ≤ maxLen) (p : V × V → Bool) (c : Nat) (cap : AV) (m : Mem)

def IxPr (k : Nat) (st : St) : Prop :=
 ∃ f i,st = ⟨f,noObs :: m,[]⟩ ∧ k = L.length - i ∧ fxi p L 0 = fxi p (L.drop i) i ∧ f 0 = .list (L.map V.pav) ∧ f 1 = .fn (.func c) [] [cap.sh] ∧ f 7 = .int .i64 (L.length : Nat) ∧ f 8 = .int .i64 (i : Nat)

include hl in
theorem v273 (hc : ∀ o ∈ L,ACalls Tryz.prog c [V.pav o,cap.sh] (noObs :: m) fun y m1 => y = .bool (p o) ∧ m1 = noObs :: m) :
  ACalls Tryz.prog 273 [.list (L.map V.pav),.fn (.func c) [] [cap]] m fun y m1 => y = .int .i64 (fxi p L 0) ∧ m1 = m:=by
 refine acalls_of_awp (rc:=r273) (rs:=o273) Tryz.func273 rfl rfl Tryz.ntmps273 k273 q273 (by simp) ?_
 simp only [g273_0,g273_1,g273_7,r273,o273,List.length_map,eES,Nat.reduceBEq]
 refine awp_loop (IxPr L p c cap m) _ ⟨_,0,rfl,rfl,rfl,(by first | rfl | simp only [eES,eEX,Nat.reduceBEq,↓reduceIte,reduceCtorEq,Nat.reduceEqDiff]),(by first | rfl | simp only [eES,eEX,Nat.reduceBEq,↓reduceIte,reduceCtorEq,Nat.reduceEqDiff]),(by first | rfl | simp only [eES,eEX,Nat.reduceBEq,↓reduceIte,reduceCtorEq,Nat.reduceEqDiff]),(by first | rfl | simp only [eES,eEX,Nat.reduceBEq,↓reduceIte,reduceCtorEq,Nat.reduceEqDiff])⟩ ?_
 rintro _ st ⟨f,i,rfl,rfl,hx,h0,h1,h7,h8⟩
 simp only [l273_0,g273_2,g273_3,g273_4,g273_5,g273_6,h7,h8,eES,Nat.reduceBEq,↓reduceIte]
 by_cases hlt : i < L.length
 ·obtain ⟨x,hi⟩ : ∃ x,L[i]? = some x:=⟨L[i],List.getElem?_eq_getElem hlt⟩
  have hcl:=hc x (List.mem_of_getElem? hi)
  have hg:=getP hi
  have e1:=wi64_s i _ hlt hl
  rw [pav14] at hcl
  simp only [lt_t hlt,nneg,Int.toNat_natCast,aiaddr,hg,h0,h1,h8,eES,eEX,Nat.reduceBEq,↓reduceIte,Nat.reduceAdd,Nat.reduceLeDiff]
  refine aops_callV (fa:=[]) (fb:=[cap.sh]) (by first | rfl | exact h1 | simp only [h1,eES,eEX,Nat.reduceBEq,↓reduceIte,reduceCtorEq,Nat.reduceEqDiff]) hcl (by simp only [List.map_cons,List.map_nil,List.nil_append,List.cons_append,eES,Nat.reduceBEq]) ?_
  rw [fxi_drop p hi] at hx
  cases hp : p x
  ·rw [hp] at hx
   simp only [Bool.false_eq_true,if_false] at hx
   simp only [h8,e1,eES,Nat.reduceBEq,↓reduceIte]
   exact ⟨L.length - (i + 1),by omega,_,i + 1,rfl,rfl,hx,(by first | rfl | exact h0 | simp only [h0,eES,eEX,Nat.reduceBEq,↓reduceIte,reduceCtorEq,Nat.reduceEqDiff]),(by first | rfl | exact h1 | simp only [h1,eES,eEX,Nat.reduceBEq,↓reduceIte,reduceCtorEq,Nat.reduceEqDiff]),(by first | rfl | exact h7 | simp only [h7,eES,eEX,Nat.reduceBEq,↓reduceIte,reduceCtorEq,Nat.reduceEqDiff]),(by first | rfl | simp only [eES,eEX,Nat.reduceBEq,↓reduceIte,reduceCtorEq,Nat.reduceEqDiff])⟩
  ·rw [hp] at hx
   simp only [if_true] at hx
   simp only [hx,eES,Nat.reduceBEq]
 ·have hx' : fxi p L 0 = -1:=by rw [hx,List.drop_of_length_le (by omega)]; rfl
  simp only [lt_f hlt,hx',eES,Nat.reduceBEq,↓reduceIte]

include hl in
theorem v241 (hc : ∀ o ∈ L,ACalls Tryz.prog c [V.pav o,cap.sh.sh] (noObs :: noObs :: m) fun y m1 => y = .bool (p o) ∧ m1 = noObs :: noObs :: m) :
  ACalls Tryz.prog 241 [.list (L.map V.pav),.fn (.func c) [] [cap]] m fun y m1 => y = .bool (L.any p) ∧ m1 = m:=by
 refine acalls_of_awp (rc:=r241) (rs:=o241) Tryz.func241 rfl rfl Tryz.ntmps241 k241 q241 (by simp) ?_
 simp only [g241_0,g241_1,r241,o241,eES,Nat.reduceBEq]
 refine aops_callF (v273 L hl p c cap.sh _ hc) (by simp only [List.map_cons,List.map_nil,eES,Nat.reduceBEq]) ?_
 simp only [fxi_any,eES,Nat.reduceBEq,↓reduceIte]

end pairs

section slots
variable (L : List (Int × V)) (hl : L.length ≤ maxLen) (p : Int × V → Bool) (c : Nat) (cap : AV) (m : Mem)

def IxSl (k : Nat) (st : St) : Prop :=
 ∃ f i,st = ⟨f,noObs :: m,[]⟩ ∧ k = L.length - i ∧ fxi p L 0 = fxi p (L.drop i) i ∧ f 0 = .list (L.map V.sav) ∧ f 1 = .fn (.func c) [] [cap.sh] ∧ f 7 = .int .i64 (L.length : Nat) ∧ f 8 = .int .i64 (i : Nat)

include hl in
theorem v132 (hc : ∀ o ∈ L,ACalls Tryz.prog c [V.sav o,cap.sh] (noObs :: m) fun y m1 => y = .bool (p o) ∧ m1 = noObs :: m) :
  ACalls Tryz.prog 132 [.list (L.map V.sav),.fn (.func c) [] [cap]] m fun y m1 => y = .int .i64 (fxi p L 0) ∧ m1 = m:=by
 refine acalls_of_awp (rc:=r132) (rs:=o132) Tryz.func132 rfl rfl Tryz.ntmps132 k132 q132 (by simp) ?_
 simp only [g132_0,g132_1,g132_7,r132,o132,List.length_map,eES,Nat.reduceBEq]
 refine awp_loop (IxSl L p c cap m) _ ⟨_,0,rfl,rfl,rfl,(by first | rfl | simp only [eES,eEX,Nat.reduceBEq,↓reduceIte,reduceCtorEq,Nat.reduceEqDiff]),(by first | rfl | simp only [eES,eEX,Nat.reduceBEq,↓reduceIte,reduceCtorEq,Nat.reduceEqDiff]),(by first | rfl | simp only [eES,eEX,Nat.reduceBEq,↓reduceIte,reduceCtorEq,Nat.reduceEqDiff]),(by first | rfl | simp only [eES,eEX,Nat.reduceBEq,↓reduceIte,reduceCtorEq,Nat.reduceEqDiff])⟩ ?_
 rintro _ st ⟨f,i,rfl,rfl,hx,h0,h1,h7,h8⟩
 simp only [l132_0,g132_2,g132_3,g132_4,g132_5,g132_6,h7,h8,eES,Nat.reduceBEq,↓reduceIte]
 by_cases hlt : i < L.length
 ·obtain ⟨x,hi⟩ : ∃ x,L[i]? = some x:=⟨L[i],List.getElem?_eq_getElem hlt⟩
  have hcl:=hc x (List.mem_of_getElem? hi)
  have hg:=getS hi
  have e1:=wi64_s i _ hlt hl
  rw [sav8] at hcl
  simp only [lt_t hlt,nneg,Int.toNat_natCast,aiaddr,hg,h0,h1,h8,eES,eEX,Nat.reduceBEq,↓reduceIte,Nat.reduceAdd,Nat.reduceLeDiff]
  refine aops_callV (fa:=[]) (fb:=[cap.sh]) (by first | rfl | exact h1 | simp only [h1,eES,eEX,Nat.reduceBEq,↓reduceIte,reduceCtorEq,Nat.reduceEqDiff]) hcl (by simp only [List.map_cons,List.map_nil,List.nil_append,List.cons_append,eES,Nat.reduceBEq]) ?_
  rw [fxi_drop p hi] at hx
  cases hp : p x
  ·rw [hp] at hx
   simp only [Bool.false_eq_true,if_false] at hx
   simp only [h8,e1,eES,Nat.reduceBEq,↓reduceIte]
   exact ⟨L.length - (i + 1),by omega,_,i + 1,rfl,rfl,hx,(by first | rfl | exact h0 | simp only [h0,eES,eEX,Nat.reduceBEq,↓reduceIte,reduceCtorEq,Nat.reduceEqDiff]),(by first | rfl | exact h1 | simp only [h1,eES,eEX,Nat.reduceBEq,↓reduceIte,reduceCtorEq,Nat.reduceEqDiff]),(by first | rfl | exact h7 | simp only [h7,eES,eEX,Nat.reduceBEq,↓reduceIte,reduceCtorEq,Nat.reduceEqDiff]),(by first | rfl | simp only [eES,eEX,Nat.reduceBEq,↓reduceIte,reduceCtorEq,Nat.reduceEqDiff])⟩
  ·rw [hp] at hx
   simp only [if_true] at hx
   simp only [hx,eES,Nat.reduceBEq]
 ·have hx' : fxi p L 0 = -1:=by rw [hx,List.drop_of_length_le (by omega)]; rfl
  simp only [lt_f hlt,hx',eES,Nat.reduceBEq,↓reduceIte]

include hl in
theorem v51 (hc : ∀ o ∈ L,ACalls Tryz.prog c [V.sav o,cap.sh.sh] (noObs :: noObs :: m) fun y m1 => y = .bool (p o) ∧ m1 = noObs :: noObs :: m) :
  ACalls Tryz.prog 51 [.list (L.map V.sav),.fn (.func c) [] [cap]] m fun y m1 => y = .bool (L.any p) ∧ m1 = m:=by
 refine acalls_of_awp (rc:=r51) (rs:=o51) Tryz.func51 rfl rfl Tryz.ntmps51 k51 q51 (by simp) ?_
 simp only [g51_0,g51_1,r51,o51,eES,Nat.reduceBEq]
 refine aops_callF (v132 L hl p c cap.sh _ hc) (by simp only [List.map_cons,List.map_nil,eES,Nat.reduceBEq]) ?_
 simp only [fxi_any,eES,Nat.reduceBEq,↓reduceIte]

end slots

end Go.Proofs.YtelhohgmmhbahaaGreatDoor.Va

set_option linter.unusedSimpArgs false
namespace Go.Proofs.YtelhohgmmhbahaaGreatDoor.Va
open Go Am Rc Bt Br Up

theorem bits_lt {M : Nat} {v : V} (h : v.ok M) : v.bits < 18446744073709551616:=by
 have:=u64_hi h.bits
 omega

section
variable {M : Nat} {P : PL} (hP : P.ok M) (hM : M ≤ 140737488351232) {m : PG → V → Int} {lv : Int} (o : PO) (ho : UO P o) (h5 : o.card = 5) (ps : List (V × V)) (hn : ps.length ≤ maxLen) (hk : ∀ x ∈ ps,x.1.ok M) (hv : ∀ x ∈ ps,x.2.ok M)

theorem v242 {k : Int} (kk : keyk k) (q p : V × V) (hq : q.1.one P k (-1) = 0) (hp : p.1.one P k (-1) = 0) (bq : q.1.ok M) (bp : p.1.ok M) (frO : Nat → Ob) (hf : ∀ c,V.pav p = .agg c → frO 10 = .cells c) :
  ACalls Tryz.prog 242 [V.pav q,.ptr 2 10 0] [noObs,noObs,frO] fun y m1 => y = .bool (keq q.1 p.1) ∧ m1 = [noObs,noObs,frO]:=by
 have h:=v177 k kk q.1.bits p.1.bits q.1.text p.1.text
 have hf:=hf _ (pav14 p)
 rw [← (kv_of hq).1,← (kv_of hp).1,cmi_keq kk hq hp (bits_lt bq) (bits_lt bp),av7,av7] at h
 rw [pav14]
 refine acalls_of_awp (rc:=r242) (rs:=o242) Tryz.func242 rfl rfl Tryz.ntmps242 k242 q242 (by simp) ?_
 simp only [g242_0,g242_1,r242,o242,hf,eES,eEX,Nat.reduceBEq,↓reduceIte,Nat.reduceAdd,Nat.reduceLeDiff]
 refine aops_call h rfl rfl rfl (.inl rfl) ?_
 simp only [eES,Nat.reduceBEq,Nat.reduceAdd]

def EnI (m : PG → V → Int) (P : PL) (lv : Int) (o : PO) (ps : List (V × V)) (k : Nat) (st : St) : Prop :=
 ∃ f fr i,st = ⟨f,[fr],[]⟩ ∧ k = ps.length - i ∧ fei (entF m P o ps) ps.length 0 = fei (entF m P o ps) (ps.length - i) i ∧ (∀ j y,j < i → ps[j]? = some y → y.1.one P o.key (-1) = 0) ∧ f 2 = .list (ps.map V.pav) ∧ f 3 = .int .i64 lv ∧ f 4 = .ptr 0 4 0 ∧ f 5 = .ptr 0 5 0 ∧ f 13 = .list (ps.map V.pav) ∧ f 14 = .int .i64 (ps.length : Nat) ∧ f 15 = .int .i64 (i : Nat) ∧ fr 4 = .cells [.list (P.progs.map gav),.list (P.enums.map eav)] ∧ fr 5 = .cells o.cells ∧ ∀ s ∈ [10],(fr s).isRow = false

include hP ho h5 hn hk hv in
theorem v192 (hel : ∀ v : V,v.ok M → Fn1 Tryz.prog 191 [P.av,oav o,v.av,.int .i64 lv] (.int .i64 (elemF m P o v))) :
  Fn1 Tryz.prog 192 [P.av,oav o,.list (ps.map V.pav),.int .i64 lv] (.int .i64 (fei (entF m P o ps) ps.length 0)):=by
 have e0 : P.av = .agg [.list (P.progs.map gav),.list (P.enums.map eav)]:=rfl
 have kk:=ho.key h5
 refine fn1_of_awp (rc:=r192) (rs:=o192) Tryz.func192 rfl rfl Tryz.ntmps192 k192 q192 (by simp) ?_
 simp only [g192_0,g192_1,g192_13,r192,o192,e0,oav,PO.cells,List.length_map,eES,eEX,Nat.reduceBEq]
 refine awp_loop (EnI m P lv o ps) _ ⟨_,_,0,rfl,rfl,rfl,(by intro j y h; omega),(by first | rfl | simp only [eES,eEX,Nat.reduceBEq,↓reduceIte,reduceCtorEq,Nat.reduceEqDiff]),(by first | rfl | simp only [eES,eEX,Nat.reduceBEq,↓reduceIte,reduceCtorEq,Nat.reduceEqDiff]),(by first | rfl | simp only [eES,eEX,Nat.reduceBEq,↓reduceIte,reduceCtorEq,Nat.reduceEqDiff]),(by first | rfl | simp only [eES,eEX,Nat.reduceBEq,↓reduceIte,reduceCtorEq,Nat.reduceEqDiff]),(by first | rfl | simp only [eES,eEX,Nat.reduceBEq,↓reduceIte,reduceCtorEq,Nat.reduceEqDiff]),(by first | rfl | simp only [eES,eEX,Nat.reduceBEq,↓reduceIte,reduceCtorEq,Nat.reduceEqDiff]),(by first | rfl | simp only [eES,eEX,Nat.reduceBEq,↓reduceIte,reduceCtorEq,Nat.reduceEqDiff]),(by first | rfl | simp only [eES,eEX,Nat.reduceBEq,↓reduceIte,reduceCtorEq,Nat.reduceEqDiff]),(by first | rfl | simp only [eES,eEX,Nat.reduceBEq,↓reduceIte,reduceCtorEq,Nat.reduceEqDiff]),by simp <;> rfl⟩ ?_
 rintro _ st ⟨f0,fr0,i,rfl,rfl,hx,hks,h20,h30,h40,h50,h130,h140,h150,m40,m50,r10⟩
 refine awp_drops (a:=_) [10] r10 ?_
 intro f fr hf hm hn10
 have h2 : f 2 = .list (ps.map V.pav):=by rw [hf,h20] <;> rfl
 have h3 : f 3 = .int .i64 lv:=by rw [hf,h30] <;> rfl
 have h4 : f 4 = .ptr 0 4 0:=by rw [hf,h40] <;> rfl
 have h5' : f 5 = .ptr 0 5 0:=by rw [hf,h50] <;> rfl
 have h13 : f 13 = .list (ps.map V.pav):=by rw [hf,h130] <;> rfl
 have h14 : f 14 = .int .i64 (ps.length : Nat):=by rw [hf,h140] <;> rfl
 have h15 : f 15 = .int .i64 (i : Nat):=by rw [hf,h150] <;> rfl
 have m4 : fr 4 = .cells [.list (P.progs.map gav),.list (P.enums.map eav)]:=by rw [hm 4 (by decide),m40] <;> rfl
 have m5 : fr 5 = .cells o.cells:=by rw [hm 5 (by decide),m50] <;> rfl
 have n10:=hn10 10 (by decide)
 clear hf hm hn10 h20 h30 h40 h50 h130 h140 h150 m40 m50 r10
 have m5':=m5
 simp only [PO.cells] at m5
 simp only [g192_2,g192_3,g192_4,g192_5,g192_6,g192_7,g192_8,g192_9,g192_10,g192_11,g192_12,h14,h15,eES,Nat.reduceBEq,↓reduceIte]
 by_cases hlt : i < ps.length
 ·obtain ⟨x,hi⟩ : ∃ x,ps[i]? = some x:=⟨ps[i],List.getElem?_eq_getElem hlt⟩
  have hxm:=List.mem_of_getElem? hi
  have hg:=getP hi
  have e1:=wi64_s i _ hlt hn
  have hle : (i ≤ ps.length) = True:=eq_true (by omega)
  have c1:=one_i hP o.key (-1) (hk x hxm)
  have c2:=hel x.2 (hv x hxm)
  rw [e0,av7] at c1 c2
  simp only [oav,PO.cells] at c2
  simp only [lt_t hlt,nneg,Int.toNat_natCast,aiaddr,hg,n10,splice,List.take_succ_cons,List.take_zero,List.drop_succ_cons,List.drop_zero,List.drop_nil,List.append_nil,List.nil_append,List.length_cons,List.length_nil,h4,h5',h13,h15,m4,m5,eES,eEX,Nat.reduceBEq,↓reduceIte,Nat.reduceAdd,Nat.reduceLeDiff]
  refine aops_call c1 rfl rfl rfl (.inl rfl) ?_
  by_cases hz : x.1.one P o.key (-1) = 0
  ·have d0 : ((0 : Int) != 0) = false:=rfl
   have hcl:=fun (fr : Nat → Ob) (h10 : ∀ c,V.pav x = .agg c → fr 10 = .cells c) => v241 (ps.take i) (by rw [List.length_take]; omega) (fun q => keq q.1 x.1) 242 (.ptr 0 10 0) [fr] fun q hq => by
    obtain ⟨j,hj⟩:=List.mem_iff_getElem?.1 hq
    have hlj:=(List.getElem?_eq_some_iff.1 hj).1
    rw [List.length_take] at hlj
    rw [List.getElem?_take,if_pos (by omega)] at hj
    exact v242 kk q x (hks j q (by omega) hj) hz (hk q (List.mem_of_getElem? hj)) (hk x hxm) fr h10
   simp only [hz,d0,h2,bnd,lenA,aslice,Option.getD_none,List.length_map,nneg,Int.toNat_natCast,Nat.zero_le,Nat.le_refl,hle,true_or,Nat.sub_zero,← List.map_take,eES,Nat.reduceBEq,↓reduceIte]
   refine aops_callF (hcl _ (fun c hc => by rw [pav14] at hc; cases hc; exact (by first | rfl | simp only [eES,eEX,Nat.reduceBEq,↓reduceIte,reduceCtorEq,Nat.reduceEqDiff]))) (by simp only [List.map_cons,List.map_nil,eES,Nat.reduceBEq] <;> rfl) ?_
   cases ha : (ps.take i).any (fun q => keq q.1 x.1)
   ·have he : entF m P o ps i = elemF m P o x.2:=by rw [entF_at hi,if_pos hz,ha,if_neg (by simp)]
    simp only [h3,h4,h5',m4,m5,eES,eEX,Nat.reduceBEq,↓reduceIte,Nat.reduceAdd,Nat.reduceLeDiff]
    refine aops_call c2 rfl rfl rfl (.inl rfl) ?_
    by_cases hy : elemF m P o x.2 = 0
    ·rw [fei_go hlt (he.trans hy)] at hx
     simp only [hy,d0,h15,e1,eES,Nat.reduceBEq,↓reduceIte]
     refine ⟨ps.length - (i + 1),by omega,_,_,i + 1,rfl,rfl,hx,?_,(by first | rfl | exact h2 | simp only [h2,eES,eEX,Nat.reduceBEq,↓reduceIte,reduceCtorEq,Nat.reduceEqDiff]),(by first | rfl | exact h3 | simp only [h3,eES,eEX,Nat.reduceBEq,↓reduceIte,reduceCtorEq,Nat.reduceEqDiff]),(by first | rfl | exact h4 | simp only [h4,eES,eEX,Nat.reduceBEq,↓reduceIte,reduceCtorEq,Nat.reduceEqDiff]),(by first | rfl | exact h5' | simp only [h5',eES,eEX,Nat.reduceBEq,↓reduceIte,reduceCtorEq,Nat.reduceEqDiff]),(by first | rfl | exact h13 | simp only [h13,eES,eEX,Nat.reduceBEq,↓reduceIte,reduceCtorEq,Nat.reduceEqDiff]),(by first | rfl | exact h14 | simp only [h14,eES,eEX,Nat.reduceBEq,↓reduceIte,reduceCtorEq,Nat.reduceEqDiff]),(by first | rfl | simp only [eES,eEX,Nat.reduceBEq,↓reduceIte,reduceCtorEq,Nat.reduceEqDiff]),(by first | rfl | exact m4 | simp only [m4,eES,eEX,Nat.reduceBEq,↓reduceIte,reduceCtorEq,Nat.reduceEqDiff]),(by first | rfl | exact m5' | simp only [m5',eES,eEX,Nat.reduceBEq,↓reduceIte,reduceCtorEq,Nat.reduceEqDiff]),by simp <;> rfl⟩
     intro j y hj hjy
     by_cases e : j = i
     ·subst e
      rw [hi] at hjy
      cases hjy
      exact hz
     ·exact hks j y (by omega) hjy
    ·rw [fei_st hlt he hy] at hx
     have d1 : (elemF m P o x.2 != 0) = true:=by simp [hy]
     simp only [d1,hx,eES,Nat.reduceBEq,↓reduceIte]
   ·rw [fei_st hlt (v:=9) (by rw [entF_at hi,if_pos hz,ha,if_pos rfl]) (by decide)] at hx
    simp only [hx,eES,Nat.reduceBEq]
  ·rw [fei_st hlt ((entF_at hi).trans (if_neg hz)) hz] at hx
   have d1 : (x.1.one P o.key (-1) != 0) = true:=by simp [hz]
   simp only [d1,hx,eES,Nat.reduceBEq,↓reduceIte]
 ·rw [fei_end hlt] at hx
  simp only [lt_f hlt,hx,eES,Nat.reduceBEq,↓reduceIte]

theorem keys_loop {k : Int} (kk : keyk k) (i : Nat) (x : V × V) (hi : ps[i]? = some x) (hz : x.1.one P k (-1) = 0) (hks : ∀ j y,j < i → ps[j]? = some y → y.1.one P k (-1) = 0) (hn : ps.length ≤ maxLen) (hk : ∀ x ∈ ps,x.1.ok M) (f : Fr) (fr : Nat → Ob) (lv : Int) (h2 : f 2 = .list (ps.map V.pav)) (h3 : f 3 = .int .i64 lv) (h4 : f 4 = .ptr 0 4 0) (h5 : f 5 = .ptr 0 5 0) (h9 : f 9 = .int .i64 (i : Nat)) (h11 : f 11 = .int .i64 0) (Q : Exit → St → Prop)
  (q1 : (ps.take i).any (fun q => keq q.1 x.1) = true → ∀ f,f 8 = .int .i64 9 → Q .ret (⟨f,[fr],[]⟩ : St))
  (q2 : (ps.take i).any (fun q => keq q.1 x.1) = false → ∀ f,f 2 = .list (ps.map V.pav) → f 3 = .int .i64 lv → f 4 = .ptr 0 4 0 → f 5 = .ptr 0 5 0 → f 9 = .int .i64 (i : Nat) → Q (.exit 2) (⟨f,[fr],[]⟩ : St)) :
  awp Tryz.prog (.loop l135_0) ⟨f,[fr],[]⟩ Q:=by
 let I : Nat → St → Prop:=fun k st => ∃ f j,st = ⟨f,[fr],[]⟩ ∧ k = i - j ∧ j ≤ i ∧ (ps.take j).any (fun q => keq q.1 x.1) = false ∧ f 2 = .list (ps.map V.pav) ∧ f 3 = .int .i64 lv ∧ f 4 = .ptr 0 4 0 ∧ f 5 = .ptr 0 5 0 ∧ f 9 = .int .i64 (i : Nat) ∧ f 11 = .int .i64 (j : Nat)
 refine awp_loop I _ ⟨f,0,rfl,rfl,Nat.zero_le _,by simp,h2,h3,h4,h5,h9,h11⟩ ?_
 clear h2 h3 h4 h5 h9 h11
 rintro _ st ⟨f,j,rfl,rfl,hji,ha,h2,h3,h4,h5,h9,h11⟩
 have hil:=(List.getElem?_eq_some_iff.1 hi).1
 simp only [l135_0,g135_8,g135_10,g135_11,g135_9,h9,h11,eES,Nat.reduceBEq,↓reduceIte]
 by_cases hlt : j < i
 ·obtain ⟨y,hj⟩ : ∃ y,ps[j]? = some y:=⟨ps[j]'(by omega),List.getElem?_eq_getElem (by omega)⟩
  have hg:=getP hj
  have hgi:=getP hi
  have e1:=wi64_s j i hlt (by omega)
  have hy:=hks j y hlt hj
  have h:=v45 k kk y.1.bits x.1.bits y.1.text x.1.text
  rw [← (kv_of hy).1,← (kv_of hz).1,cmr_keq kk hy hz (bits_lt (hk y (List.mem_of_getElem? hj))) (bits_lt (hk x (List.mem_of_getElem? hi))),av7,av7] at h
  have ht : (ps.take (j + 1)).any (fun q => keq q.1 x.1) = keq y.1 x.1:=by
   rw [List.take_add_one,hj,List.any_append,ha]
   simp
  simp only [lt_t hlt,nneg,Int.toNat_natCast,aiaddr,hg,hgi,h2,h9,h11,List.take_succ_cons,List.take_zero,List.drop_zero,eES,eEX,Nat.reduceBEq,↓reduceIte,Nat.reduceAdd,Nat.reduceLeDiff]
  refine aops_call h rfl rfl rfl (.inl rfl) ?_
  cases hq : keq y.1 x.1
  ·simp only [h11,e1,eES,Nat.reduceBEq,↓reduceIte]
   exact ⟨i - (j + 1),by omega,_,j + 1,rfl,rfl,by omega,by rw [ht,hq],(by first | rfl | exact h2 | simp only [h2,eES,eEX,Nat.reduceBEq,↓reduceIte,reduceCtorEq,Nat.reduceEqDiff]),(by first | rfl | exact h3 | simp only [h3,eES,eEX,Nat.reduceBEq,↓reduceIte,reduceCtorEq,Nat.reduceEqDiff]),(by first | rfl | exact h4 | simp only [h4,eES,eEX,Nat.reduceBEq,↓reduceIte,reduceCtorEq,Nat.reduceEqDiff]),(by first | rfl | exact h5 | simp only [h5,eES,eEX,Nat.reduceBEq,↓reduceIte,reduceCtorEq,Nat.reduceEqDiff]),(by first | rfl | exact h9 | simp only [h9,eES,eEX,Nat.reduceBEq,↓reduceIte,reduceCtorEq,Nat.reduceEqDiff]),(by first | rfl | simp only [eES,eEX,Nat.reduceBEq,↓reduceIte,reduceCtorEq,Nat.reduceEqDiff])⟩
  ·simp only [eES,Nat.reduceBEq]
   refine q1 ?_ _ (by first | rfl | simp only [eES,eEX,Nat.reduceBEq,↓reduceIte,reduceCtorEq,Nat.reduceEqDiff])
   refine List.any_eq_true.2 ⟨y,?_,hq⟩
   exact List.mem_of_getElem? (i:=j) (by rw [List.getElem?_take,if_pos hlt]; exact hj)
 ·have e : j = i:=by omega
  subst e
  simp only [lt_f hlt,eES]
  exact q2 ha _ (by first | rfl | exact h2 | simp only [h2,eES,eEX,Nat.reduceBEq,↓reduceIte,reduceCtorEq,Nat.reduceEqDiff]) (by first | rfl | exact h3 | simp only [h3,eES,eEX,Nat.reduceBEq,↓reduceIte,reduceCtorEq,Nat.reduceEqDiff]) (by first | rfl | exact h4 | simp only [h4,eES,eEX,Nat.reduceBEq,↓reduceIte,reduceCtorEq,Nat.reduceEqDiff]) (by first | rfl | exact h5 | simp only [h5,eES,eEX,Nat.reduceBEq,↓reduceIte,reduceCtorEq,Nat.reduceEqDiff]) (by first | rfl | exact h9 | simp only [h9,eES,eEX,Nat.reduceBEq,↓reduceIte,reduceCtorEq,Nat.reduceEqDiff])

def QaI (m : PG → V → Int) (P : PL) (lv : Int) (o : PO) (ps : List (V × V)) (k : Nat) (st : St) : Prop :=
 ∃ f fr i,st = ⟨f,[fr],[]⟩ ∧ k = ps.length - i ∧ fei (entF m P o ps) ps.length 0 = fei (entF m P o ps) (ps.length - i) i ∧ (∀ j y,j < i → ps[j]? = some y → y.1.one P o.key (-1) = 0) ∧ f 2 = .list (ps.map V.pav) ∧ f 3 = .int .i64 lv ∧ f 4 = .ptr 0 4 0 ∧ f 5 = .ptr 0 5 0 ∧ f 9 = .int .i64 (i : Nat) ∧ fr 4 = .cells [.list (P.progs.map gav),.list (P.enums.map eav)] ∧ fr 5 = .cells o.cells

include hP hM ho h5 hn hk hv in
theorem v135 (hel : ∀ v : V,v.ok M → Fn1 Tryz.prog 136 [P.av,oav o,v.av,.int .i64 lv] (.int .i64 (elemF m P o v))) :
  Fn1 Tryz.prog 135 [P.av,oav o,.list (ps.map V.pav),.int .i64 lv] (.int .i64 (fei (entF m P o ps) ps.length 0)):=by
 have e0 : P.av = .agg [.list (P.progs.map gav),.list (P.enums.map eav)]:=rfl
 have kk:=ho.key h5
 refine fn1_of_awp (rc:=r135) (rs:=o135) Tryz.func135 rfl rfl Tryz.ntmps135 k135 q135 (by simp) ?_
 simp only [g135_0,g135_1,g135_15,r135,o135,e0,oav,PO.cells,eES,eEX,Nat.reduceBEq]
 refine awp_loop (QaI m P lv o ps) _ ⟨_,_,0,rfl,rfl,rfl,(by intro j y h; omega),(by first | rfl | simp only [eES,eEX,Nat.reduceBEq,↓reduceIte,reduceCtorEq,Nat.reduceEqDiff]),(by first | rfl | simp only [eES,eEX,Nat.reduceBEq,↓reduceIte,reduceCtorEq,Nat.reduceEqDiff]),(by first | rfl | simp only [eES,eEX,Nat.reduceBEq,↓reduceIte,reduceCtorEq,Nat.reduceEqDiff]),(by first | rfl | simp only [eES,eEX,Nat.reduceBEq,↓reduceIte,reduceCtorEq,Nat.reduceEqDiff]),(by first | rfl | simp only [eES,eEX,Nat.reduceBEq,↓reduceIte,reduceCtorEq,Nat.reduceEqDiff]),(by first | rfl | simp only [eES,eEX,Nat.reduceBEq,↓reduceIte,reduceCtorEq,Nat.reduceEqDiff]),(by first | rfl | simp only [eES,eEX,Nat.reduceBEq,↓reduceIte,reduceCtorEq,Nat.reduceEqDiff])⟩ ?_
 rintro _ st ⟨f,fr,i,rfl,rfl,hx,hks,h2,h3,h4,h5',h9,m4,m5⟩
 have m5':=m5
 simp only [PO.cells] at m5
 simp only [l135_1,g135_2,g135_4,g135_5,g135_6,g135_7,g135_12,g135_13,g135_14,g135_3,List.length_map,h2,h9,eES,Nat.reduceBEq,↓reduceIte]
 by_cases hlt : i < ps.length
 ·obtain ⟨x,hi⟩ : ∃ x,ps[i]? = some x:=⟨ps[i],List.getElem?_eq_getElem hlt⟩
  have hxm:=List.mem_of_getElem? hi
  have hg:=getP hi
  have e1:=wi64_s i _ hlt hn
  have c1:=one_r hP hM o.key (-1) (hk x hxm)
  have c2:=hel x.2 (hv x hxm)
  rw [e0,av7] at c1 c2
  simp only [oav,PO.cells] at c2
  simp only [lt_t hlt,nneg,Int.toNat_natCast,aiaddr,hg,List.take_succ_cons,List.take_zero,List.drop_zero,h2,h4,h5',h9,m4,m5,eES,eEX,Nat.reduceBEq,↓reduceIte,Nat.reduceAdd,Nat.reduceLeDiff]
  refine aops_call c1 rfl rfl rfl (.inl rfl) ?_
  by_cases hz : x.1.one P o.key (-1) = 0
  ·have d0 : ((0 : Int) != 0) = false:=rfl
   simp only [hz,d0,eES,Nat.reduceBEq,↓reduceIte]
   refine keys_loop ps kk i x hi hz hks hn hk _ _ lv (by first | rfl | exact h2 | simp only [h2,eES,eEX,Nat.reduceBEq,↓reduceIte,reduceCtorEq,Nat.reduceEqDiff]) (by first | rfl | exact h3 | simp only [h3,eES,eEX,Nat.reduceBEq,↓reduceIte,reduceCtorEq,Nat.reduceEqDiff]) (by first | rfl | exact h4 | simp only [h4,eES,eEX,Nat.reduceBEq,↓reduceIte,reduceCtorEq,Nat.reduceEqDiff]) (by first | rfl | exact h5' | simp only [h5',eES,eEX,Nat.reduceBEq,↓reduceIte,reduceCtorEq,Nat.reduceEqDiff]) (by first | rfl | exact h9 | simp only [h9,eES,eEX,Nat.reduceBEq,↓reduceIte,reduceCtorEq,Nat.reduceEqDiff]) (by first | rfl | simp only [eES,eEX,Nat.reduceBEq,↓reduceIte,reduceCtorEq,Nat.reduceEqDiff]) _ (fun ha f h8 => ?_) (fun ha f h2 h3 h4 h5' h9 => ?_)
   ·rw [fei_st hlt (v:=9) (by rw [entF_at hi,if_pos hz,ha,if_pos rfl]) (by decide)] at hx
    simp only [hx,h8,eES]
   ·have he : entF m P o ps i = elemF m P o x.2:=by rw [entF_at hi,if_pos hz,ha,if_neg (by simp)]
    simp only [nneg,Int.toNat_natCast,aiaddr,hg,List.take_succ_cons,List.drop_succ_cons,List.drop_zero,h2,h3,h4,h5',h9,m4,m5,eES,eEX,Nat.reduceBEq,↓reduceIte,Nat.reduceAdd,Nat.reduceLeDiff]
    refine aops_call c2 rfl rfl rfl (.inl rfl) ?_
    by_cases hy : elemF m P o x.2 = 0
    ·rw [fei_go hlt (he.trans hy)] at hx
     simp only [hy,d0,h9,e1,eES,Nat.reduceBEq,↓reduceIte]
     refine ⟨ps.length - (i + 1),by omega,_,_,i + 1,rfl,rfl,hx,?_,(by first | rfl | exact h2 | simp only [h2,eES,eEX,Nat.reduceBEq,↓reduceIte,reduceCtorEq,Nat.reduceEqDiff]),(by first | rfl | exact h3 | simp only [h3,eES,eEX,Nat.reduceBEq,↓reduceIte,reduceCtorEq,Nat.reduceEqDiff]),(by first | rfl | exact h4 | simp only [h4,eES,eEX,Nat.reduceBEq,↓reduceIte,reduceCtorEq,Nat.reduceEqDiff]),(by first | rfl | exact h5' | simp only [h5',eES,eEX,Nat.reduceBEq,↓reduceIte,reduceCtorEq,Nat.reduceEqDiff]),(by first | rfl | simp only [eES,eEX,Nat.reduceBEq,↓reduceIte,reduceCtorEq,Nat.reduceEqDiff]),(by first | rfl | exact m4 | simp only [m4,eES,eEX,Nat.reduceBEq,↓reduceIte,reduceCtorEq,Nat.reduceEqDiff]),(by first | rfl | exact m5' | simp only [m5',eES,eEX,Nat.reduceBEq,↓reduceIte,reduceCtorEq,Nat.reduceEqDiff])⟩
     intro j y hj hjy
     by_cases e : j = i
     ·subst e
      rw [hi] at hjy
      cases hjy
      exact hz
     ·exact hks j y (by omega) hjy
    ·rw [fei_st hlt he hy] at hx
     have d1 : (elemF m P o x.2 != 0) = true:=by simp [hy]
     simp only [d1,hx,eES,Nat.reduceBEq,↓reduceIte]
  ·rw [fei_st hlt ((entF_at hi).trans (if_neg hz)) hz] at hx
   have d1 : (x.1.one P o.key (-1) != 0) = true:=by simp [hz]
   simp only [d1,hx,eES,Nat.reduceBEq,↓reduceIte]
 ·rw [fei_end hlt] at hx
  simp only [lt_f hlt,hx,eES,Nat.reduceBEq,↓reduceIte]

end
end Go.Proofs.YtelhohgmmhbahaaGreatDoor.Va

set_option linter.unusedSimpArgs false
namespace Go.Proofs.YtelhohgmmhbahaaGreatDoor.Va
open Go Am Rc Bt Br Up

section
variable {M : Nat} {P : PL} (hP : P.ok M) (hM : M ≤ 140737488351232) {m : PG → V → Int} {lv : Int} (o : PO) (ho : UO P o) (v : V) (hv : v.ok M)

include hv in
theorem oth_i : Fn1 Tryz.prog 49 [v.av] (.bool v.oth):=by
 rw [vo_av]
 exact z49 _ _ _ _ _ _ _ (by have:=hv.ns; simp; omega) (by have:=hv.nr; simp; omega)
include hv in
theorem oth_r : Fn1 Tryz.prog 55 [v.av] (.bool v.oth):=by
 rw [vo_av]
 exact z55 _ _ _ _ _ _ _ (by have:=hv.ns; simp; omega) (by have:=hv.nr; simp; omega)

def FiI (m : PG → V → Int) (P : PL) (lv : Int) (o : PO) (v : V) (k : Nat) (st : St) : Prop :=
 ∃ f fr i,st = ⟨f,[fr],[]⟩ ∧ k = v.list.length - i ∧ fei (lstF m P o v.list) v.list.length 0 = fei (lstF m P o v.list) (v.list.length - i) i ∧ f 3 = .int .i64 lv ∧ f 4 = .ptr 0 4 0 ∧ f 5 = .ptr 0 5 0 ∧ f 24 = .list (v.list.map V.av) ∧ f 25 = .int .i64 (v.list.length : Nat) ∧ f 26 = .int .i64 (i : Nat) ∧ fr 4 = .cells [.list (P.progs.map gav),.list (P.enums.map eav)] ∧ fr 5 = .cells o.cells ∧ ∀ s ∈ [10],(fr s).isRow = false

include hP ho hv in
theorem v131 (hel : ∀ v : V,v.ok M → Fn1 Tryz.prog 191 [P.av,oav o,v.av,.int .i64 lv] (.int .i64 (elemF m P o v))) :
  Fn1 Tryz.prog 131 [P.av,oav o,v.av,.int .i64 lv] (.int .i64 (fieldF m P o v)):=by
 have e0 : P.av = .agg [.list (P.progs.map gav),.list (P.enums.map eav)]:=rfl
 have co:=oth_i v hv
 have ce:=fun h5 => v192 hP o ho h5 v.pairs (by have:=hv.np; simp only [maxLen]; omega) hv.keys hv.vals hel
 have cv:=hel v hv
 rw [e0,av7] at cv
 rw [av7] at co
 simp only [e0,oav,PO.cells] at ce cv
 rw [av7]
 refine fn1_of_awp (rc:=r131) (rs:=o131) Tryz.func131 rfl rfl Tryz.ntmps131 k131 q131 (by simp) ?_
 simp only [g131_0,g131_1,g131_2,g131_3,g131_4,g131_5,g131_12,g131_13,g131_14,g131_15,g131_16,g131_17,r131,o131,e0,oav,PO.cells,eES,eEX,Nat.reduceBEq,↓reduceIte,Nat.reduceAdd]
 unfold fieldF
 by_cases h4 : o.card = 4
 ·have b4 : (o.card == 4) = true:=by simp [h4]
  have n5 : ¬ o.card = 5:=by omega
  rw [if_neg n5,if_pos h4]
  simp only [b4,eES,eEX,Nat.reduceBEq,↓reduceIte,Nat.reduceAdd]
  cases a1 : (v.kd != 11)
  ·simp only [Bool.false_or,eES,eEX,Nat.reduceBEq,↓reduceIte,Nat.reduceAdd,Nat.reduceLeDiff]
   refine aops_call co rfl rfl rfl (.inl rfl) ?_
   cases a2 : v.oth
   ·simp only [Bool.false_eq_true,List.length_map,eES,eEX,Nat.reduceBEq,↓reduceIte,Nat.reduceAdd]
    refine awp_loop (FiI m P lv o v) _ ⟨_,_,0,rfl,rfl,rfl,(by first | rfl | simp only [eES,eEX,Nat.reduceBEq,↓reduceIte,reduceCtorEq,Nat.reduceEqDiff]),(by first | rfl | simp only [eES,eEX,Nat.reduceBEq,↓reduceIte,reduceCtorEq,Nat.reduceEqDiff]),(by first | rfl | simp only [eES,eEX,Nat.reduceBEq,↓reduceIte,reduceCtorEq,Nat.reduceEqDiff]),(by first | rfl | simp only [eES,eEX,Nat.reduceBEq,↓reduceIte,reduceCtorEq,Nat.reduceEqDiff]),(by first | rfl | simp only [eES,eEX,Nat.reduceBEq,↓reduceIte,reduceCtorEq,Nat.reduceEqDiff]),(by first | rfl | simp only [eES,eEX,Nat.reduceBEq,↓reduceIte,reduceCtorEq,Nat.reduceEqDiff]),(by first | rfl | simp only [eES,eEX,Nat.reduceBEq,↓reduceIte,reduceCtorEq,Nat.reduceEqDiff]),(by first | rfl | simp only [eES,eEX,Nat.reduceBEq,↓reduceIte,reduceCtorEq,Nat.reduceEqDiff]),by simp <;> rfl⟩ ?_
    rintro _ st ⟨f0,fr0,i,rfl,rfl,hx,h30,h40,h50,h240,h250,h260,m40,m50,r10⟩
    refine awp_drops (a:=_) [10] r10 ?_
    intro f fr hf hm hn10
    have h3 : f 3 = .int .i64 lv:=by rw [hf,h30] <;> rfl
    have h4 : f 4 = .ptr 0 4 0:=by rw [hf,h40] <;> rfl
    have h5 : f 5 = .ptr 0 5 0:=by rw [hf,h50] <;> rfl
    have h24 : f 24 = .list (v.list.map V.av):=by rw [hf,h240] <;> rfl
    have h25 : f 25 = .int .i64 (v.list.length : Nat):=by rw [hf,h250] <;> rfl
    have h26 : f 26 = .int .i64 (i : Nat):=by rw [hf,h260] <;> rfl
    have m4 : fr 4 = .cells [.list (P.progs.map gav),.list (P.enums.map eav)]:=by rw [hm 4 (by decide),m40] <;> rfl
    have m5 : fr 5 = .cells o.cells:=by rw [hm 5 (by decide),m50] <;> rfl
    have n10:=hn10 10 (by decide)
    clear hf hm hn10 h30 h40 h50 h240 h250 h260 m40 m50 r10
    have m5':=m5
    simp only [PO.cells] at m5
    simp only [g131_6,g131_7,g131_8,g131_9,g131_10,g131_11,h25,h26,eES,Nat.reduceBEq,↓reduceIte]
    by_cases hlt : i < v.list.length
    ·obtain ⟨x,hi⟩ : ∃ x,v.list[i]? = some x:=⟨v.list[i],List.getElem?_eq_getElem hlt⟩
     have hg:=getV hi
     have e1:=wi64_s i _ hlt (by have:=hv.nl; simp only [maxLen]; omega)
     have c2:=hel x (hv.list x (List.mem_of_getElem? hi))
     rw [e0,av7] at c2
     simp only [oav,PO.cells] at c2
     simp only [lt_t hlt,nneg,Int.toNat_natCast,aiaddr,hg,n10,splice,List.take_succ_cons,List.take_zero,List.drop_succ_cons,List.drop_zero,List.drop_nil,List.append_nil,List.nil_append,List.length_cons,List.length_nil,h3,h4,h5,h24,h26,m4,m5,eES,eEX,Nat.reduceBEq,↓reduceIte,Nat.reduceAdd,Nat.reduceLeDiff]
     refine aops_call c2 rfl rfl rfl (.inl rfl) ?_
     by_cases hy : elemF m P o x = 0
     ·rw [fei_go hlt ((lstF_at hi).trans hy)] at hx
      have d0 : ((0 : Int) != 0) = false:=rfl
      simp only [hy,d0,h26,e1,eES,Nat.reduceBEq,↓reduceIte]
      exact ⟨v.list.length - (i + 1),by omega,_,_,i + 1,rfl,rfl,hx,(by first | rfl | exact h3 | simp only [h3,eES,eEX,Nat.reduceBEq,↓reduceIte,reduceCtorEq,Nat.reduceEqDiff]),(by first | rfl | exact h4 | simp only [h4,eES,eEX,Nat.reduceBEq,↓reduceIte,reduceCtorEq,Nat.reduceEqDiff]),(by first | rfl | exact h5 | simp only [h5,eES,eEX,Nat.reduceBEq,↓reduceIte,reduceCtorEq,Nat.reduceEqDiff]),(by first | rfl | exact h24 | simp only [h24,eES,eEX,Nat.reduceBEq,↓reduceIte,reduceCtorEq,Nat.reduceEqDiff]),(by first | rfl | exact h25 | simp only [h25,eES,eEX,Nat.reduceBEq,↓reduceIte,reduceCtorEq,Nat.reduceEqDiff]),(by first | rfl | simp only [eES,eEX,Nat.reduceBEq,↓reduceIte,reduceCtorEq,Nat.reduceEqDiff]),(by first | rfl | exact m4 | simp only [m4,eES,eEX,Nat.reduceBEq,↓reduceIte,reduceCtorEq,Nat.reduceEqDiff]),(by first | rfl | exact m5' | simp only [m5',eES,eEX,Nat.reduceBEq,↓reduceIte,reduceCtorEq,Nat.reduceEqDiff]),by simp <;> rfl⟩
     ·rw [fei_st hlt (lstF_at hi) hy] at hx
      have d1 : (elemF m P o x != 0) = true:=by simp [hy]
      simp only [d1,hx,eES,Nat.reduceBEq,↓reduceIte]
    ·rw [fei_end hlt] at hx
     simp only [lt_f hlt,hx,eES,Nat.reduceBEq,↓reduceIte]
   ·simp only [eES,Nat.reduceBEq,↓reduceIte]
  ·simp only [Bool.true_or,eES,Nat.reduceBEq,↓reduceIte]
 ·have b4 : (o.card == 4) = false:=by simp [h4]
  by_cases h5 : o.card = 5
  ·have b5 : (o.card == 5) = true:=by simp [h5]
   rw [if_pos h5]
   simp only [b4,b5,eES,eEX,Nat.reduceBEq,↓reduceIte,Nat.reduceAdd]
   cases a1 : (v.kd != 12)
   ·simp only [Bool.false_or,eES,eEX,Nat.reduceBEq,↓reduceIte,Nat.reduceAdd,Nat.reduceLeDiff]
    refine aops_call co rfl rfl rfl (.inl rfl) ?_
    cases a2 : v.oth
    ·simp only [Bool.false_eq_true,eES,eEX,Nat.reduceBEq,↓reduceIte,Nat.reduceAdd,Nat.reduceLeDiff]
     refine aops_call (ce h5) rfl rfl rfl (.inl rfl) ?_
     simp only [eES,Nat.reduceBEq]
    ·simp only [eES,Nat.reduceBEq,↓reduceIte]
   ·simp only [Bool.true_or,eES,Nat.reduceBEq,↓reduceIte]
  ·have b5 : (o.card == 5) = false:=by simp [h5]
   rw [if_neg h5,if_neg h4]
   simp only [b4,b5,eES,eEX,Nat.reduceBEq,↓reduceIte,Nat.reduceAdd,Nat.reduceLeDiff]
   refine aops_call cv rfl rfl rfl (.inl rfl) ?_
   simp only [eES,Nat.reduceBEq]

def CoI (m : PG → V → Int) (P : PL) (lv : Int) (o : PO) (v : V) (k : Nat) (st : St) : Prop :=
 ∃ f fr i,st = ⟨f,[fr],[]⟩ ∧ k = v.list.length - i ∧ fei (lstF m P o v.list) v.list.length 0 = fei (lstF m P o v.list) (v.list.length - i) i ∧ f 3 = .int .i64 lv ∧ f 4 = .ptr 0 4 0 ∧ f 5 = .ptr 0 5 0 ∧ f 6 = .ptr 0 6 0 ∧ f 9 = .int .i64 (i : Nat) ∧ fr 4 = .cells [.list (P.progs.map gav),.list (P.enums.map eav)] ∧ fr 5 = .cells o.cells ∧ fr 6 = .cells (vc v)

include hP hM ho hv in
theorem v58 (hel : ∀ v : V,v.ok M → Fn1 Tryz.prog 136 [P.av,oav o,v.av,.int .i64 lv] (.int .i64 (elemF m P o v))) :
  Fn1 Tryz.prog 58 [P.av,oav o,v.av,.int .i64 lv] (.int .i64 (fieldF m P o v)):=by
 have e0 : P.av = .agg [.list (P.progs.map gav),.list (P.enums.map eav)]:=rfl
 have co:=oth_r v hv
 have ce:=fun h5 => v135 hP hM o ho h5 v.pairs (by have:=hv.np; simp only [maxLen]; omega) hv.keys hv.vals hel
 have cv:=hel v hv
 rw [e0,av7] at cv
 rw [av7] at co
 simp only [e0,oav,PO.cells] at ce cv
 rw [av7]
 refine fn1_of_awp (rc:=r58) (rs:=o58) Tryz.func58 rfl rfl Tryz.ntmps58 k58 q58 (by simp) ?_
 simp only [g58_0,g58_1,g58_2,g58_3,g58_4,g58_5,g58_6,g58_7,g58_8,g58_9,g58_15,g58_16,r58,o58,e0,oav,PO.cells,eES,eEX,Nat.reduceBEq,↓reduceIte,Nat.reduceAdd]
 unfold fieldF
 by_cases h5 : o.card = 5
 ·have b5 : (o.card == 5) = true:=by simp [h5]
  rw [if_pos h5]
  simp only [b5,eES,eEX,Nat.reduceBEq,↓reduceIte,Nat.reduceAdd]
  cases a1 : (v.kd != 12)
  ·simp only [Bool.false_or,eES,eEX,Nat.reduceBEq,↓reduceIte,Nat.reduceAdd,Nat.reduceLeDiff]
   refine aops_call co rfl rfl rfl (.inl rfl) ?_
   cases a2 : v.oth
   ·simp only [Bool.false_eq_true,eES,eEX,Nat.reduceBEq,↓reduceIte,Nat.reduceAdd,Nat.reduceLeDiff]
    refine aops_call (ce h5) rfl rfl rfl (.inl rfl) ?_
    simp only [eES,Nat.reduceBEq]
   ·simp only [eES,Nat.reduceBEq,↓reduceIte]
  ·simp only [Bool.true_or,eES,Nat.reduceBEq,↓reduceIte]
 ·have b5 : (o.card == 5) = false:=by simp [h5]
  rw [if_neg h5]
  by_cases h4 : o.card = 4
  ·have b4 : (o.card == 4) = true:=by simp [h4]
   rw [if_pos h4]
   simp only [b5,b4,eES,eEX,Nat.reduceBEq,↓reduceIte,Nat.reduceAdd]
   cases a1 : (v.kd != 11)
   ·simp only [Bool.false_or,eES,eEX,Nat.reduceBEq,↓reduceIte,Nat.reduceAdd,Nat.reduceLeDiff]
    refine aops_call co rfl rfl rfl (.inl rfl) ?_
    cases a2 : v.oth
    ·simp only [Bool.false_eq_true,eES,Nat.reduceBEq,↓reduceIte]
     refine awp_loop (CoI m P lv o v) _ ⟨_,_,0,rfl,rfl,rfl,(by first | rfl | simp only [eES,eEX,Nat.reduceBEq,↓reduceIte,reduceCtorEq,Nat.reduceEqDiff]),(by first | rfl | simp only [eES,eEX,Nat.reduceBEq,↓reduceIte,reduceCtorEq,Nat.reduceEqDiff]),(by first | rfl | simp only [eES,eEX,Nat.reduceBEq,↓reduceIte,reduceCtorEq,Nat.reduceEqDiff]),(by first | rfl | simp only [eES,eEX,Nat.reduceBEq,↓reduceIte,reduceCtorEq,Nat.reduceEqDiff]),(by first | rfl | simp only [eES,eEX,Nat.reduceBEq,↓reduceIte,reduceCtorEq,Nat.reduceEqDiff]),(by first | rfl | simp only [eES,eEX,Nat.reduceBEq,↓reduceIte,reduceCtorEq,Nat.reduceEqDiff]),(by first | rfl | simp only [eES,eEX,Nat.reduceBEq,↓reduceIte,reduceCtorEq,Nat.reduceEqDiff]),(by first | rfl | simp only [eES,eEX,Nat.reduceBEq,↓reduceIte,reduceCtorEq,Nat.reduceEqDiff])⟩ ?_
     rintro _ st ⟨f,fr,i,rfl,rfl,hx,h3,h4,h5,h6,h9,m4,m5,m6⟩
     have m5':=m5
     have m6':=m6
     simp only [PO.cells] at m5
     simp only [vc] at m6
     simp only [l58_0,g58_10,g58_12,g58_13,g58_14,g58_11,List.length_map,h6,h9,m6,eES,eEX,Nat.reduceBEq,↓reduceIte,Nat.reduceAdd]
     by_cases hlt : i < v.list.length
     ·obtain ⟨x,hi⟩ : ∃ x,v.list[i]? = some x:=⟨v.list[i],List.getElem?_eq_getElem hlt⟩
      have hg:=getV hi
      have e1:=wi64_s i _ hlt (by have:=hv.nl; simp only [maxLen]; omega)
      have c2:=hel x (hv.list x (List.mem_of_getElem? hi))
      rw [e0,av7] at c2
      simp only [oav,PO.cells] at c2
      simp only [lt_t hlt,nneg,Int.toNat_natCast,aiaddr,hg,List.take_succ_cons,List.drop_zero,h3,h4,h5,h6,h9,m4,m5,m6,eES,eEX,Nat.reduceBEq,↓reduceIte,Nat.reduceAdd,Nat.reduceLeDiff]
      refine aops_call c2 rfl rfl rfl (.inl rfl) ?_
      by_cases hy : elemF m P o x = 0
      ·rw [fei_go hlt ((lstF_at hi).trans hy)] at hx
       have d0 : ((0 : Int) != 0) = false:=rfl
       simp only [hy,d0,h9,e1,eES,Nat.reduceBEq,↓reduceIte]
       exact ⟨v.list.length - (i + 1),by omega,_,_,i + 1,rfl,rfl,hx,(by first | rfl | exact h3 | simp only [h3,eES,eEX,Nat.reduceBEq,↓reduceIte,reduceCtorEq,Nat.reduceEqDiff]),(by first | rfl | exact h4 | simp only [h4,eES,eEX,Nat.reduceBEq,↓reduceIte,reduceCtorEq,Nat.reduceEqDiff]),(by first | rfl | exact h5 | simp only [h5,eES,eEX,Nat.reduceBEq,↓reduceIte,reduceCtorEq,Nat.reduceEqDiff]),(by first | rfl | exact h6 | simp only [h6,eES,eEX,Nat.reduceBEq,↓reduceIte,reduceCtorEq,Nat.reduceEqDiff]),(by first | rfl | simp only [eES,eEX,Nat.reduceBEq,↓reduceIte,reduceCtorEq,Nat.reduceEqDiff]),(by first | rfl | exact m4 | simp only [m4,eES,eEX,Nat.reduceBEq,↓reduceIte,reduceCtorEq,Nat.reduceEqDiff]),(by first | rfl | exact m5' | simp only [m5',eES,eEX,Nat.reduceBEq,↓reduceIte,reduceCtorEq,Nat.reduceEqDiff]),(by first | rfl | exact m6' | simp only [m6',eES,eEX,Nat.reduceBEq,↓reduceIte,reduceCtorEq,Nat.reduceEqDiff])⟩
      ·rw [fei_st hlt (lstF_at hi) hy] at hx
       have d1 : (elemF m P o x != 0) = true:=by simp [hy]
       simp only [d1,hx,eES,Nat.reduceBEq,↓reduceIte]
     ·rw [fei_end hlt] at hx
      simp only [lt_f hlt,hx,eES,Nat.reduceBEq,↓reduceIte]
    ·simp only [eES,Nat.reduceBEq,↓reduceIte]
   ·simp only [Bool.true_or,eES,Nat.reduceBEq,↓reduceIte]
  ·have b4 : (o.card == 4) = false:=by simp [h4]
   rw [if_neg h4]
   simp only [b5,b4,eES,eEX,Nat.reduceBEq,↓reduceIte,Nat.reduceAdd,Nat.reduceLeDiff]
   refine aops_call cv rfl rfl rfl (.inl rfl) ?_
   simp only [eES,Nat.reduceBEq]

end
end Go.Proofs.YtelhohgmmhbahaaGreatDoor.Va

set_option linter.unusedSimpArgs false
namespace Go.Proofs.YtelhohgmmhbahaaGreatDoor.Va
open Go Am Rc Bt Br Up

def slotR (g : PG) (sl : List (Int × V)) (i : Nat) : Int:=match sl[i]? with
 | none => 0
 | some x => match opq g x.1 with
  | none => 8
  | some o => if (sl.take i).any (fun y => y.1 == x.1) = true then 9 else if (sl.take i).any (uniF g o) = true then 15 else 0

theorem slotF_R {m : PG → V → Int} {P : PL} {g : PG} {sl : List (Int × V)} {i : Nat} {x : Int × V} (h : sl[i]? = some x) :
  (slotR g sl i ≠ 0 → slotF m P g sl i = slotR g sl i) ∧ (slotR g sl i = 0 → ∃ o,opq g x.1 = some o ∧ slotF m P g sl i = fieldF m P o x.2):=by
 unfold slotR slotF
 rw [h]
 dsimp only
 cases ho : opq g x.1 with
 | none => exact ⟨fun _ => rfl,fun h => by simp at h⟩
 | some o =>
  dsimp only
  cases (sl.take i).any (fun y => y.1 == x.1)
  ·cases (sl.take i).any (uniF g o)
   ·simp
   ·simp
  ·simp

theorem row2 {fr : Nat → Ob} {a b : Nat} (h1 : (fr a).isRow = false) (h2 : (fr b).isRow = false) : ∀ s ∈ [a,b],(fr s).isRow = false:=by
 intro s hs
 simp only [List.mem_cons,List.not_mem_nil,or_false] at hs
 rcases hs with rfl | rfl
 ·exact h1
 ·exact h2

theorem opq_mem {g : PG} {n : Int} {o : PO} (h : opq g n = some o) : o ∈ g.ops ∧ o.num = n:=by
 unfold opq at h
 exact ⟨List.mem_of_find?_eq_some h,by simpa using List.find?_some h⟩

theorem opr_opq (g : PG) (n : Int) : opr (fun o => o.num == n) g.ops = .tup [oav ((opq g n).getD PO0),.bool (opq g n).isSome]:=rfl

section
variable {M : Nat} {P : PL} (hP : P.ok M) (hM : M ≤ 140737488351232) {m : PG → V → Int} {lv : Int} (g : PG) (hg : g.ok M) (hu : ∀ o ∈ g.ops,UO P o) (sl : List (Int × V)) (hn : sl.length ≤ maxLen) (i : Nat) (hi : i < sl.length) (hv : ∀ x ∈ sl,x.2.ok M)

theorem v130 (y : Int × V) (o : PO) (frO : Nat → Ob) (hf : frO 11 = .cells o.cells) :
  ACalls Tryz.prog 130 [V.sav y,.ptr 2 11 0] [noObs,noObs,frO] fun v m1 => v = .bool (y.1 == o.num) ∧ m1 = [noObs,noObs,frO]:=by
 simp only [PO.cells] at hf
 rw [sav8]
 refine acalls_of_awp (rc:=r130) (rs:=o130) Tryz.func130 rfl rfl Tryz.ntmps130 k130 q130 (by simp) ?_
 simp only [g130_0,g130_1,r130,o130,hf,eES,eEX,Nat.reduceBEq,↓reduceIte,Nat.reduceAdd]

def SlI (P : PL) (lv : Int) (g : PG) (o : PO) (sl : List (Int × V)) (i : Nat) (k : Nat) (st : St) : Prop :=
 ∃ f fr j,st = ⟨f,[fr],[]⟩ ∧ k = i - j ∧ j ≤ i ∧ (sl.take j).any (uniF g o) = false ∧ f 2 = .list (sl.map V.sav) ∧ f 3 = .int .i64 (i : Nat) ∧ f 4 = .int .i64 lv ∧ f 5 = .ptr 0 5 0 ∧ f 6 = .ptr 0 6 0 ∧ f 11 = .ptr 0 11 0 ∧ f 36 = .list ((sl.take i).map V.sav) ∧ f 37 = .int .i64 (i : Nat) ∧ f 38 = .int .i64 (j : Nat) ∧ fr 5 = .cells [.list (P.progs.map gav),.list (P.enums.map eav)] ∧ fr 6 = .cells g.cells ∧ fr 11 = .cells o.cells ∧ ∀ s ∈ [15,14],(fr s).isRow = false

include hg hn hi hv in
theorem v50 (hfi : ∀ o ∈ g.ops,∀ v : V,v.ok M → Fn1 Tryz.prog 131 [P.av,oav o,v.av,.int .i64 lv] (.int .i64 (fieldF m P o v))) :
  Fn1 Tryz.prog 50 [P.av,gav g,.list (sl.map V.sav),.int .i64 (i : Nat),.int .i64 lv] (.int .i64 (slotF m P g sl i)):=by
 have e0 : P.av = .agg [.list (P.progs.map gav),.list (P.enums.map eav)]:=rfl
 obtain ⟨x,hx⟩ : ∃ x,sl[i]? = some x:=⟨sl[i],List.getElem?_eq_getElem hi⟩
 have hxm:=List.mem_of_getElem? hx
 have hgi:=getS hx
 have co:=fun n => y39 g hg.len n
 simp only [opr_opq] at co
 have co1:=co x.1
 have hle : (i ≤ sl.length) = True:=eq_true (by omega)
 have hlen : (sl.take i).length = i:=by rw [List.length_take]; omega
 unfold slotF
 rw [hx]
 dsimp only
 simp only [gav,PG.cells] at co co1
 refine fn1_of_awp (rc:=r50) (rs:=o50) Tryz.func50 rfl rfl Tryz.ntmps50 k50 q50 (by simp) ?_
 simp only [g50_0,g50_1,g50_2,g50_3,g50_4,g50_5,g50_6,g50_13,r50,o50,e0,gav,PG.cells,nneg,Int.toNat_natCast,aiaddr,hgi,List.take_succ_cons,List.drop_zero,eES,eEX,Nat.reduceBEq,↓reduceIte,Nat.reduceAdd,Nat.reduceLeDiff]
 refine aops_call co1 rfl rfl rfl (.inl rfl) ?_
 cases ho : opq g x.1 with
 | none =>
  simp only [Option.getD_none,Option.isSome_none,PO0,oav,PO.cells,splice,List.take_zero,List.nil_append,List.drop_succ_cons,List.drop_nil,List.append_nil,List.length_cons,List.length_nil,List.all_cons,List.all_nil,AV.leaf,eES,eEX,Nat.reduceBEq,↓reduceIte,Nat.reduceAdd,Nat.reduceLeDiff]
 | some o =>
  obtain ⟨hom,hon⟩:=opq_mem ho
  have hcl:=fun (fr : Nat → Ob) (h11 : fr 11 = .cells o.cells) => v51 (sl.take i) (by omega) (fun y => y.1 == o.num) 130 (.ptr 0 11 0) [fr] fun y _ => v130 y o fr h11
  rw [hon] at hcl
  simp only [PO.cells] at hcl
  simp only [Option.getD_some,Option.isSome_some,oav,PO.cells,splice,List.take_zero,List.nil_append,List.drop_succ_cons,List.drop_zero,List.drop_nil,List.append_nil,List.length_cons,List.length_nil,List.all_cons,List.all_nil,AV.leaf,bnd,lenA,aslice,Option.getD_none,List.length_map,nneg,Int.toNat_natCast,Nat.zero_le,Nat.le_refl,hle,true_or,Nat.sub_zero,← List.map_take,eES,eEX,Nat.reduceBEq,↓reduceIte,Nat.reduceAdd]
  refine aops_callF (hcl _ (by first | rfl | simp only [eES,eEX,Nat.reduceBEq,↓reduceIte,reduceCtorEq,Nat.reduceEqDiff])) (by simp only [List.map_cons,List.map_nil,eES,Nat.reduceBEq] <;> rfl) ?_
  cases ha : (sl.take i).any (fun y => y.1 == x.1)
  ·simp only [Bool.false_eq_true,bnd,lenA,aslice,Option.getD_none,List.length_map,nneg,Int.toNat_natCast,Nat.zero_le,Nat.le_refl,hle,true_or,Nat.sub_zero,← List.map_take,hlen,eES,Nat.reduceBEq,↓reduceIte]
   refine awp_loop (SlI P lv g o sl i) _ ⟨_,_,0,rfl,rfl,Nat.zero_le _,by simp,(by first | rfl | simp only [eES,eEX,Nat.reduceBEq,↓reduceIte,reduceCtorEq,Nat.reduceEqDiff]),(by first | rfl | simp only [eES,eEX,Nat.reduceBEq,↓reduceIte,reduceCtorEq,Nat.reduceEqDiff]),(by first | rfl | simp only [eES,eEX,Nat.reduceBEq,↓reduceIte,reduceCtorEq,Nat.reduceEqDiff]),(by first | rfl | simp only [eES,eEX,Nat.reduceBEq,↓reduceIte,reduceCtorEq,Nat.reduceEqDiff]),(by first | rfl | simp only [eES,eEX,Nat.reduceBEq,↓reduceIte,reduceCtorEq,Nat.reduceEqDiff]),(by first | rfl | simp only [eES,eEX,Nat.reduceBEq,↓reduceIte,reduceCtorEq,Nat.reduceEqDiff]),(by first | rfl | simp only [eES,eEX,Nat.reduceBEq,↓reduceIte,reduceCtorEq,Nat.reduceEqDiff]),(by first | rfl | simp only [eES,eEX,Nat.reduceBEq,↓reduceIte,reduceCtorEq,Nat.reduceEqDiff]),(by first | rfl | simp only [eES,eEX,Nat.reduceBEq,↓reduceIte,reduceCtorEq,Nat.reduceEqDiff]),(by first | rfl | simp only [eES,eEX,Nat.reduceBEq,↓reduceIte,reduceCtorEq,Nat.reduceEqDiff]),(by first | rfl | simp only [eES,eEX,Nat.reduceBEq,↓reduceIte,reduceCtorEq,Nat.reduceEqDiff]),(by first | rfl | simp only [eES,eEX,Nat.reduceBEq,↓reduceIte,reduceCtorEq,Nat.reduceEqDiff]),row2 rfl rfl⟩ ?_
   rintro _ st ⟨f0,fr0,j,rfl,rfl,hji,hq,h20,h30,h40,h50,h60,h110,h360,h370,h380,m50,m60,m110,r15⟩
   refine awp_drops (a:=_) [15,14] r15 ?_
   intro f fr hf hm hn15
   have h2 : f 2 = .list (sl.map V.sav):=by rw [hf,h20] <;> rfl
   have h3 : f 3 = .int .i64 (i : Nat):=by rw [hf,h30] <;> rfl
   have h4 : f 4 = .int .i64 lv:=by rw [hf,h40] <;> rfl
   have h5 : f 5 = .ptr 0 5 0:=by rw [hf,h50] <;> rfl
   have h6 : f 6 = .ptr 0 6 0:=by rw [hf,h60] <;> rfl
   have h11 : f 11 = .ptr 0 11 0:=by rw [hf,h110] <;> rfl
   have h36 : f 36 = .list ((sl.take i).map V.sav):=by rw [hf,h360] <;> rfl
   have h37 : f 37 = .int .i64 (i : Nat):=by rw [hf,h370] <;> rfl
   have h38 : f 38 = .int .i64 (j : Nat):=by rw [hf,h380] <;> rfl
   have m5 : fr 5 = .cells [.list (P.progs.map gav),.list (P.enums.map eav)]:=by rw [hm 5 (by decide),m50] <;> rfl
   have m6 : fr 6 = .cells g.cells:=by rw [hm 6 (by decide),m60] <;> rfl
   have m11 : fr 11 = .cells o.cells:=by rw [hm 11 (by decide),m110] <;> rfl
   have n15:=hn15 15 (by decide)
   have n14:=hn15 14 (by decide)
   clear hf hm hn15 h20 h30 h40 h50 h60 h110 h360 h370 h380 m50 m60 m110 r15
   have m6':=m6
   have m11':=m11
   simp only [PG.cells] at m6
   simp only [PO.cells] at m11
   simp only [g50_7,g50_8,g50_9,g50_10,g50_11,g50_12,h37,h38,eES,Nat.reduceBEq,↓reduceIte]
   by_cases hlt : j < i
   ·obtain ⟨y,hj⟩ : ∃ y,sl[j]? = some y:=⟨sl[j]'(by omega),List.getElem?_eq_getElem (by omega)⟩
    have hj' : (sl.take i)[j]? = some y:=by rw [List.getElem?_take,if_pos hlt]; exact hj
    have hgj:=getS hj'
    have e1:=wi64_s j i hlt (by omega)
    have co2:=co y.1
    have ht : (sl.take (j + 1)).any (uniF g o) = uniF g o y:=by
     rw [List.take_add_one,hj,List.any_append,hq]
     simp
    have hun : uniF g o y = (o.union != -1 && (((opq g y.1).getD PO0).union == o.union)):=rfl
    simp only [lt_t hlt,nneg,Int.toNat_natCast,aiaddr,hgj,n14,splice,List.take_succ_cons,List.take_zero,List.drop_succ_cons,List.drop_zero,List.drop_nil,List.append_nil,List.nil_append,List.length_cons,List.length_nil,h6,h36,h38,m6,eES,eEX,Nat.reduceBEq,↓reduceIte,Nat.reduceAdd,Nat.reduceLeDiff]
    refine aops_call co2 rfl rfl rfl (.inl rfl) ?_
    generalize (opq g y.1).getD PO0 = q at hun
    generalize (opq g y.1).isSome = qb
    have fin : ∀ (f' : Fr) (fr' : Nat → Ob),uniF g o y = false → f' 2 = .list (sl.map V.sav) → f' 3 = .int .i64 (i : Nat) → f' 4 = .int .i64 lv → f' 5 = .ptr 0 5 0 → f' 6 = .ptr 0 6 0 → f' 11 = .ptr 0 11 0 → f' 36 = .list ((sl.take i).map V.sav) → f' 37 = .int .i64 (i : Nat) → f' 38 = .int .i64 ((j + 1 : Nat) : Int) → fr' 5 = .cells [.list (P.progs.map gav),.list (P.enums.map eav)] → fr' 6 = .cells g.cells → fr' 11 = .cells o.cells → (∀ s ∈ [15,14],(fr' s).isRow = false) → ∃ k,k < i - j ∧ SlI P lv g o sl i k ⟨f',[fr'],[]⟩:=by
     intro f' fr' hu b2 b3 b4 b5 b6 b11 b36 b37 b38 c5 c6 c11 c15
     exact ⟨i - (j + 1),by omega,f',fr',j + 1,rfl,rfl,by omega,by rw [ht,hu],b2,b3,b4,b5,b6,b11,b36,b37,b38,c5,c6,c11,c15⟩
    cases a1 : (o.union != -1)
    ·rw [a1,Bool.false_and] at hun
     simp only [oav,PO.cells,a1,n15,splice,List.take_zero,List.drop_succ_cons,List.drop_nil,List.append_nil,List.nil_append,List.length_cons,List.length_nil,List.all_cons,List.all_nil,AV.leaf,h11,h38,m11,e1,eES,eEX,Nat.reduceBEq,↓reduceIte,Nat.reduceAdd,Nat.reduceLeDiff]
     exact fin _ _ hun (by first | rfl | exact h2 | simp only [h2,eES,eEX,Nat.reduceBEq,↓reduceIte,reduceCtorEq,Nat.reduceEqDiff]) (by first | rfl | exact h3 | simp only [h3,eES,eEX,Nat.reduceBEq,↓reduceIte,reduceCtorEq,Nat.reduceEqDiff]) (by first | rfl | exact h4 | simp only [h4,eES,eEX,Nat.reduceBEq,↓reduceIte,reduceCtorEq,Nat.reduceEqDiff]) (by first | rfl | exact h5 | simp only [h5,eES,eEX,Nat.reduceBEq,↓reduceIte,reduceCtorEq,Nat.reduceEqDiff]) (by first | rfl | exact h6 | simp only [h6,eES,eEX,Nat.reduceBEq,↓reduceIte,reduceCtorEq,Nat.reduceEqDiff]) (by first | rfl | exact h11 | simp only [h11,eES,eEX,Nat.reduceBEq,↓reduceIte,reduceCtorEq,Nat.reduceEqDiff]) (by first | rfl | exact h36 | simp only [h36,eES,eEX,Nat.reduceBEq,↓reduceIte,reduceCtorEq,Nat.reduceEqDiff]) (by first | rfl | exact h37 | simp only [h37,eES,eEX,Nat.reduceBEq,↓reduceIte,reduceCtorEq,Nat.reduceEqDiff]) (by first | rfl | simp only [eES,eEX,Nat.reduceBEq,↓reduceIte,reduceCtorEq,Nat.reduceEqDiff]) (by first | rfl | exact m5 | simp only [m5,eES,eEX,Nat.reduceBEq,↓reduceIte,reduceCtorEq,Nat.reduceEqDiff]) (by first | rfl | exact m6' | simp only [m6',eES,eEX,Nat.reduceBEq,↓reduceIte,reduceCtorEq,Nat.reduceEqDiff]) (by first | rfl | exact m11' | simp only [m11',eES,eEX,Nat.reduceBEq,↓reduceIte,reduceCtorEq,Nat.reduceEqDiff]) (row2 rfl rfl)
    ·cases a2 : (q.union == o.union)
     ·rw [a1,a2,Bool.true_and] at hun
      simp only [oav,PO.cells,a1,a2,n15,splice,List.take_zero,List.drop_succ_cons,List.drop_nil,List.append_nil,List.nil_append,List.length_cons,List.length_nil,List.all_cons,List.all_nil,AV.leaf,h11,h38,m11,e1,eES,eEX,Nat.reduceBEq,↓reduceIte,Nat.reduceAdd,Nat.reduceLeDiff]
      exact fin _ _ hun (by first | rfl | exact h2 | simp only [h2,eES,eEX,Nat.reduceBEq,↓reduceIte,reduceCtorEq,Nat.reduceEqDiff]) (by first | rfl | exact h3 | simp only [h3,eES,eEX,Nat.reduceBEq,↓reduceIte,reduceCtorEq,Nat.reduceEqDiff]) (by first | rfl | exact h4 | simp only [h4,eES,eEX,Nat.reduceBEq,↓reduceIte,reduceCtorEq,Nat.reduceEqDiff]) (by first | rfl | exact h5 | simp only [h5,eES,eEX,Nat.reduceBEq,↓reduceIte,reduceCtorEq,Nat.reduceEqDiff]) (by first | rfl | exact h6 | simp only [h6,eES,eEX,Nat.reduceBEq,↓reduceIte,reduceCtorEq,Nat.reduceEqDiff]) (by first | rfl | exact h11 | simp only [h11,eES,eEX,Nat.reduceBEq,↓reduceIte,reduceCtorEq,Nat.reduceEqDiff]) (by first | rfl | exact h36 | simp only [h36,eES,eEX,Nat.reduceBEq,↓reduceIte,reduceCtorEq,Nat.reduceEqDiff]) (by first | rfl | exact h37 | simp only [h37,eES,eEX,Nat.reduceBEq,↓reduceIte,reduceCtorEq,Nat.reduceEqDiff]) (by first | rfl | simp only [eES,eEX,Nat.reduceBEq,↓reduceIte,reduceCtorEq,Nat.reduceEqDiff]) (by first | rfl | exact m5 | simp only [m5,eES,eEX,Nat.reduceBEq,↓reduceIte,reduceCtorEq,Nat.reduceEqDiff]) (by first | rfl | exact m6' | simp only [m6',eES,eEX,Nat.reduceBEq,↓reduceIte,reduceCtorEq,Nat.reduceEqDiff]) (by first | rfl | exact m11' | simp only [m11',eES,eEX,Nat.reduceBEq,↓reduceIte,reduceCtorEq,Nat.reduceEqDiff]) (row2 rfl rfl)
     ·rw [a1,a2,Bool.true_and] at hun
      have hany : (sl.take i).any (uniF g o) = true:=List.any_eq_true.2 ⟨y,List.mem_of_getElem? hj',hun⟩
      rw [hany]
      simp only [oav,PO.cells,a1,a2,n15,splice,List.take_zero,List.drop_succ_cons,List.drop_nil,List.append_nil,List.nil_append,List.length_cons,List.length_nil,List.all_cons,List.all_nil,AV.leaf,h11,m11,eES,eEX,Nat.reduceBEq,↓reduceIte,Nat.reduceAdd,Nat.reduceLeDiff]
   ·have e : j = i:=by omega
    subst e
    have cf:=hfi o hom x.2 (hv x hxm)
    rw [e0,av7] at cf
    simp only [oav,PO.cells] at cf
    rw [hq]
    simp only [lt_f hlt,Bool.false_eq_true,nneg,Int.toNat_natCast,aiaddr,hgi,List.take_succ_cons,List.drop_succ_cons,List.drop_zero,h2,h3,h4,h5,h11,m5,m11,eES,eEX,Nat.reduceBEq,↓reduceIte,Nat.reduceAdd,Nat.reduceLeDiff]
    refine aops_call cf rfl rfl rfl (.inl rfl) ?_
    simp only [eES,Nat.reduceBEq]
  ·simp only [eES,Nat.reduceBEq,↓reduceIte]

def SrI (g : PG) (o : PO) (sl : List (Int × V)) (i : Nat) (n : Int) (k : Nat) (st : St) : Prop :=
 ∃ f fr j,st = ⟨f,[fr],[]⟩ ∧ k = i - j ∧ j ≤ i ∧ (sl.take j).any (fun y => y.1 == n) = false ∧ f 1 = .list (sl.map V.sav) ∧ f 2 = .int .i64 (i : Nat) ∧ f 3 = .ptr 0 3 0 ∧ f 7 = .ptr 0 7 0 ∧ f 9 = .bool ((sl.take j).any (uniF g o)) ∧ f 10 = .int .i64 (j : Nat) ∧ fr 3 = .cells g.cells ∧ fr 7 = .cells o.cells ∧ ∀ s ∈ [11],(fr s).isRow = false

include hg hn hi in
theorem v56 : Fn1 Tryz.prog 56 [gav g,.list (sl.map V.sav),.int .i64 (i : Nat)] (.int .i64 (slotR g sl i)):=by
 obtain ⟨x,hx⟩ : ∃ x,sl[i]? = some x:=⟨sl[i],List.getElem?_eq_getElem hi⟩
 have hxm:=List.mem_of_getElem? hx
 have hgi:=getS hx
 have co:=fun n => y57 g hg.len n
 simp only [opr_opq] at co
 have co1:=co x.1
 unfold slotR
 rw [hx]
 dsimp only
 simp only [gav,PG.cells] at co co1
 refine fn1_of_awp (rc:=r56) (rs:=o56) Tryz.func56 rfl rfl Tryz.ntmps56 k56 q56 (by simp) ?_
 simp only [g56_0,g56_1,g56_2,g56_3,g56_4,g56_5,g56_12,g56_13,g56_14,r56,o56,gav,PG.cells,nneg,Int.toNat_natCast,aiaddr,hgi,List.take_succ_cons,List.drop_zero,eES,eEX,Nat.reduceBEq,↓reduceIte,Nat.reduceAdd,Nat.reduceLeDiff]
 refine aops_call co1 rfl rfl rfl (.inl rfl) ?_
 cases ho : opq g x.1 with
 | none =>
  simp only [Option.getD_none,Option.isSome_none,PO0,oav,PO.cells,splice,List.take_zero,List.nil_append,List.drop_succ_cons,List.drop_nil,List.append_nil,List.length_cons,List.length_nil,List.all_cons,List.all_nil,AV.leaf,eES,eEX,Nat.reduceBEq,↓reduceIte,Nat.reduceAdd,Nat.reduceLeDiff]
 | some o =>
  obtain ⟨hom,hon⟩:=opq_mem ho
  simp only [Option.getD_some,Option.isSome_some,oav,PO.cells,splice,List.take_zero,List.nil_append,List.drop_succ_cons,List.drop_nil,List.append_nil,List.length_cons,List.length_nil,List.all_cons,List.all_nil,AV.leaf,eES,eEX,Nat.reduceBEq,↓reduceIte,Nat.reduceAdd,Nat.reduceLeDiff]
  refine awp_loop (SrI g o sl i x.1) _ ⟨_,_,0,rfl,rfl,Nat.zero_le _,by simp,(by first | rfl | simp only [eES,eEX,Nat.reduceBEq,↓reduceIte,reduceCtorEq,Nat.reduceEqDiff]),(by first | rfl | simp only [eES,eEX,Nat.reduceBEq,↓reduceIte,reduceCtorEq,Nat.reduceEqDiff]),(by first | rfl | simp only [eES,eEX,Nat.reduceBEq,↓reduceIte,reduceCtorEq,Nat.reduceEqDiff]),(by first | rfl | simp only [eES,eEX,Nat.reduceBEq,↓reduceIte,reduceCtorEq,Nat.reduceEqDiff]),(by first | rfl | simp only [eES,eEX,Nat.reduceBEq,↓reduceIte,reduceCtorEq,Nat.reduceEqDiff]),(by first | rfl | simp only [eES,eEX,Nat.reduceBEq,↓reduceIte,reduceCtorEq,Nat.reduceEqDiff]),(by first | rfl | simp only [eES,eEX,Nat.reduceBEq,↓reduceIte,reduceCtorEq,Nat.reduceEqDiff]),(by first | rfl | simp only [eES,eEX,Nat.reduceBEq,↓reduceIte,reduceCtorEq,Nat.reduceEqDiff]),by simp <;> rfl⟩ ?_
  rintro _ st ⟨f0,fr0,j,rfl,rfl,hji,hq,h10,h20,h30,h70,h90,h100,m30,m70,r11⟩
  refine awp_drops (a:=_) [11] r11 ?_
  intro f fr hf hm hn11
  have h1 : f 1 = .list (sl.map V.sav):=by rw [hf,h10] <;> rfl
  have h2 : f 2 = .int .i64 (i : Nat):=by rw [hf,h20] <;> rfl
  have h3 : f 3 = .ptr 0 3 0:=by rw [hf,h30] <;> rfl
  have h7 : f 7 = .ptr 0 7 0:=by rw [hf,h70] <;> rfl
  have h9 : f 9 = .bool ((sl.take j).any (uniF g o)):=by rw [hf,h90] <;> rfl
  have h10' : f 10 = .int .i64 (j : Nat):=by rw [hf,h100] <;> rfl
  have m3 : fr 3 = .cells g.cells:=by rw [hm 3 (by decide),m30] <;> rfl
  have m7 : fr 7 = .cells o.cells:=by rw [hm 7 (by decide),m70] <;> rfl
  have n11:=hn11 11 (by decide)
  clear hf hm hn11 h10 h20 h30 h70 h90 h100 m30 m70 r11
  have m3':=m3
  have m7':=m7
  simp only [PG.cells] at m3
  simp only [PO.cells] at m7
  simp only [g56_6,g56_8,g56_9,g56_10,g56_11,g56_7,h2,h10',eES,Nat.reduceBEq,↓reduceIte]
  by_cases hlt : j < i
  ·obtain ⟨y,hj⟩ : ∃ y,sl[j]? = some y:=⟨sl[j]'(by omega),List.getElem?_eq_getElem (by omega)⟩
   have hj' : (sl.take i)[j]? = some y:=by rw [List.getElem?_take,if_pos hlt]; exact hj
   have hgj:=getS hj
   have e1:=wi64_s j i hlt (by omega)
   have co2:=co y.1
   have ht : ∀ p : Int × V → Bool,(sl.take (j + 1)).any p = ((sl.take j).any p || p y):=fun p => by
    rw [List.take_add_one,hj,List.any_append]
    simp
   have hun : uniF g o y = (o.union != -1 && (((opq g y.1).getD PO0).union == o.union)):=rfl
   simp only [lt_t hlt,nneg,Int.toNat_natCast,aiaddr,hgj,hgi,List.drop_zero,List.length_cons,List.length_nil,h1,h2,h10',eES,eEX,Nat.reduceBEq,↓reduceIte,Nat.reduceAdd]
   cases a0 : (y.1 == x.1)
   ·simp only [nneg,Int.toNat_natCast,aiaddr,hgj,List.take_succ_cons,List.drop_zero,List.length_cons,List.length_nil,h1,h3,h10',m3,eES,eEX,Nat.reduceBEq,↓reduceIte,Nat.reduceAdd,Nat.reduceLeDiff]
    refine aops_call co2 rfl rfl rfl (.inl rfl) ?_
    generalize (opq g y.1).getD PO0 = q at hun
    generalize (opq g y.1).isSome = qb
    have fin : ∀ (f' : Fr) (fr' : Nat → Ob) (b : Bool),((sl.take j).any (uniF g o) || uniF g o y) = b → f' 1 = .list (sl.map V.sav) → f' 2 = .int .i64 (i : Nat) → f' 3 = .ptr 0 3 0 → f' 7 = .ptr 0 7 0 → f' 9 = .bool b → f' 10 = .int .i64 ((j + 1 : Nat) : Int) → fr' 3 = .cells g.cells → fr' 7 = .cells o.cells → (∀ s ∈ [11],(fr' s).isRow = false) → ∃ k,k < i - j ∧ SrI g o sl i x.1 k ⟨f',[fr'],[]⟩:=by
     intro f' fr' b hu b1 b2 b3 b7 b9 b10 c3 c7 c11
     exact ⟨i - (j + 1),by omega,f',fr',j + 1,rfl,rfl,by omega,by rw [ht,hq,a0]; rfl,b1,b2,b3,b7,by rw [b9,ht,hu],b10,c3,c7,c11⟩
    cases ab : (sl.take j).any (uniF g o)
    ·rw [ab] at h9 fin
     cases a1 : (o.union != -1)
     ·rw [a1,Bool.false_and] at hun
      simp only [oav,PO.cells,a1,n11,splice,List.take_zero,List.drop_succ_cons,List.drop_nil,List.append_nil,List.nil_append,List.length_cons,List.length_nil,List.all_cons,List.all_nil,AV.leaf,h7,h9,h10',m7,e1,eES,eEX,Nat.reduceBEq,↓reduceIte,Nat.reduceAdd,Nat.reduceLeDiff]
      exact fin _ _ false (by rw [hun]; rfl) (by first | rfl | exact h1 | simp only [h1,eES,eEX,Nat.reduceBEq,↓reduceIte,reduceCtorEq,Nat.reduceEqDiff]) (by first | rfl | exact h2 | simp only [h2,eES,eEX,Nat.reduceBEq,↓reduceIte,reduceCtorEq,Nat.reduceEqDiff]) (by first | rfl | exact h3 | simp only [h3,eES,eEX,Nat.reduceBEq,↓reduceIte,reduceCtorEq,Nat.reduceEqDiff]) (by first | rfl | exact h7 | simp only [h7,eES,eEX,Nat.reduceBEq,↓reduceIte,reduceCtorEq,Nat.reduceEqDiff]) (by first | rfl | simp only [eES,eEX,Nat.reduceBEq,↓reduceIte,reduceCtorEq,Nat.reduceEqDiff]) (by first | rfl | simp only [eES,eEX,Nat.reduceBEq,↓reduceIte,reduceCtorEq,Nat.reduceEqDiff]) (by first | rfl | exact m3' | simp only [m3',eES,eEX,Nat.reduceBEq,↓reduceIte,reduceCtorEq,Nat.reduceEqDiff]) (by first | rfl | exact m7' | simp only [m7',eES,eEX,Nat.reduceBEq,↓reduceIte,reduceCtorEq,Nat.reduceEqDiff]) (by simp <;> rfl)
     ·cases a2 : (q.union == o.union)
      ·rw [a1,a2,Bool.true_and] at hun
       simp only [oav,PO.cells,a1,a2,n11,splice,List.take_zero,List.drop_succ_cons,List.drop_nil,List.append_nil,List.nil_append,List.length_cons,List.length_nil,List.all_cons,List.all_nil,AV.leaf,h7,h9,h10',m7,e1,eES,eEX,Nat.reduceBEq,↓reduceIte,Nat.reduceAdd,Nat.reduceLeDiff]
       exact fin _ _ false (by rw [hun]; rfl) (by first | rfl | exact h1 | simp only [h1,eES,eEX,Nat.reduceBEq,↓reduceIte,reduceCtorEq,Nat.reduceEqDiff]) (by first | rfl | exact h2 | simp only [h2,eES,eEX,Nat.reduceBEq,↓reduceIte,reduceCtorEq,Nat.reduceEqDiff]) (by first | rfl | exact h3 | simp only [h3,eES,eEX,Nat.reduceBEq,↓reduceIte,reduceCtorEq,Nat.reduceEqDiff]) (by first | rfl | exact h7 | simp only [h7,eES,eEX,Nat.reduceBEq,↓reduceIte,reduceCtorEq,Nat.reduceEqDiff]) (by first | rfl | simp only [eES,eEX,Nat.reduceBEq,↓reduceIte,reduceCtorEq,Nat.reduceEqDiff]) (by first | rfl | simp only [eES,eEX,Nat.reduceBEq,↓reduceIte,reduceCtorEq,Nat.reduceEqDiff]) (by first | rfl | exact m3' | simp only [m3',eES,eEX,Nat.reduceBEq,↓reduceIte,reduceCtorEq,Nat.reduceEqDiff]) (by first | rfl | exact m7' | simp only [m7',eES,eEX,Nat.reduceBEq,↓reduceIte,reduceCtorEq,Nat.reduceEqDiff]) (by simp <;> rfl)
      ·rw [a1,a2,Bool.true_and] at hun
       simp only [oav,PO.cells,a1,a2,n11,splice,List.take_zero,List.drop_succ_cons,List.drop_nil,List.append_nil,List.nil_append,List.length_cons,List.length_nil,List.all_cons,List.all_nil,AV.leaf,h7,h9,h10',m7,e1,eES,eEX,Nat.reduceBEq,↓reduceIte,Nat.reduceAdd,Nat.reduceLeDiff]
       exact fin _ _ true (by rw [hun]; rfl) (by first | rfl | exact h1 | simp only [h1,eES,eEX,Nat.reduceBEq,↓reduceIte,reduceCtorEq,Nat.reduceEqDiff]) (by first | rfl | exact h2 | simp only [h2,eES,eEX,Nat.reduceBEq,↓reduceIte,reduceCtorEq,Nat.reduceEqDiff]) (by first | rfl | exact h3 | simp only [h3,eES,eEX,Nat.reduceBEq,↓reduceIte,reduceCtorEq,Nat.reduceEqDiff]) (by first | rfl | exact h7 | simp only [h7,eES,eEX,Nat.reduceBEq,↓reduceIte,reduceCtorEq,Nat.reduceEqDiff]) (by first | rfl | simp only [eES,eEX,Nat.reduceBEq,↓reduceIte,reduceCtorEq,Nat.reduceEqDiff]) (by first | rfl | simp only [eES,eEX,Nat.reduceBEq,↓reduceIte,reduceCtorEq,Nat.reduceEqDiff]) (by first | rfl | exact m3' | simp only [m3',eES,eEX,Nat.reduceBEq,↓reduceIte,reduceCtorEq,Nat.reduceEqDiff]) (by first | rfl | exact m7' | simp only [m7',eES,eEX,Nat.reduceBEq,↓reduceIte,reduceCtorEq,Nat.reduceEqDiff]) (by simp <;> rfl)
    ·rw [ab] at h9 fin
     simp only [oav,PO.cells,n11,splice,List.take_zero,List.drop_succ_cons,List.drop_nil,List.append_nil,List.nil_append,List.length_cons,List.length_nil,List.all_cons,List.all_nil,AV.leaf,h9,h10',e1,eES,eEX,Nat.reduceBEq,↓reduceIte,Nat.reduceAdd,Nat.reduceLeDiff]
     exact fin _ _ true (by simp) (by first | rfl | exact h1 | simp only [h1,eES,eEX,Nat.reduceBEq,↓reduceIte,reduceCtorEq,Nat.reduceEqDiff]) (by first | rfl | exact h2 | simp only [h2,eES,eEX,Nat.reduceBEq,↓reduceIte,reduceCtorEq,Nat.reduceEqDiff]) (by first | rfl | exact h3 | simp only [h3,eES,eEX,Nat.reduceBEq,↓reduceIte,reduceCtorEq,Nat.reduceEqDiff]) (by first | rfl | exact h7 | simp only [h7,eES,eEX,Nat.reduceBEq,↓reduceIte,reduceCtorEq,Nat.reduceEqDiff]) (by first | rfl | simp only [eES,eEX,Nat.reduceBEq,↓reduceIte,reduceCtorEq,Nat.reduceEqDiff]) (by first | rfl | simp only [eES,eEX,Nat.reduceBEq,↓reduceIte,reduceCtorEq,Nat.reduceEqDiff]) (by first | rfl | exact m3' | simp only [m3',eES,eEX,Nat.reduceBEq,↓reduceIte,reduceCtorEq,Nat.reduceEqDiff]) (by first | rfl | exact m7' | simp only [m7',eES,eEX,Nat.reduceBEq,↓reduceIte,reduceCtorEq,Nat.reduceEqDiff]) (by simp <;> rfl)
   ·have hany : (sl.take i).any (fun y => y.1 == x.1) = true:=List.any_eq_true.2 ⟨y,List.mem_of_getElem? hj',a0⟩
    simp only [hany,eES,Nat.reduceBEq,↓reduceIte]
  ·have e : j = i:=by omega
   subst e
   simp only [lt_f hlt,hq,Bool.false_eq_true,h9,eES,Nat.reduceBEq,↓reduceIte]
   cases hb : (sl.take j).any (uniF g o)
   ·rw [hb] at h9
    simp only [Bool.false_eq_true,eES,Nat.reduceBEq,↓reduceIte]
   ·rw [hb] at h9
    simp only [eES,Nat.reduceBEq,↓reduceIte]

end
end Go.Proofs.YtelhohgmmhbahaaGreatDoor.Va

set_option linter.unusedSimpArgs false
namespace Go.Proofs.YtelhohgmmhbahaaGreatDoor.Va
open Go Am Rc Bt Br Up

def keptO (P : PL) (o : PO) (f : R) : Bool:=o.kind == 9 && o.card != 5 && f.wire == 0 && decide ((f.bits : Int) ≤ 2147483647) && !acp P.enums o.target f.bits
theorem keptF_eq (P : PL) (g : PG) (f : R) : (!keptF P g f) = ((opq g f.num).isSome && !keptO P ((opq g f.num).getD PO0) f):=by
 unfold keptF keptO
 cases opq g f.num <;> rfl
def bad1 (f : R) : Bool:=decide (f.num < 1) || decide (f.num > 65535) || decide (f.wire < 0) || decide (f.wire > 6)
def bad2 (f : R) : Bool:=decide (f.wire ≤ 2) && !(f.data == []) || decide (f.wire > 2) && !((f.bits : Int) == 0)
def bad3 (f : R) : Bool:=f.wire == 3 && decide ((f.data.length : Int) > 4096) || decide ((f.data.length : Int) > 65536)
theorem rawF_eq (P : PL) (g : PG) (f : R) : rawF P g f = if bad1 f = true then 1 else if bad2 f = true then 1 else if (!keptF P g f) = true then 1 else if bad3 f = true then 3 else 0:=rfl
def permF (P : PL) (g : PG) (f : R) : Bool:=!bad1 f && !bad2 f && keptF P g f
theorem rawF_perm (P : PL) (g : PG) (f : R) : rawF P g f = if (!permF P g f) = true then 1 else if bad3 f = true then 3 else 0:=by
 rw [rawF_eq]
 unfold permF
 cases bad1 f <;> cases bad2 f <;> cases keptF P g f <;> simp

section
variable {M : Nat} {P : PL} (hP : P.ok M)

include hP in
theorem raw_kept (o : PO) (w : R) (n7 n9 : Bool) (f : Fr) (fr : Nat → Ob) (h3 : f 3 = .ptr 0 3 0) (h5 : f 5 = .ptr 0 5 0) (h7 : f 7 = .bool n7) (h8 : f 8 = .ptr 0 8 0) (h9 : f 9 = .bool n9)
  (m3 : fr 3 = .cells [.list (P.progs.map gav),.list (P.enums.map eav)]) (m5 : fr 5 = .cells [.int .i64 w.num,.int .i64 w.wire,.int .u64 (w.bits : Nat),.str w.data]) (m8 : fr 8 = .cells o.cells) (Q : St → Prop)
  (hQ : ∀ f,f 5 = .ptr 0 5 0 → f 7 = .bool n7 → f 9 = .bool n9 → f 10 = .bool (keptO P o w) → Q ⟨f,[fr],[]⟩) : aops Tryz.prog g53_3 ⟨f,[fr],[]⟩ Q:=by
 have e0 : P.av = .agg [.list (P.progs.map gav),.list (P.enums.map eav)]:=rfl
 have ha:=y133 P hP o.target w.bits
 rw [e0] at ha
 simp only [PO.cells] at m8
 unfold keptO at hQ
 cases a1 : (o.kind == 9)
 ·rw [a1] at hQ
  simp only [Bool.false_and] at hQ
  simp only [g53_3,a1,h8,m8,eES,eEX,Nat.reduceBEq,↓reduceIte,Nat.reduceAdd]
  exact hQ _ (by first | rfl | exact h5 | simp only [h5,eES,eEX,Nat.reduceBEq,↓reduceIte,reduceCtorEq,Nat.reduceEqDiff]) (by first | rfl | exact h7 | simp only [h7,eES,eEX,Nat.reduceBEq,↓reduceIte,reduceCtorEq,Nat.reduceEqDiff]) (by first | rfl | exact h9 | simp only [h9,eES,eEX,Nat.reduceBEq,↓reduceIte,reduceCtorEq,Nat.reduceEqDiff]) (by first | rfl | simp only [eES,eEX,Nat.reduceBEq,↓reduceIte,reduceCtorEq,Nat.reduceEqDiff])
 cases a2 : (o.card != 5)
 ·rw [a1,a2] at hQ
  simp only [Bool.true_and,Bool.false_and] at hQ
  simp only [g53_3,a1,a2,h8,m8,eES,eEX,Nat.reduceBEq,↓reduceIte,Nat.reduceAdd]
  exact hQ _ (by first | rfl | exact h5 | simp only [h5,eES,eEX,Nat.reduceBEq,↓reduceIte,reduceCtorEq,Nat.reduceEqDiff]) (by first | rfl | exact h7 | simp only [h7,eES,eEX,Nat.reduceBEq,↓reduceIte,reduceCtorEq,Nat.reduceEqDiff]) (by first | rfl | exact h9 | simp only [h9,eES,eEX,Nat.reduceBEq,↓reduceIte,reduceCtorEq,Nat.reduceEqDiff]) (by first | rfl | simp only [eES,eEX,Nat.reduceBEq,↓reduceIte,reduceCtorEq,Nat.reduceEqDiff])
 cases a3 : (w.wire == 0)
 ·rw [a1,a2,a3] at hQ
  simp only [Bool.true_and,Bool.false_and] at hQ
  simp only [g53_3,a1,a2,a3,h5,h8,m5,m8,eES,eEX,Nat.reduceBEq,↓reduceIte,Nat.reduceAdd]
  exact hQ _ (by first | rfl | exact h5 | simp only [h5,eES,eEX,Nat.reduceBEq,↓reduceIte,reduceCtorEq,Nat.reduceEqDiff]) (by first | rfl | exact h7 | simp only [h7,eES,eEX,Nat.reduceBEq,↓reduceIte,reduceCtorEq,Nat.reduceEqDiff]) (by first | rfl | exact h9 | simp only [h9,eES,eEX,Nat.reduceBEq,↓reduceIte,reduceCtorEq,Nat.reduceEqDiff]) (by first | rfl | simp only [eES,eEX,Nat.reduceBEq,↓reduceIte,reduceCtorEq,Nat.reduceEqDiff])
 cases a4 : decide ((w.bits : Int) ≤ 2147483647)
 ·rw [a1,a2,a3,a4] at hQ
  simp only [Bool.true_and,Bool.false_and] at hQ
  simp only [g53_3,a1,a2,a3,a4,h5,h8,m5,m8,eES,eEX,Nat.reduceBEq,↓reduceIte,Nat.reduceAdd]
  exact hQ _ (by first | rfl | exact h5 | simp only [h5,eES,eEX,Nat.reduceBEq,↓reduceIte,reduceCtorEq,Nat.reduceEqDiff]) (by first | rfl | exact h7 | simp only [h7,eES,eEX,Nat.reduceBEq,↓reduceIte,reduceCtorEq,Nat.reduceEqDiff]) (by first | rfl | exact h9 | simp only [h9,eES,eEX,Nat.reduceBEq,↓reduceIte,reduceCtorEq,Nat.reduceEqDiff]) (by first | rfl | simp only [eES,eEX,Nat.reduceBEq,↓reduceIte,reduceCtorEq,Nat.reduceEqDiff])
 rw [a1,a2,a3,a4] at hQ
 simp only [Bool.true_and] at hQ
 simp only [g53_3,a1,a2,a3,a4,h3,h5,h8,m3,m5,m8,eES,eEX,Nat.reduceBEq,↓reduceIte,Nat.reduceAdd,Nat.reduceLeDiff]
 refine aops_call ha rfl rfl rfl (.inl rfl) ?_
 simp only [eES,Nat.reduceBEq]
 exact hQ _ (by first | rfl | exact h5 | simp only [h5,eES,eEX,Nat.reduceBEq,↓reduceIte,reduceCtorEq,Nat.reduceEqDiff]) (by first | rfl | exact h7 | simp only [h7,eES,eEX,Nat.reduceBEq,↓reduceIte,reduceCtorEq,Nat.reduceEqDiff]) (by first | rfl | exact h9 | simp only [h9,eES,eEX,Nat.reduceBEq,↓reduceIte,reduceCtorEq,Nat.reduceEqDiff]) (by first | rfl | simp only [eES,eEX,Nat.reduceBEq,↓reduceIte,reduceCtorEq,Nat.reduceEqDiff])

include hP in
theorem v53 (g : PG) (hg : g.ok M) (w : R) : Fn1 Tryz.prog 53 [P.av,gav g,w.av] (.int .i64 (rawF P g w)):=by
 have e0 : P.av = .agg [.list (P.progs.map gav),.list (P.enums.map eav)]:=rfl
 have co:=y39 g hg.len w.num
 rw [opr_opq] at co
 simp only [gav,PG.cells] at co
 have nd : (w.data != []) = !(w.data == []):=rfl
 have nb : ((w.bits : Int) != 0) = !((w.bits : Int) == 0):=rfl
 have hgt : decide (w.wire > 2) = !decide (w.wire ≤ 2):=(by rw [Bool.eq_iff_iff]; simp only [decide_eq_true_eq,Bool.not_eq_true',decide_eq_false_iff_not]; omega)
 rw [rawF_eq,keptF_eq]
 unfold bad1 bad2 bad3
 rw [hgt]
 refine fn1_of_awp (rc:=r53) (rs:=o53) Tryz.func53 rfl rfl Tryz.ntmps53 k53 q53 (by simp) ?_
 simp only [r53,g53_0,g53_1,g53_2,o53,e0,gav,PG.cells,R.av,eES,eEX,Nat.reduceBEq,↓reduceIte,Nat.reduceAdd,Nat.reduceLeDiff]
 refine aops_call co rfl rfl rfl (.inl rfl) ?_
 generalize (opq g w.num).getD PO0 = q
 generalize (opq g w.num).isSome = kb
 simp only [oav,PO.cells,splice,List.take_zero,List.nil_append,List.drop_succ_cons,List.drop_nil,List.append_nil,List.length_cons,List.length_nil,List.all_cons,List.all_nil,AV.leaf,eES,eEX,Nat.reduceBEq,↓reduceIte,Nat.reduceAdd,Nat.reduceLeDiff]
 refine raw_kept hP q w (decide (w.wire ≤ 2)) kb _ _ (by first | rfl | simp only [eES,eEX,Nat.reduceBEq,↓reduceIte,reduceCtorEq,Nat.reduceEqDiff]) (by first | rfl | simp only [eES,eEX,Nat.reduceBEq,↓reduceIte,reduceCtorEq,Nat.reduceEqDiff]) (by first | rfl | simp only [eES,eEX,Nat.reduceBEq,↓reduceIte,reduceCtorEq,Nat.reduceEqDiff]) (by first | rfl | simp only [eES,eEX,Nat.reduceBEq,↓reduceIte,reduceCtorEq,Nat.reduceEqDiff]) (by first | rfl | simp only [eES,eEX,Nat.reduceBEq,↓reduceIte,reduceCtorEq,Nat.reduceEqDiff]) (by first | rfl | simp only [eES,eEX,Nat.reduceBEq,↓reduceIte,reduceCtorEq,Nat.reduceEqDiff]) (by first | rfl | simp only [eES,eEX,Nat.reduceBEq,↓reduceIte,reduceCtorEq,Nat.reduceEqDiff]) (by first | rfl | simp only [eES,eEX,Nat.reduceBEq,↓reduceIte,reduceCtorEq,Nat.reduceEqDiff]) _ (fun f h5 h7 h9 h10 => ?_)
 generalize keptO P q w = K at h10 ⊢
 simp only [g53_4,h5,eES,eEX,Nat.reduceBEq,↓reduceIte,Nat.reduceAdd]
 cases r1 : decide (w.num < 1)
 case true => simp only [g53_5,Bool.true_or,eES,Nat.reduceBEq,↓reduceIte]
 cases r2 : decide (w.num > 65535)
 case true => simp only [r2,g53_5,Bool.true_or,Bool.false_or,h5,eES,eEX,Nat.reduceBEq,↓reduceIte,Nat.reduceAdd]
 cases r3 : decide (w.wire < 0)
 case true => simp only [r2,r3,g53_5,Bool.true_or,Bool.false_or,h5,eES,eEX,Nat.reduceBEq,↓reduceIte,Nat.reduceAdd]
 cases r4 : decide (w.wire > 6)
 case true => simp only [r2,r3,r4,g53_5,Bool.false_or,h5,eES,eEX,Nat.reduceBEq,↓reduceIte,Nat.reduceAdd]
 simp only [r2,r3,r4,Bool.false_or,Bool.false_eq_true,g53_6,h5,h7,eES,eEX,Nat.reduceBEq,↓reduceIte,Nat.reduceAdd]
 cases s1 : decide (w.wire ≤ 2)
 ·rw [s1] at h7
  cases s2 : ((w.bits : Int) == 0)
  ·simp only [s2,nb,g53_7,Bool.not_false,Bool.false_and,Bool.false_or,h5,h7,eES,eEX,Nat.reduceBEq,↓reduceIte,Nat.reduceAdd]
  ·cases kb <;> cases K <;> simp only [s2,nb,g53_7,g53_8,Bool.not_false,Bool.not_true,Bool.false_and,Bool.and_false,Bool.false_or,Bool.false_eq_true,h5,h7,h9,h10,eES,eEX,Nat.reduceBEq,↓reduceIte,Nat.reduceAdd]
   all_goals (cases t1 : (w.wire == 3) <;> try simp only [Bool.false_and,Bool.true_and,Bool.false_or,h5,eES,eEX,Nat.reduceBEq,↓reduceIte,Nat.reduceAdd])
   all_goals (cases t2 : decide ((w.data.length : Int) > 4096) <;> try simp only [g53_9,Bool.false_or,Bool.true_or,h5,eES,eEX,Nat.reduceBEq,↓reduceIte,Nat.reduceAdd])
   all_goals (cases t3 : decide ((w.data.length : Int) > 65536) <;> try simp only [g53_10,Bool.false_eq_true,eES,Nat.reduceBEq,↓reduceIte])
 ·rw [s1] at h7
  cases s2 : (w.data == [])
  ·simp only [s2,astr,g53_7,Bool.not_false,Bool.not_true,Bool.false_and,Bool.true_or,h5,eES,eEX,Nat.reduceBEq,↓reduceIte,Nat.reduceAdd]
  ·cases kb <;> cases K <;> simp only [s2,astr,g53_7,g53_8,Bool.not_false,Bool.not_true,Bool.false_and,Bool.and_false,Bool.false_or,Bool.false_eq_true,h5,h7,h9,h10,eES,eEX,Nat.reduceBEq,↓reduceIte,Nat.reduceAdd]
   all_goals (cases t1 : (w.wire == 3) <;> try simp only [Bool.false_and,Bool.true_and,Bool.false_or,h5,eES,eEX,Nat.reduceBEq,↓reduceIte,Nat.reduceAdd])
   all_goals (cases t2 : decide ((w.data.length : Int) > 4096) <;> try simp only [g53_9,Bool.false_or,Bool.true_or,h5,eES,eEX,Nat.reduceBEq,↓reduceIte,Nat.reduceAdd])
   all_goals (cases t3 : decide ((w.data.length : Int) > 65536) <;> try simp only [g53_10,Bool.false_eq_true,eES,Nat.reduceBEq,↓reduceIte])

theorem kept_open {o : PO} {x : PE} (w : R) (ho : 0 ≤ o.target ∧ o.target < (P.enums.length : Int)) (hx : P.enums[o.target.toNat]? = some x) (hopn : x.opn = true) : keptO P o w = false:=by
 unfold keptO
 cases hb : decide ((w.bits : Int) ≤ 2147483647)
 ·simp
 ·have : acp P.enums o.target w.bits = true:=by
   unfold acp
   rw [if_pos ⟨ho.1,ho.2,by have:=of_decide_eq_true hb; omega⟩,hx]
   simp [hopn]
  rw [this]
  simp

set_option maxHeartbeats 2000000 in
include hP in
theorem v60 (g : PG) (hg : g.ok M) (hu : ∀ o ∈ g.ops,UO P o) (w : R) : Fn1 Tryz.prog 60 [P.av,gav g,w.av] (.bool (permF P g w)):=by
 have e0 : P.av = .agg [.list (P.progs.map gav),.list (P.enums.map eav)]:=rfl
 have co:=y57 g hg.len w.num
 rw [opr_opq] at co
 simp only [gav,PG.cells] at co
 have nd : (w.data != []) = !(w.data == []):=rfl
 have nb : ((w.bits : Int) != 0) = !((w.bits : Int) == 0):=rfl
 have hgt : decide (w.wire > 2) = !decide (w.wire ≤ 2):=(by rw [Bool.eq_iff_iff]; simp only [decide_eq_true_eq,Bool.not_eq_true',decide_eq_false_iff_not]; omega)
 unfold permF bad1 bad2
 rw [hgt]
 refine fn1_of_awp (rc:=r60) (rs:=o60) Tryz.func60 rfl rfl Tryz.ntmps60 k60 q60 (by simp) ?_
 simp only [g60_0,g60_1,g60_2,g60_3,g60_4,g60_5,g60_6,g60_7,g60_8,r60,o60,e0,gav,PG.cells,R.av,eES,eEX,Nat.reduceBEq,↓reduceIte,Nat.reduceAdd]
 cases r1 : decide (w.num < 1)
 case true => simp only [Bool.true_or,Bool.not_true,Bool.false_and,eES,Nat.reduceBEq]
 cases r2 : decide (w.num > 65535)
 case true => simp only [r2,Bool.true_or,Bool.false_or,Bool.not_true,Bool.false_and,eES,eEX,Nat.reduceBEq,↓reduceIte,Nat.reduceAdd]
 cases r3 : decide (w.wire < 0)
 case true => simp only [r2,r3,Bool.true_or,Bool.false_or,Bool.not_true,Bool.false_and,eES,eEX,Nat.reduceBEq,↓reduceIte,Nat.reduceAdd]
 cases r4 : decide (w.wire > 6)
 case true => simp only [r2,r3,r4,Bool.false_or,Bool.not_true,Bool.false_and,eES,eEX,Nat.reduceBEq,↓reduceIte,Nat.reduceAdd]
 simp only [r2,r3,r4,Bool.false_or,Bool.not_false,Bool.true_and,eES,eEX,Nat.reduceBEq,↓reduceIte,Nat.reduceAdd]
 cases s1 : decide (w.wire ≤ 2) <;> cases s2 : ((w.bits : Int) == 0) <;> cases s3 : (w.data == [])
 all_goals (simp only [hgt,s1,s2,s3,nb,astr,Bool.not_false,Bool.not_true,Bool.true_and,Bool.and_true,Bool.and_false,Bool.false_and,Bool.false_or,Bool.or_false,eES,eEX,Nat.reduceBEq,↓reduceIte,Nat.reduceAdd,Nat.reduceLeDiff])
 all_goals (
  refine aops_call co rfl rfl rfl (.inl rfl) ?_
  unfold keptF
  cases ho : opq g w.num with
  | none =>
   simp only [Option.getD_none,Option.isSome_none,PO0,oav,PO.cells,splice,List.take_zero,List.nil_append,List.drop_succ_cons,List.drop_nil,List.append_nil,List.length_cons,List.length_nil,List.all_cons,List.all_nil,AV.leaf,eES,eEX,Nat.reduceBEq,↓reduceIte,Nat.reduceAdd,Nat.reduceLeDiff]
  | some o =>
   have hom:=(opq_mem ho).1
   have hu:=hu o hom
   have ha:=y137 P hP o.target w.bits
   rw [e0] at ha
   simp only [Option.getD_some,Option.isSome_some,oav,PO.cells,splice,List.take_zero,List.nil_append,List.drop_succ_cons,List.drop_nil,List.append_nil,List.length_cons,List.length_nil,List.all_cons,List.all_nil,AV.leaf,eES,eEX,Nat.reduceBEq,↓reduceIte,Nat.reduceAdd,Nat.reduceLeDiff]
   by_cases hk : o.kind = 9
   ·have a1 : (o.kind == 9) = true:=by simp [hk]
    obtain ⟨t0,t1⟩:=hu.enm hk
    obtain ⟨i,hi⟩:=Int.eq_ofNat_of_zero_le t0
    have hlt : i < P.enums.length:=by omega
    obtain ⟨x,hx⟩ : ∃ x,P.enums[i]? = some x:=⟨P.enums[i],List.getElem?_eq_getElem hlt⟩
    have hxa : (P.enums.map eav)[i]? = some (.agg x.cells):=by simp [hx,eav]
    simp only [PE.cells] at hxa
    have hop : x.opn = true → keptO P o w = false:=fun h => kept_open w ⟨t0,t1⟩ (by rw [hi,Int.toNat_natCast]; exact hx) h
    unfold keptO at hop
    rw [hi] at ha hop
    rw [hi]
    rw [a1,Bool.true_and] at hop
    simp only [a1,nneg,Int.toNat_natCast,aiaddr,hxa,Bool.true_and,eES,eEX,Nat.reduceBEq,↓reduceIte,Nat.reduceAdd]
    cases ax : x.opn
    ·cases a2 : (o.card != 5)
     ·simp only [a2,Bool.not_false,Bool.false_and,eES,eEX,Nat.reduceBEq,↓reduceIte,Nat.reduceAdd]
     cases a3 : (w.wire == 0)
     ·simp only [a2,a3,Bool.not_false,Bool.true_and,Bool.false_and,eES,eEX,Nat.reduceBEq,↓reduceIte,Nat.reduceAdd]
     cases a4 : decide ((w.bits : Int) ≤ 2147483647)
     ·simp only [a2,a3,a4,Bool.not_false,Bool.true_and,Bool.false_and,eES,eEX,Nat.reduceBEq,↓reduceIte,Nat.reduceAdd]
     simp only [a2,a3,a4,Bool.not_false,Bool.true_and,eES,eEX,Nat.reduceBEq,↓reduceIte,Nat.reduceAdd,Nat.reduceLeDiff]
     refine aops_call ha rfl rfl rfl (.inl rfl) ?_
     simp only [eES,Nat.reduceBEq]
    ·simp only [hop ax,Bool.not_true,eES,Nat.reduceBEq]
   ·have a1 : (o.kind == 9) = false:=by simp [hk]
    simp only [a1,Bool.false_and,eES,Nat.reduceBEq])

def SeI (v : V) (n : Int) (k : Nat) (st : St) : Prop :=
 ∃ f fr i,st = ⟨f,[fr],[]⟩ ∧ k = v.slots.length - i ∧ i ≤ v.slots.length ∧ (v.slots.take i).any (fun y => y.1 == n) = false ∧ f 1 = .int .i64 n ∧ f 2 = .ptr 0 2 0 ∧ f 5 = .int .i64 (i : Nat) ∧ fr 2 = .cells (vc v)

theorem v59 (v : V) (hn : v.slots.length ≤ maxLen) (n : Int) : Fn1 Tryz.prog 59 [v.av,.int .i64 n] (.bool (v.slots.any fun y => y.1 == n)):=by
 rw [av7]
 refine fn1_of_awp (rc:=r59) (rs:=o59) Tryz.func59 rfl rfl Tryz.ntmps59 k59 q59 (by simp) ?_
 simp only [g59_0,g59_1,g59_6,r59,o59,eES,eEX]
 refine awp_loop (SeI v n) _ ⟨_,_,0,rfl,rfl,Nat.zero_le _,by simp,(by first | rfl | simp only [eES,eEX,Nat.reduceBEq,↓reduceIte,reduceCtorEq,Nat.reduceEqDiff]),(by first | rfl | simp only [eES,eEX,Nat.reduceBEq,↓reduceIte,reduceCtorEq,Nat.reduceEqDiff]),(by first | rfl | simp only [eES,eEX,Nat.reduceBEq,↓reduceIte,reduceCtorEq,Nat.reduceEqDiff]),(by first | rfl | simp only [eES,eEX,Nat.reduceBEq,↓reduceIte,reduceCtorEq,Nat.reduceEqDiff])⟩ ?_
 rintro _ st ⟨f,fr,i,rfl,rfl,hil,hq,h1,h2,h5,m2⟩
 have m2':=m2
 simp only [vc] at m2
 simp only [l59_0,g59_2,g59_4,g59_5,g59_3,List.length_map,h2,h5,m2,eES,eEX,Nat.reduceBEq,↓reduceIte,Nat.reduceAdd]
 by_cases hlt : i < v.slots.length
 ·obtain ⟨y,hi⟩ : ∃ y,v.slots[i]? = some y:=⟨v.slots[i],List.getElem?_eq_getElem hlt⟩
  have hg:=getS hi
  have e1:=wi64_s i _ hlt hn
  have ht : (v.slots.take (i + 1)).any (fun y => y.1 == n) = (y.1 == n):=by
   rw [List.take_add_one,hi,List.any_append,hq]
   simp
  simp only [lt_t hlt,nneg,Int.toNat_natCast,aiaddr,hg,h1,h2,h5,m2,eES,eEX,Nat.reduceBEq,↓reduceIte,Nat.reduceAdd]
  cases a : (y.1 == n)
  ·simp only [h5,e1,eES,Nat.reduceBEq,↓reduceIte]
   exact ⟨v.slots.length - (i + 1),by omega,_,_,i + 1,rfl,rfl,by omega,by rw [ht,a],(by first | rfl | exact h1 | simp only [h1,eES,eEX,Nat.reduceBEq,↓reduceIte,reduceCtorEq,Nat.reduceEqDiff]),(by first | rfl | exact h2 | simp only [h2,eES,eEX,Nat.reduceBEq,↓reduceIte,reduceCtorEq,Nat.reduceEqDiff]),(by first | rfl | simp only [eES,eEX,Nat.reduceBEq,↓reduceIte,reduceCtorEq,Nat.reduceEqDiff]),(by first | rfl | exact m2' | simp only [m2',eES,eEX,Nat.reduceBEq,↓reduceIte,reduceCtorEq,Nat.reduceEqDiff])⟩
  ·have hany : (v.slots.any fun y => y.1 == n) = true:=List.any_eq_true.2 ⟨y,List.mem_of_getElem? hi,a⟩
   simp only [hany,eES,Nat.reduceBEq]
 ·have hq' : (v.slots.any fun y => y.1 == n) = false:=by rw [← hq,List.take_of_length_le (by omega)]
  simp only [lt_f hlt,hq',eES,Nat.reduceBEq,↓reduceIte]

theorem v52 (y : Int × V) (o : PO) (frO : Nat → Ob) (hf : frO 12 = .cells o.cells) :
  ACalls Tryz.prog 52 [V.sav y,.ptr 2 12 0] [noObs,noObs,frO] fun v m1 => v = .bool (y.1 == o.num) ∧ m1 = [noObs,noObs,frO]:=by
 simp only [PO.cells] at hf
 rw [sav8]
 refine acalls_of_awp (rc:=r52) (rs:=o52) Tryz.func52 rfl rfl Tryz.ntmps52 k52 q52 (by simp) ?_
 simp only [g52_0,g52_1,r52,o52,hf,eES,eEX,Nat.reduceBEq,↓reduceIte,Nat.reduceAdd]

end
end Go.Proofs.YtelhohgmmhbahaaGreatDoor.Va

set_option linter.unusedSimpArgs false
namespace Go.Proofs.YtelhohgmmhbahaaGreatDoor.Va
open Go Am Rc Bt Br Up

def misO (sl : List (Int × V)) (o : PO) : Bool:=o.card == 1 && !sl.any fun y => y.1 == o.num
theorem misF_eq (g : PG) (sl : List (Int × V)) : misF g sl = g.ops.any (misO sl):=rfl

theorem getR {l : List R} {i : Nat} {x : R} (h : l[i]? = some x) : (l.map R.av)[i]? = some (.agg [.int .i64 x.num,.int .i64 x.wire,.int .u64 (x.bits : Nat),.str x.data]):=by
 rw [List.getElem?_map,h,Option.map_some,R.av]
theorem getO {l : List PO} {i : Nat} {o : PO} (h : l[i]? = some o) : (l.map fun o => AV.agg o.cells)[i]? = some (.agg [.int .i64 o.num,.str o.name,.str o.alias,.int .i64 o.card,.int .i64 o.key,.int .i64 o.kind,.int .i64 o.target,.int .i64 o.union]):=by
 rw [List.getElem?_map,h,Option.map_some,PO.cells]

section
variable {M : Nat} {P : PL} (hP : P.ok M) {m : PG → V → Int} {lv : Int} (g : PG) (hg : g.ok M) (v : V) (hv : v.ok M)

def MrI (P : PL) (g : PG) (v : V) (k : Nat) (st : St) : Prop :=
 ∃ f fr i,st = ⟨f,[fr],[]⟩ ∧ k = v.raws.length - i ∧ fei (rawsF P g v.raws) v.raws.length 0 = fei (rawsF P g v.raws) (v.raws.length - i) i ∧ f 4 = .ptr 0 4 0 ∧ f 5 = .ptr 0 5 0 ∧ f 63 = .list (v.raws.map R.av) ∧ f 64 = .int .i64 (v.raws.length : Nat) ∧ f 65 = .int .i64 (i : Nat) ∧ fr 4 = .cells [.list (P.progs.map gav),.list (P.enums.map eav)] ∧ fr 5 = .cells g.cells ∧ ∀ s ∈ [14],(fr s).isRow = false

include hP hg hv in
theorem raws_loop (f : Fr) (fr : Nat → Ob) (h4 : f 4 = .ptr 0 4 0) (h5 : f 5 = .ptr 0 5 0) (h63 : f 63 = .list (v.raws.map R.av)) (h64 : f 64 = .int .i64 (v.raws.length : Nat)) (h65 : f 65 = .int .i64 0)
  (m4 : fr 4 = .cells [.list (P.progs.map gav),.list (P.enums.map eav)]) (m5 : fr 5 = .cells g.cells) (r14 : ∀ s ∈ [14],(fr s).isRow = false) (Q : Exit → St → Prop)
  (q1 : fei (rawsF P g v.raws) v.raws.length 0 ≠ 0 → ∀ f fr,f 8 = .int .i64 (fei (rawsF P g v.raws) v.raws.length 0) → Q .ret (⟨f,[fr],[]⟩ : St))
  (q2 : fei (rawsF P g v.raws) v.raws.length 0 = 0 → ∀ f fr,Q (.exit 5) (⟨f,[fr],[]⟩ : St)) : awp Tryz.prog (.loop l18_2) ⟨f,[fr],[]⟩ Q:=by
 have e0 : P.av = .agg [.list (P.progs.map gav),.list (P.enums.map eav)]:=rfl
 refine awp_loop (MrI P g v) _ ⟨f,fr,0,rfl,rfl,rfl,h4,h5,h63,h64,h65,m4,m5,r14⟩ ?_
 clear h4 h5 h63 h64 h65 m4 m5 r14
 rintro _ st ⟨f0,fr0,i,rfl,rfl,hx,h40,h50,h630,h640,h650,m40,m50,r14⟩
 refine awp_drops (a:=_) [14] r14 ?_
 intro f fr hf hm hn
 have h4 : f 4 = .ptr 0 4 0:=by rw [hf,h40] <;> rfl
 have h5 : f 5 = .ptr 0 5 0:=by rw [hf,h50] <;> rfl
 have h63 : f 63 = .list (v.raws.map R.av):=by rw [hf,h630] <;> rfl
 have h64 : f 64 = .int .i64 (v.raws.length : Nat):=by rw [hf,h640] <;> rfl
 have h65 : f 65 = .int .i64 (i : Nat):=by rw [hf,h650] <;> rfl
 have m4 : fr 4 = .cells [.list (P.progs.map gav),.list (P.enums.map eav)]:=by rw [hm 4 (by decide),m40] <;> rfl
 have m5 : fr 5 = .cells g.cells:=by rw [hm 5 (by decide),m50] <;> rfl
 have n14:=hn 14 (by decide)
 clear hf hm hn h40 h50 h630 h640 h650 m40 m50 r14
 have m5':=m5
 simp only [PG.cells] at m5
 simp only [g18_19,g18_20,g18_21,g18_22,g18_23,g18_24,h64,h65,eES,Nat.reduceBEq,↓reduceIte]
 by_cases hlt : i < v.raws.length
 ·obtain ⟨x,hi⟩ : ∃ x,v.raws[i]? = some x:=⟨v.raws[i],List.getElem?_eq_getElem hlt⟩
  have hgi:=getR hi
  have e1:=wi64_s i _ hlt (by have:=hv.nr; simp only [maxLen]; omega)
  have c1:=v53 hP g hg x
  rw [e0] at c1
  simp only [gav,PG.cells,R.av] at c1
  simp only [lt_t hlt,nneg,Int.toNat_natCast,aiaddr,hgi,n14,splice,List.take_succ_cons,List.take_zero,List.drop_succ_cons,List.drop_zero,List.drop_nil,List.append_nil,List.nil_append,List.length_cons,List.length_nil,h4,h5,h63,h65,m4,m5,eES,eEX,Nat.reduceBEq,↓reduceIte,Nat.reduceAdd,Nat.reduceLeDiff]
  refine aops_call c1 rfl rfl rfl (.inl rfl) ?_
  by_cases hy : rawF P g x = 0
  ·rw [fei_go hlt ((rawsF_at hi).trans hy)] at hx
   have d0 : ((0 : Int) != 0) = false:=rfl
   simp only [hy,d0,h65,e1,eES,Nat.reduceBEq,↓reduceIte]
   exact ⟨v.raws.length - (i + 1),by omega,_,_,i + 1,rfl,rfl,hx,(by first | rfl | exact h4 | simp only [h4,eES,eEX,Nat.reduceBEq,↓reduceIte,reduceCtorEq,Nat.reduceEqDiff]),(by first | rfl | exact h5 | simp only [h5,eES,eEX,Nat.reduceBEq,↓reduceIte,reduceCtorEq,Nat.reduceEqDiff]),(by first | rfl | exact h63 | simp only [h63,eES,eEX,Nat.reduceBEq,↓reduceIte,reduceCtorEq,Nat.reduceEqDiff]),(by first | rfl | exact h64 | simp only [h64,eES,eEX,Nat.reduceBEq,↓reduceIte,reduceCtorEq,Nat.reduceEqDiff]),(by first | rfl | simp only [eES,eEX,Nat.reduceBEq,↓reduceIte,reduceCtorEq,Nat.reduceEqDiff]),(by first | rfl | exact m4 | simp only [m4,eES,eEX,Nat.reduceBEq,↓reduceIte,reduceCtorEq,Nat.reduceEqDiff]),(by first | rfl | exact m5' | simp only [m5',eES,eEX,Nat.reduceBEq,↓reduceIte,reduceCtorEq,Nat.reduceEqDiff]),by simp <;> rfl⟩
  ·rw [fei_st hlt (rawsF_at hi) hy] at hx
   have d1 : (rawF P g x != 0) = true:=by simp [hy]
   simp only [d1,eES,Nat.reduceBEq,↓reduceIte]
   exact q1 (by rw [hx]; exact hy) _ _ (by rw [hx]; exact (by first | rfl | simp only [eES,eEX,Nat.reduceBEq,↓reduceIte,reduceCtorEq,Nat.reduceEqDiff]))
 ·rw [fei_end hlt] at hx
  simp only [lt_f hlt,eES]
  exact q2 hx _ _

def MoI (P : PL) (g : PG) (v : V) (k : Nat) (st : St) : Prop :=
 ∃ f fr i,st = ⟨f,[fr],[]⟩ ∧ k = g.ops.length - i ∧ i ≤ g.ops.length ∧ (g.ops.take i).any (misO v.slots) = false ∧ f 4 = .ptr 0 4 0 ∧ f 5 = .ptr 0 5 0 ∧ f 6 = .ptr 0 6 0 ∧ f 45 = .list (g.ops.map fun o => .agg o.cells) ∧ f 46 = .int .i64 (g.ops.length : Nat) ∧ f 47 = .int .i64 (i : Nat) ∧ fr 4 = .cells [.list (P.progs.map gav),.list (P.enums.map eav)] ∧ fr 5 = .cells g.cells ∧ fr 6 = .cells (vc v) ∧ ∀ s ∈ [12],(fr s).isRow = false

include hg hv in
theorem ops_loop (f : Fr) (fr : Nat → Ob) (h4 : f 4 = .ptr 0 4 0) (h5 : f 5 = .ptr 0 5 0) (h6 : f 6 = .ptr 0 6 0) (h45 : f 45 = .list (g.ops.map fun o => .agg o.cells)) (h46 : f 46 = .int .i64 (g.ops.length : Nat)) (h47 : f 47 = .int .i64 0)
  (m4 : fr 4 = .cells [.list (P.progs.map gav),.list (P.enums.map eav)]) (m5 : fr 5 = .cells g.cells) (m6 : fr 6 = .cells (vc v)) (r12 : ∀ s ∈ [12],(fr s).isRow = false) (Q : Exit → St → Prop)
  (q1 : misF g v.slots = true → ∀ f fr,f 8 = .int .i64 14 → Q .ret (⟨f,[fr],[]⟩ : St))
  (q2 : misF g v.slots = false → ∀ f fr,f 4 = .ptr 0 4 0 → f 5 = .ptr 0 5 0 → f 6 = .ptr 0 6 0 → fr 4 = .cells [.list (P.progs.map gav),.list (P.enums.map eav)] → fr 5 = .cells g.cells → fr 6 = .cells (vc v) → fr 14 = .none → Q (.exit 3) (⟨f,[fr],[]⟩ : St))
  (r14 : fr 14 = .none) : awp Tryz.prog (.loop l18_1) ⟨f,[fr],[]⟩ Q:=by
 let I : Nat → St → Prop:=fun k st => MoI P g v k st ∧ ∀ f fr,st = ⟨f,[fr],[]⟩ → fr 14 = .none
 have mk : ∀ k st,MoI P g v k st → ∀ f fr,st = ⟨f,[fr],[]⟩ → fr 14 = .none → I k st:=fun k st h f fr e n => ⟨h,fun f' fr' e' => by
  rw [e] at e'
  injection e' with _ e2 _
  injection e2 with e3 _
  rw [← e3]; exact n⟩
 refine awp_loop I _ (mk _ _ ⟨f,fr,0,rfl,rfl,Nat.zero_le _,by simp,h4,h5,h6,h45,h46,h47,m4,m5,m6,r12⟩ _ _ rfl r14) ?_
 clear h4 h5 h6 h45 h46 h47 m4 m5 m6 r12 r14
 rintro _ st ⟨⟨f0,fr0,i,rfl,rfl,hil,hq,h40,h50,h60,h450,h460,h470,m40,m50,m60,r12⟩,r14⟩
 have r14:=r14 _ _ rfl
 refine awp_drops (a:=_) [12] r12 ?_
 intro f fr hf hm hn
 have h4 : f 4 = .ptr 0 4 0:=by rw [hf,h40] <;> rfl
 have h5 : f 5 = .ptr 0 5 0:=by rw [hf,h50] <;> rfl
 have h6 : f 6 = .ptr 0 6 0:=by rw [hf,h60] <;> rfl
 have h45 : f 45 = .list (g.ops.map fun o => .agg o.cells):=by rw [hf,h450] <;> rfl
 have h46 : f 46 = .int .i64 (g.ops.length : Nat):=by rw [hf,h460] <;> rfl
 have h47 : f 47 = .int .i64 (i : Nat):=by rw [hf,h470] <;> rfl
 have m4 : fr 4 = .cells [.list (P.progs.map gav),.list (P.enums.map eav)]:=by rw [hm 4 (by decide),m40] <;> rfl
 have m5 : fr 5 = .cells g.cells:=by rw [hm 5 (by decide),m50] <;> rfl
 have m6 : fr 6 = .cells (vc v):=by rw [hm 6 (by decide),m60] <;> rfl
 have n14 : fr 14 = .none:=by rw [hm 14 (by decide),r14] <;> rfl
 have n12:=hn 12 (by decide)
 clear hf hm hn h40 h50 h60 h450 h460 h470 m40 m50 m60 r12 r14
 have m6':=m6
 simp only [vc] at m6
 simp only [g18_13,g18_14,g18_15,g18_16,g18_17,h46,h47,eES,Nat.reduceBEq,↓reduceIte]
 by_cases hlt : i < g.ops.length
 ·obtain ⟨o,hi⟩ : ∃ o,g.ops[i]? = some o:=⟨g.ops[i],List.getElem?_eq_getElem hlt⟩
  have hgi:=getO hi
  have e1:=wi64_s i _ hlt hg.len
  have ht : (g.ops.take (i + 1)).any (misO v.slots) = misO v.slots o:=by
   rw [List.take_add_one,hi,List.any_append,hq]
   simp
  have hmi : misO v.slots o = (o.card == 1 && !v.slots.any fun y => y.1 == o.num):=rfl
  have fin : ∀ (f' : Fr) (fr' : Nat → Ob),misO v.slots o = false → f' 4 = .ptr 0 4 0 → f' 5 = .ptr 0 5 0 → f' 6 = .ptr 0 6 0 → f' 45 = .list (g.ops.map fun o => .agg o.cells) → f' 46 = .int .i64 (g.ops.length : Nat) → f' 47 = .int .i64 ((i + 1 : Nat) : Int) → fr' 4 = .cells [.list (P.progs.map gav),.list (P.enums.map eav)] → fr' 5 = .cells g.cells → fr' 6 = .cells (vc v) → (∀ s ∈ [12],(fr' s).isRow = false) → fr' 14 = .none → ∃ k,k < g.ops.length - i ∧ I k ⟨f',[fr'],[]⟩:=by
   intro f' fr' hu b4 b5 b6 b45 b46 b47 c4 c5 c6 c12 c14
   exact ⟨g.ops.length - (i + 1),by omega,mk _ _ ⟨f',fr',i + 1,rfl,rfl,by omega,by rw [ht,hu],b4,b5,b6,b45,b46,b47,c4,c5,c6,c12⟩ _ _ rfl c14⟩
  simp only [lt_t hlt,nneg,Int.toNat_natCast,aiaddr,hgi,n12,splice,List.take_succ_cons,List.take_zero,List.drop_succ_cons,List.drop_zero,List.drop_nil,List.append_nil,List.nil_append,List.length_cons,List.length_nil,h45,h47,eES,eEX,Nat.reduceBEq,↓reduceIte,Nat.reduceAdd,Nat.reduceLeDiff]
  cases a1 : (o.card == 1)
  ·rw [a1,Bool.false_and] at hmi
   simp only [h47,e1,eES,Nat.reduceBEq,↓reduceIte]
   exact fin _ _ hmi (by first | rfl | exact h4 | simp only [h4,eES,eEX,Nat.reduceBEq,↓reduceIte,reduceCtorEq,Nat.reduceEqDiff]) (by first | rfl | exact h5 | simp only [h5,eES,eEX,Nat.reduceBEq,↓reduceIte,reduceCtorEq,Nat.reduceEqDiff]) (by first | rfl | exact h6 | simp only [h6,eES,eEX,Nat.reduceBEq,↓reduceIte,reduceCtorEq,Nat.reduceEqDiff]) (by first | rfl | exact h45 | simp only [h45,eES,eEX,Nat.reduceBEq,↓reduceIte,reduceCtorEq,Nat.reduceEqDiff]) (by first | rfl | exact h46 | simp only [h46,eES,eEX,Nat.reduceBEq,↓reduceIte,reduceCtorEq,Nat.reduceEqDiff]) (by first | rfl | simp only [eES,eEX,Nat.reduceBEq,↓reduceIte,reduceCtorEq,Nat.reduceEqDiff]) (by first | rfl | exact m4 | simp only [m4,eES,eEX,Nat.reduceBEq,↓reduceIte,reduceCtorEq,Nat.reduceEqDiff]) (by first | rfl | exact m5 | simp only [m5,eES,eEX,Nat.reduceBEq,↓reduceIte,reduceCtorEq,Nat.reduceEqDiff]) (by first | rfl | exact m6' | simp only [m6',eES,eEX,Nat.reduceBEq,↓reduceIte,reduceCtorEq,Nat.reduceEqDiff]) (by simp <;> rfl) (by first | rfl | exact n14 | simp only [n14,eES,eEX,Nat.reduceBEq,↓reduceIte,reduceCtorEq,Nat.reduceEqDiff])
  ·rw [a1,Bool.true_and] at hmi
   have hcl:=fun (fr : Nat → Ob) (h12 : fr 12 = .cells o.cells) => v51 v.slots (by have:=hv.ns; simp only [maxLen]; omega) (fun y => y.1 == o.num) 52 (.ptr 0 12 0) [fr] fun y _ => v52 y o fr h12
   simp only [PO.cells] at hcl
   simp only [h6,m6,eES,eEX,Nat.reduceBEq,Nat.reduceAdd]
   refine aops_callF (hcl _ (by first | rfl | simp only [eES,eEX,Nat.reduceBEq,↓reduceIte,reduceCtorEq,Nat.reduceEqDiff])) (by simp only [List.map_cons,List.map_nil,eES,Nat.reduceBEq] <;> rfl) ?_
   cases a2 : v.slots.any (fun y => y.1 == o.num)
   ·rw [a2] at hmi
    have hany : misF g v.slots = true:=List.any_eq_true.2 ⟨o,List.mem_of_getElem? hi,by show misO v.slots o = true; rw [hmi]; rfl⟩
    simp only [eES,Nat.reduceBEq]
    exact q1 hany _ _ (by first | rfl | simp only [eES,eEX,Nat.reduceBEq,↓reduceIte,reduceCtorEq,Nat.reduceEqDiff])
   ·rw [a2] at hmi
    simp only [h47,e1,eES,Nat.reduceBEq,↓reduceIte]
    exact fin _ _ hmi (by first | rfl | exact h4 | simp only [h4,eES,eEX,Nat.reduceBEq,↓reduceIte,reduceCtorEq,Nat.reduceEqDiff]) (by first | rfl | exact h5 | simp only [h5,eES,eEX,Nat.reduceBEq,↓reduceIte,reduceCtorEq,Nat.reduceEqDiff]) (by first | rfl | exact h6 | simp only [h6,eES,eEX,Nat.reduceBEq,↓reduceIte,reduceCtorEq,Nat.reduceEqDiff]) (by first | rfl | exact h45 | simp only [h45,eES,eEX,Nat.reduceBEq,↓reduceIte,reduceCtorEq,Nat.reduceEqDiff]) (by first | rfl | exact h46 | simp only [h46,eES,eEX,Nat.reduceBEq,↓reduceIte,reduceCtorEq,Nat.reduceEqDiff]) (by first | rfl | simp only [eES,eEX,Nat.reduceBEq,↓reduceIte,reduceCtorEq,Nat.reduceEqDiff]) (by first | rfl | exact m4 | simp only [m4,eES,eEX,Nat.reduceBEq,↓reduceIte,reduceCtorEq,Nat.reduceEqDiff]) (by first | rfl | exact m5 | simp only [m5,eES,eEX,Nat.reduceBEq,↓reduceIte,reduceCtorEq,Nat.reduceEqDiff]) (by first | rfl | exact m6' | simp only [m6',eES,eEX,Nat.reduceBEq,↓reduceIte,reduceCtorEq,Nat.reduceEqDiff]) (by simp <;> rfl) (by first | rfl | exact n14 | simp only [n14,eES,eEX,Nat.reduceBEq,↓reduceIte,reduceCtorEq,Nat.reduceEqDiff])
 ·have hq' : misF g v.slots = false:=by rw [misF_eq,← hq,List.take_of_length_le (by omega)]
  simp only [lt_f hlt,eES]
  exact q2 hq' _ _ (by first | rfl | exact h4 | simp only [h4,eES,eEX,Nat.reduceBEq,↓reduceIte,reduceCtorEq,Nat.reduceEqDiff]) (by first | rfl | exact h5 | simp only [h5,eES,eEX,Nat.reduceBEq,↓reduceIte,reduceCtorEq,Nat.reduceEqDiff]) (by first | rfl | exact h6 | simp only [h6,eES,eEX,Nat.reduceBEq,↓reduceIte,reduceCtorEq,Nat.reduceEqDiff]) (by first | rfl | exact m4 | simp only [m4,eES,eEX,Nat.reduceBEq,↓reduceIte,reduceCtorEq,Nat.reduceEqDiff]) (by first | rfl | exact m5 | simp only [m5,eES,eEX,Nat.reduceBEq,↓reduceIte,reduceCtorEq,Nat.reduceEqDiff]) (by first | rfl | exact m6' | simp only [m6',eES,eEX,Nat.reduceBEq,↓reduceIte,reduceCtorEq,Nat.reduceEqDiff]) (by first | rfl | exact n14 | simp only [n14,eES,eEX,Nat.reduceBEq,↓reduceIte,reduceCtorEq,Nat.reduceEqDiff])

def MsI (m : PG → V → Int) (P : PL) (lv : Int) (g : PG) (v : V) (k : Nat) (st : St) : Prop :=
 ∃ f fr i,st = ⟨f,[fr],[]⟩ ∧ k = v.slots.length - i ∧ fei (slotF m P g v.slots) v.slots.length 0 = fei (slotF m P g v.slots) (v.slots.length - i) i ∧ f 3 = .int .i64 lv ∧ f 4 = .ptr 0 4 0 ∧ f 5 = .ptr 0 5 0 ∧ f 6 = .ptr 0 6 0 ∧ f 29 = .int .i64 (v.slots.length : Nat) ∧ f 30 = .int .i64 (i : Nat) ∧ fr 4 = .cells [.list (P.progs.map gav),.list (P.enums.map eav)] ∧ fr 5 = .cells g.cells ∧ fr 6 = .cells (vc v) ∧ fr 12 = .none ∧ fr 14 = .none

include hv in
theorem slots_loop (hsl : ∀ i,i < v.slots.length → Fn1 Tryz.prog 50 [P.av,gav g,.list (v.slots.map V.sav),.int .i64 (i : Nat),.int .i64 lv] (.int .i64 (slotF m P g v.slots i)))
  (f : Fr) (fr : Nat → Ob) (h3 : f 3 = .int .i64 lv) (h4 : f 4 = .ptr 0 4 0) (h5 : f 5 = .ptr 0 5 0) (h6 : f 6 = .ptr 0 6 0) (h29 : f 29 = .int .i64 (v.slots.length : Nat)) (h30 : f 30 = .int .i64 0)
  (m4 : fr 4 = .cells [.list (P.progs.map gav),.list (P.enums.map eav)]) (m5 : fr 5 = .cells g.cells) (m6 : fr 6 = .cells (vc v)) (n12 : fr 12 = .none) (n14 : fr 14 = .none) (Q : Exit → St → Prop)
  (q1 : fei (slotF m P g v.slots) v.slots.length 0 ≠ 0 → ∀ f fr,f 8 = .int .i64 (fei (slotF m P g v.slots) v.slots.length 0) → Q .ret (⟨f,[fr],[]⟩ : St))
  (q2 : fei (slotF m P g v.slots) v.slots.length 0 = 0 → ∀ f fr,f 4 = .ptr 0 4 0 → f 5 = .ptr 0 5 0 → f 6 = .ptr 0 6 0 → fr 4 = .cells [.list (P.progs.map gav),.list (P.enums.map eav)] → fr 5 = .cells g.cells → fr 6 = .cells (vc v) → fr 12 = .none → fr 14 = .none → Q (.exit 1) (⟨f,[fr],[]⟩ : St)) :
  awp Tryz.prog (.loop l18_0) ⟨f,[fr],[]⟩ Q:=by
 have e0 : P.av = .agg [.list (P.progs.map gav),.list (P.enums.map eav)]:=rfl
 refine awp_loop (MsI m P lv g v) _ ⟨f,fr,0,rfl,rfl,rfl,h3,h4,h5,h6,h29,h30,m4,m5,m6,n12,n14⟩ ?_
 clear h3 h4 h5 h6 h29 h30 m4 m5 m6 n12 n14
 rintro _ st ⟨f,fr,i,rfl,rfl,hx,h3,h4,h5,h6,h29,h30,m4,m5,m6,n12,n14⟩
 have m5':=m5
 have m6':=m6
 simp only [PG.cells] at m5
 simp only [vc] at m6
 simp only [l18_0,g18_6,g18_7,g18_8,g18_9,g18_10,g18_11,h29,h30,eES,Nat.reduceBEq,↓reduceIte]
 by_cases hlt : i < v.slots.length
 ·have e1:=wi64_s i _ hlt (by have:=hv.ns; simp only [maxLen]; omega)
  have c1:=hsl i hlt
  rw [e0] at c1
  simp only [gav,PG.cells] at c1
  simp only [lt_t hlt,h3,h4,h5,h6,h30,m4,m5,m6,eES,eEX,Nat.reduceBEq,↓reduceIte,Nat.reduceAdd,Nat.reduceLeDiff]
  refine aops_call c1 rfl rfl rfl (.inl rfl) ?_
  by_cases hy : slotF m P g v.slots i = 0
  ·rw [fei_go hlt hy] at hx
   have d0 : ((0 : Int) != 0) = false:=rfl
   simp only [hy,d0,h30,e1,eES,Nat.reduceBEq,↓reduceIte]
   exact ⟨v.slots.length - (i + 1),by omega,_,_,i + 1,rfl,rfl,hx,(by first | rfl | exact h3 | simp only [h3,eES,eEX,Nat.reduceBEq,↓reduceIte,reduceCtorEq,Nat.reduceEqDiff]),(by first | rfl | exact h4 | simp only [h4,eES,eEX,Nat.reduceBEq,↓reduceIte,reduceCtorEq,Nat.reduceEqDiff]),(by first | rfl | exact h5 | simp only [h5,eES,eEX,Nat.reduceBEq,↓reduceIte,reduceCtorEq,Nat.reduceEqDiff]),(by first | rfl | exact h6 | simp only [h6,eES,eEX,Nat.reduceBEq,↓reduceIte,reduceCtorEq,Nat.reduceEqDiff]),(by first | rfl | exact h29 | simp only [h29,eES,eEX,Nat.reduceBEq,↓reduceIte,reduceCtorEq,Nat.reduceEqDiff]),(by first | rfl | simp only [eES,eEX,Nat.reduceBEq,↓reduceIte,reduceCtorEq,Nat.reduceEqDiff]),(by first | rfl | exact m4 | simp only [m4,eES,eEX,Nat.reduceBEq,↓reduceIte,reduceCtorEq,Nat.reduceEqDiff]),(by first | rfl | exact m5' | simp only [m5',eES,eEX,Nat.reduceBEq,↓reduceIte,reduceCtorEq,Nat.reduceEqDiff]),(by first | rfl | exact m6' | simp only [m6',eES,eEX,Nat.reduceBEq,↓reduceIte,reduceCtorEq,Nat.reduceEqDiff]),n12,n14⟩
  ·rw [fei_st hlt rfl hy] at hx
   have d1 : (slotF m P g v.slots i != 0) = true:=by simp [hy]
   simp only [d1,eES,Nat.reduceBEq,↓reduceIte]
   exact q1 (by rw [hx]; exact hy) _ _ (by rw [hx]; exact (by first | rfl | simp only [eES,eEX,Nat.reduceBEq,↓reduceIte,reduceCtorEq,Nat.reduceEqDiff]))
 ·rw [fei_end hlt] at hx
  simp only [lt_f hlt,eES]
  exact q2 hx _ _ (by first | rfl | exact h4 | simp only [h4,eES,eEX,Nat.reduceBEq,↓reduceIte,reduceCtorEq,Nat.reduceEqDiff]) (by first | rfl | exact h5 | simp only [h5,eES,eEX,Nat.reduceBEq,↓reduceIte,reduceCtorEq,Nat.reduceEqDiff]) (by first | rfl | exact h6 | simp only [h6,eES,eEX,Nat.reduceBEq,↓reduceIte,reduceCtorEq,Nat.reduceEqDiff]) (by first | rfl | exact m4 | simp only [m4,eES,eEX,Nat.reduceBEq,↓reduceIte,reduceCtorEq,Nat.reduceEqDiff]) (by first | rfl | exact m5' | simp only [m5',eES,eEX,Nat.reduceBEq,↓reduceIte,reduceCtorEq,Nat.reduceEqDiff]) (by first | rfl | exact m6' | simp only [m6',eES,eEX,Nat.reduceBEq,↓reduceIte,reduceCtorEq,Nat.reduceEqDiff]) n12 n14

include hP in
theorem v18 (hU : Use P) : ∀ n : Nat,n ≤ 16 → ∀ g ∈ P.progs,∀ v : V,v.ok M → Fn1 Tryz.prog 18 [P.av,gav g,v.av,.int .i64 (17 - (n : Int))] (.int .i64 (msgF P n g v)):=by
 have e0 : P.av = .agg [.list (P.progs.map gav),.list (P.enums.map eav)]:=rfl
 intro n
 induction n with
 | zero =>
  intro _ g _ v hv
  have co:=oth_i v hv
  rw [av7] at co
  rw [av7]
  have d0 : decide ((17 : Int) - ((0 : Nat) : Int) > 16) = true:=rfl
  refine fn1_of_awp (rc:=r18) (rs:=o18) Tryz.func18 rfl rfl Tryz.ntmps18 k18 q18 (by simp) ?_
  simp only [g18_0,g18_1,g18_2,g18_3,g18_4,g18_5,g18_12,g18_18,g18_25,r18,o18,e0,gav,PG.cells,msgF,eES,eEX,Nat.reduceBEq,↓reduceIte,Nat.reduceAdd]
  cases a1 : (v.kd != 10)
  ·simp only [Bool.false_or,eES,eEX,Nat.reduceBEq,↓reduceIte,Nat.reduceAdd,Nat.reduceLeDiff]
   refine aops_call co rfl rfl rfl (.inl rfl) ?_
   cases v.oth
   ·simp only [d0,Bool.false_eq_true,eES,Nat.reduceBEq,↓reduceIte]
   ·simp only [eES,Nat.reduceBEq,↓reduceIte]
  ·simp only [Bool.true_or,eES,Nat.reduceBEq,↓reduceIte]
 | succ n ih =>
  intro hn16 g hgm v hv
  have hg:=hP.progs g hgm
  have hu:=hU g hgm
  have hw : IntKind.i64.wrap (17 - ((n + 1 : Nat) : Int) + 1) = 17 - (n : Int):=by rw [wi64]; omega
  have hel:=fun (o : PO) (ho : o ∈ g.ops) (x : V) (hx : x.ok M) => v191 hP hw (fun g hg v hv => ih (by omega) g hg v hv) o (hu o ho) x hx
  have hfi:=fun (o : PO) (ho : o ∈ g.ops) (x : V) (hx : x.ok M) => v131 hP o (hu o ho) x hx (hel o ho)
  have hsl:=fun (i : Nat) (hi : i < v.slots.length) => v50 (P:=P) g hg v.slots (by have:=hv.ns; simp only [maxLen]; omega) i hi hv.slots hfi
  have co:=oth_i v hv
  rw [av7] at co
  rw [av7]
  have d0 : decide ((17 : Int) - ((n + 1 : Nat) : Int) > 16) = false:=decide_eq_false (by omega)
  refine fn1_of_awp (rc:=r18) (rs:=o18) Tryz.func18 rfl rfl Tryz.ntmps18 k18 q18 (by simp) ?_
  simp only [g18_0,g18_1,g18_2,g18_3,g18_4,g18_5,g18_12,g18_18,g18_25,r18,o18,e0,gav,PG.cells,msgF,eES,eEX,Nat.reduceBEq,↓reduceIte,Nat.reduceAdd]
  cases a1 : (v.kd != 10)
  ·simp only [Bool.false_or,eES,eEX,Nat.reduceBEq,↓reduceIte,Nat.reduceAdd,Nat.reduceLeDiff]
   refine aops_call co rfl rfl rfl (.inl rfl) ?_
   cases v.oth
   ·simp only [d0,Bool.false_eq_true,List.length_map,eES,eEX,Nat.reduceBEq,↓reduceIte,Nat.reduceAdd]
    unfold bodyF
    refine slots_loop (lv:=17 - ((n + 1 : Nat) : Int)) g v hv hsl _ _ (by first | rfl | simp only [eES,eEX,Nat.reduceBEq,↓reduceIte,reduceCtorEq,Nat.reduceEqDiff]) (by first | rfl | simp only [eES,eEX,Nat.reduceBEq,↓reduceIte,reduceCtorEq,Nat.reduceEqDiff]) (by first | rfl | simp only [eES,eEX,Nat.reduceBEq,↓reduceIte,reduceCtorEq,Nat.reduceEqDiff]) (by first | rfl | simp only [eES,eEX,Nat.reduceBEq,↓reduceIte,reduceCtorEq,Nat.reduceEqDiff]) (by first | rfl | simp only [eES,eEX,Nat.reduceBEq,↓reduceIte,reduceCtorEq,Nat.reduceEqDiff]) (by first | rfl | simp only [eES,eEX,Nat.reduceBEq,↓reduceIte,reduceCtorEq,Nat.reduceEqDiff]) (by first | rfl | simp only [eES,eEX,Nat.reduceBEq,↓reduceIte,reduceCtorEq,Nat.reduceEqDiff]) (by first | rfl | simp only [eES,eEX,Nat.reduceBEq,↓reduceIte,reduceCtorEq,Nat.reduceEqDiff]) (by first | rfl | simp only [eES,eEX,Nat.reduceBEq,↓reduceIte,reduceCtorEq,Nat.reduceEqDiff]) (by first | rfl | simp only [eES,eEX,Nat.reduceBEq,↓reduceIte,reduceCtorEq,Nat.reduceEqDiff]) (by first | rfl | simp only [eES,eEX,Nat.reduceBEq,↓reduceIte,reduceCtorEq,Nat.reduceEqDiff]) _ (fun hx f fr h8 => ?_) (fun hx f fr h4 h5 h6 m4 m5 m6 n12 n14 => ?_)
    ·rw [if_neg hx]
     simp only [h8,eES]
    ·rw [if_pos hx]
     have m5':=m5
     simp only [PG.cells] at m5
     simp only [h5,m5,List.length_map,eES,eEX,Nat.reduceBEq,↓reduceIte,Nat.reduceAdd]
     refine ops_loop g hg v hv _ _ (by first | rfl | exact h4 | simp only [h4,eES,eEX,Nat.reduceBEq,↓reduceIte,reduceCtorEq,Nat.reduceEqDiff]) (by first | rfl | exact h5 | simp only [h5,eES,eEX,Nat.reduceBEq,↓reduceIte,reduceCtorEq,Nat.reduceEqDiff]) (by first | rfl | exact h6 | simp only [h6,eES,eEX,Nat.reduceBEq,↓reduceIte,reduceCtorEq,Nat.reduceEqDiff]) (by first | rfl | simp only [eES,eEX,Nat.reduceBEq,↓reduceIte,reduceCtorEq,Nat.reduceEqDiff]) (by first | rfl | simp only [eES,eEX,Nat.reduceBEq,↓reduceIte,reduceCtorEq,Nat.reduceEqDiff]) (by first | rfl | simp only [eES,eEX,Nat.reduceBEq,↓reduceIte,reduceCtorEq,Nat.reduceEqDiff]) (by first | rfl | exact m4 | simp only [m4,eES,eEX,Nat.reduceBEq,↓reduceIte,reduceCtorEq,Nat.reduceEqDiff]) (by first | rfl | exact m5' | simp only [m5',eES,eEX,Nat.reduceBEq,↓reduceIte,reduceCtorEq,Nat.reduceEqDiff]) (by first | rfl | exact m6 | simp only [m6,eES,eEX,Nat.reduceBEq,↓reduceIte,reduceCtorEq,Nat.reduceEqDiff]) (by simp only [List.mem_cons,List.not_mem_nil,or_false,forall_eq,n12] <;> rfl) _ (fun hx f fr h8 => ?_) (fun hx f fr h4 h5 h6 m4 m5 m6 n14 => ?_) (by first | rfl | exact n14 | simp only [n14,eES,eEX,Nat.reduceBEq,↓reduceIte,reduceCtorEq,Nat.reduceEqDiff])
     ·rw [hx]
      simp only [h8,eES,↓reduceIte]
     ·rw [hx]
      have m6':=m6
      simp only [vc] at m6
      simp only [Bool.false_eq_true,h6,m6,List.length_map,eES,eEX,Nat.reduceBEq,↓reduceIte,Nat.reduceAdd]
      refine raws_loop hP g hg v hv _ _ (by first | rfl | exact h4 | simp only [h4,eES,eEX,Nat.reduceBEq,↓reduceIte,reduceCtorEq,Nat.reduceEqDiff]) (by first | rfl | exact h5 | simp only [h5,eES,eEX,Nat.reduceBEq,↓reduceIte,reduceCtorEq,Nat.reduceEqDiff]) (by first | rfl | simp only [eES,eEX,Nat.reduceBEq,↓reduceIte,reduceCtorEq,Nat.reduceEqDiff]) (by first | rfl | simp only [eES,eEX,Nat.reduceBEq,↓reduceIte,reduceCtorEq,Nat.reduceEqDiff]) (by first | rfl | simp only [eES,eEX,Nat.reduceBEq,↓reduceIte,reduceCtorEq,Nat.reduceEqDiff]) (by first | rfl | exact m4 | simp only [m4,eES,eEX,Nat.reduceBEq,↓reduceIte,reduceCtorEq,Nat.reduceEqDiff]) (by first | rfl | exact m5 | simp only [m5,eES,eEX,Nat.reduceBEq,↓reduceIte,reduceCtorEq,Nat.reduceEqDiff]) (by simp only [List.mem_cons,List.not_mem_nil,or_false,forall_eq,n14] <;> rfl) _ (fun hx f fr h8 => ?_) (fun hx f fr => ?_)
      ·simp only [h8,eES]
      ·simp only [hx,eES,Nat.reduceBEq,↓reduceIte]
   ·simp only [eES,Nat.reduceBEq,↓reduceIte]
  ·simp only [Bool.true_or,eES,Nat.reduceBEq,↓reduceIte]

end
end Go.Proofs.YtelhohgmmhbahaaGreatDoor.Va

set_option linter.unusedSimpArgs false
namespace Go.Proofs.YtelhohgmmhbahaaGreatDoor.Va
open Go Am Rc Bt Br Up

section
variable {M : Nat} {P : PL} (hP : P.ok M) (hM : M ≤ 140737488351232) {m : PG → V → Int} {lv : Int} (g : PG) (hg : g.ok M) (v : V) (hv : v.ok M)

def SwI (P : PL) (g : PG) (v : V) (k : Nat) (st : St) : Prop :=
 ∃ f fr i,st = ⟨f,[fr],[]⟩ ∧ k = v.raws.length - i ∧ fei (rawsF P g v.raws) v.raws.length 0 = fei (rawsF P g v.raws) (v.raws.length - i) i ∧ f 4 = .ptr 0 4 0 ∧ f 6 = .ptr 0 6 0 ∧ f 9 = .ptr 0 9 0 ∧ f 16 = .int .i64 (i : Nat) ∧ fr 4 = .cells [.list (P.progs.map gav),.list (P.enums.map eav)] ∧ fr 6 = .cells (vc v) ∧ fr 9 = .cells g.cells ∧ ∀ s ∈ [17],(fr s).isRow = false

include hP hg hv in
theorem raws_loopR (hu : ∀ o ∈ g.ops,UO P o) (f : Fr) (fr : Nat → Ob) (h4 : f 4 = .ptr 0 4 0) (h6 : f 6 = .ptr 0 6 0) (h9 : f 9 = .ptr 0 9 0) (h16 : f 16 = .int .i64 0)
  (m4 : fr 4 = .cells [.list (P.progs.map gav),.list (P.enums.map eav)]) (m6 : fr 6 = .cells (vc v)) (m9 : fr 9 = .cells g.cells) (r17 : ∀ s ∈ [17],(fr s).isRow = false) (Q : Exit → St → Prop)
  (q1 : fei (rawsF P g v.raws) v.raws.length 0 ≠ 0 → ∀ f fr,f 8 = .int .i64 (fei (rawsF P g v.raws) v.raws.length 0) → Q .ret (⟨f,[fr],[]⟩ : St))
  (q2 : fei (rawsF P g v.raws) v.raws.length 0 = 0 → ∀ f fr,Q (.exit 4) (⟨f,[fr],[]⟩ : St)) : awp Tryz.prog (.loop l20_2) ⟨f,[fr],[]⟩ Q:=by
 have e0 : P.av = .agg [.list (P.progs.map gav),.list (P.enums.map eav)]:=rfl
 refine awp_loop (SwI P g v) _ ⟨f,fr,0,rfl,rfl,rfl,h4,h6,h9,h16,m4,m6,m9,r17⟩ ?_
 clear h4 h6 h9 h16 m4 m6 m9 r17
 rintro _ st ⟨f0,fr0,i,rfl,rfl,hx,h40,h60,h90,h160,m40,m60,m90,r17⟩
 refine awp_drops (a:=_) [17] r17 ?_
 intro f fr hf hm hn
 have h4 : f 4 = .ptr 0 4 0:=by rw [hf,h40] <;> rfl
 have h6 : f 6 = .ptr 0 6 0:=by rw [hf,h60] <;> rfl
 have h9 : f 9 = .ptr 0 9 0:=by rw [hf,h90] <;> rfl
 have h16 : f 16 = .int .i64 (i : Nat):=by rw [hf,h160] <;> rfl
 have m4 : fr 4 = .cells [.list (P.progs.map gav),.list (P.enums.map eav)]:=by rw [hm 4 (by decide),m40] <;> rfl
 have m6 : fr 6 = .cells (vc v):=by rw [hm 6 (by decide),m60] <;> rfl
 have m9 : fr 9 = .cells g.cells:=by rw [hm 9 (by decide),m90] <;> rfl
 have n17:=hn 17 (by decide)
 clear hf hm hn h40 h60 h90 h160 m40 m60 m90 r17
 have m6':=m6
 have m9':=m9
 simp only [PG.cells] at m9
 simp only [vc] at m6
 simp only [g20_22,g20_24,g20_25,g20_26,g20_27,g20_28,g20_23,List.length_map,h6,h16,m6,eES,eEX,Nat.reduceBEq,↓reduceIte,Nat.reduceAdd]
 by_cases hlt : i < v.raws.length
 ·obtain ⟨x,hi⟩ : ∃ x,v.raws[i]? = some x:=⟨v.raws[i],List.getElem?_eq_getElem hlt⟩
  have hgi:=getR hi
  have e1:=wi64_s i _ hlt (by have:=hv.nr; simp only [maxLen]; omega)
  have c1:=v60 hP g hg hu x
  have hr : rawsF P g v.raws i = if (!permF P g x) = true then 1 else if bad3 x = true then 3 else 0:=by rw [rawsF_at hi,rawF_perm]
  rw [e0] at c1
  simp only [gav,PG.cells,R.av] at c1
  simp only [lt_t hlt,nneg,Int.toNat_natCast,aiaddr,hgi,n17,splice,List.take_succ_cons,List.take_zero,List.drop_succ_cons,List.drop_zero,List.drop_nil,List.append_nil,List.nil_append,List.length_cons,List.length_nil,h4,h6,h9,h16,m4,m6,m9,eES,eEX,Nat.reduceBEq,↓reduceIte,Nat.reduceAdd,Nat.reduceLeDiff]
  refine aops_call c1 rfl rfl rfl (.inl rfl) ?_
  cases hp : permF P g x
  ·rw [hp,if_pos (by rfl)] at hr
   rw [fei_st hlt hr (by decide)] at hx
   simp only [eES,Nat.reduceBEq]
   exact q1 (by rw [hx]; decide) _ _ (by rw [hx]; exact (by first | rfl | simp only [eES,eEX,Nat.reduceBEq,↓reduceIte,reduceCtorEq,Nat.reduceEqDiff]))
  ·rw [hp,if_neg (by simp)] at hr
   have hb : bad3 x = (x.wire == 3 && decide ((x.data.length : Int) > 4096) || decide ((x.data.length : Int) > 65536)):=rfl
   have ok : bad3 x = false → fei (rawsF P g v.raws) v.raws.length 0 = fei (rawsF P g v.raws) (v.raws.length - (i + 1)) (i + 1):=fun h => by
    rw [h,if_neg (by simp)] at hr
    rw [hx,fei_go hlt hr]
   have no : bad3 x = true → fei (rawsF P g v.raws) v.raws.length 0 = 3:=fun h => by
    rw [h,if_pos rfl] at hr
    rw [hx,fei_st hlt hr (by decide)]
   simp only [eES,eEX,Nat.reduceBEq,↓reduceIte,Nat.reduceAdd]
   cases t1 : (x.wire == 3)
   ·cases t3 : decide ((x.data.length : Int) > 65536)
    ·rw [t1,t3] at hb
     simp only [t3,h16,e1,eES,eEX,Nat.reduceBEq,↓reduceIte,Nat.reduceAdd]
     exact ⟨v.raws.length - (i + 1),by omega,_,_,i + 1,rfl,rfl,ok hb,(by first | rfl | exact h4 | simp only [h4,eES,eEX,Nat.reduceBEq,↓reduceIte,reduceCtorEq,Nat.reduceEqDiff]),(by first | rfl | exact h6 | simp only [h6,eES,eEX,Nat.reduceBEq,↓reduceIte,reduceCtorEq,Nat.reduceEqDiff]),(by first | rfl | exact h9 | simp only [h9,eES,eEX,Nat.reduceBEq,↓reduceIte,reduceCtorEq,Nat.reduceEqDiff]),(by first | rfl | simp only [eES,eEX,Nat.reduceBEq,↓reduceIte,reduceCtorEq,Nat.reduceEqDiff]),(by first | rfl | exact m4 | simp only [m4,eES,eEX,Nat.reduceBEq,↓reduceIte,reduceCtorEq,Nat.reduceEqDiff]),(by first | rfl | exact m6' | simp only [m6',eES,eEX,Nat.reduceBEq,↓reduceIte,reduceCtorEq,Nat.reduceEqDiff]),(by first | rfl | exact m9' | simp only [m9',eES,eEX,Nat.reduceBEq,↓reduceIte,reduceCtorEq,Nat.reduceEqDiff]),by simp <;> rfl⟩
    ·rw [t1,t3] at hb
     simp only [t3,eES,eEX,Nat.reduceBEq,↓reduceIte,Nat.reduceAdd]
     exact q1 (by rw [no hb]; decide) _ _ (by rw [no hb]; exact (by first | rfl | simp only [eES,eEX,Nat.reduceBEq,↓reduceIte,reduceCtorEq,Nat.reduceEqDiff]))
   ·cases t2 : decide ((x.data.length : Int) > 4096)
    ·cases t3 : decide ((x.data.length : Int) > 65536)
     ·rw [t1,t2,t3] at hb
      simp only [t2,t3,h16,e1,eES,eEX,Nat.reduceBEq,↓reduceIte,Nat.reduceAdd]
      exact ⟨v.raws.length - (i + 1),by omega,_,_,i + 1,rfl,rfl,ok hb,(by first | rfl | exact h4 | simp only [h4,eES,eEX,Nat.reduceBEq,↓reduceIte,reduceCtorEq,Nat.reduceEqDiff]),(by first | rfl | exact h6 | simp only [h6,eES,eEX,Nat.reduceBEq,↓reduceIte,reduceCtorEq,Nat.reduceEqDiff]),(by first | rfl | exact h9 | simp only [h9,eES,eEX,Nat.reduceBEq,↓reduceIte,reduceCtorEq,Nat.reduceEqDiff]),(by first | rfl | simp only [eES,eEX,Nat.reduceBEq,↓reduceIte,reduceCtorEq,Nat.reduceEqDiff]),(by first | rfl | exact m4 | simp only [m4,eES,eEX,Nat.reduceBEq,↓reduceIte,reduceCtorEq,Nat.reduceEqDiff]),(by first | rfl | exact m6' | simp only [m6',eES,eEX,Nat.reduceBEq,↓reduceIte,reduceCtorEq,Nat.reduceEqDiff]),(by first | rfl | exact m9' | simp only [m9',eES,eEX,Nat.reduceBEq,↓reduceIte,reduceCtorEq,Nat.reduceEqDiff]),by simp <;> rfl⟩
     ·rw [t1,t2,t3] at hb
      simp only [t2,t3,eES,eEX,Nat.reduceBEq,↓reduceIte,Nat.reduceAdd]
      exact q1 (by rw [no hb]; decide) _ _ (by rw [no hb]; exact (by first | rfl | simp only [eES,eEX,Nat.reduceBEq,↓reduceIte,reduceCtorEq,Nat.reduceEqDiff]))
    ·rw [t1,t2] at hb
     simp only [t2,eES,eEX,Nat.reduceBEq,↓reduceIte,Nat.reduceAdd]
     exact q1 (by rw [no hb]; decide) _ _ (by rw [no hb]; exact (by first | rfl | simp only [eES,eEX,Nat.reduceBEq,↓reduceIte,reduceCtorEq,Nat.reduceEqDiff]))
 ·rw [fei_end hlt] at hx
  simp only [lt_f hlt,eES]
  exact q2 hx _ _

include hg hv in
theorem ops_loopR (fr : Nat → Ob) (m6 : fr 6 = .cells (vc v)) (m9 : fr 9 = .cells g.cells) (f : Fr) (h4 : f 4 = .ptr 0 4 0) (h6 : f 6 = .ptr 0 6 0) (h9 : f 9 = .ptr 0 9 0) (h15 : f 15 = .int .i64 0) (Q : Exit → St → Prop)
  (q1 : misF g v.slots = true → ∀ f,f 8 = .int .i64 14 → Q .ret (⟨f,[fr],[]⟩ : St))
  (q2 : misF g v.slots = false → ∀ f,f 4 = .ptr 0 4 0 → f 6 = .ptr 0 6 0 → f 9 = .ptr 0 9 0 → Q (.exit 2) (⟨f,[fr],[]⟩ : St)) : awp Tryz.prog (.loop l20_1) ⟨f,[fr],[]⟩ Q:=by
 let I : Nat → St → Prop:=fun k st => ∃ f i,st = ⟨f,[fr],[]⟩ ∧ k = g.ops.length - i ∧ i ≤ g.ops.length ∧ (g.ops.take i).any (misO v.slots) = false ∧ f 4 = .ptr 0 4 0 ∧ f 6 = .ptr 0 6 0 ∧ f 9 = .ptr 0 9 0 ∧ f 15 = .int .i64 (i : Nat)
 refine awp_loop I _ ⟨f,0,rfl,rfl,Nat.zero_le _,by simp,h4,h6,h9,h15⟩ ?_
 clear h4 h6 h9 h15
 rintro _ st ⟨f,i,rfl,rfl,hil,hq,h4,h6,h9,h15⟩
 simp only [PG.cells] at m9
 simp only [vc] at m6
 simp only [l20_1,g20_17,g20_19,g20_20,g20_18,List.length_map,h9,h15,m9,eES,eEX,Nat.reduceBEq,↓reduceIte,Nat.reduceAdd]
 by_cases hlt : i < g.ops.length
 ·obtain ⟨o,hi⟩ : ∃ o,g.ops[i]? = some o:=⟨g.ops[i],List.getElem?_eq_getElem hlt⟩
  have hgi:=getO hi
  have e1:=wi64_s i _ hlt hg.len
  have c1:=v59 v (by have:=hv.ns; simp only [maxLen]; omega) o.num
  rw [av7] at c1
  have ht : (g.ops.take (i + 1)).any (misO v.slots) = misO v.slots o:=by
   rw [List.take_add_one,hi,List.any_append,hq]
   simp
  have hmi : misO v.slots o = (o.card == 1 && !v.slots.any fun y => y.1 == o.num):=rfl
  simp only [lt_t hlt,nneg,Int.toNat_natCast,aiaddr,hgi,h9,h15,m9,eES,eEX,Nat.reduceBEq,↓reduceIte,Nat.reduceAdd]
  cases a1 : (o.card == 1)
  ·rw [a1,Bool.false_and] at hmi
   simp only [h15,e1,eES,Nat.reduceBEq,↓reduceIte]
   exact ⟨g.ops.length - (i + 1),by omega,_,i + 1,rfl,rfl,by omega,by rw [ht,hmi],(by first | rfl | exact h4 | simp only [h4,eES,eEX,Nat.reduceBEq,↓reduceIte,reduceCtorEq,Nat.reduceEqDiff]),(by first | rfl | exact h6 | simp only [h6,eES,eEX,Nat.reduceBEq,↓reduceIte,reduceCtorEq,Nat.reduceEqDiff]),(by first | rfl | exact h9 | simp only [h9,eES,eEX,Nat.reduceBEq,↓reduceIte,reduceCtorEq,Nat.reduceEqDiff]),(by first | rfl | simp only [eES,eEX,Nat.reduceBEq,↓reduceIte,reduceCtorEq,Nat.reduceEqDiff])⟩
  ·rw [a1,Bool.true_and] at hmi
   simp only [nneg,Int.toNat_natCast,aiaddr,hgi,h6,h9,h15,m6,m9,eES,eEX,Nat.reduceBEq,↓reduceIte,Nat.reduceAdd,Nat.reduceLeDiff]
   refine aops_call c1 rfl rfl rfl (.inl rfl) ?_
   cases a2 : v.slots.any (fun y => y.1 == o.num)
   ·rw [a2] at hmi
    have hany : misF g v.slots = true:=List.any_eq_true.2 ⟨o,List.mem_of_getElem? hi,by show misO v.slots o = true; rw [hmi]; rfl⟩
    simp only [eES,Nat.reduceBEq]
    exact q1 hany _ (by first | rfl | simp only [eES,eEX,Nat.reduceBEq,↓reduceIte,reduceCtorEq,Nat.reduceEqDiff])
   ·rw [a2] at hmi
    simp only [h15,e1,eES,Nat.reduceBEq,↓reduceIte]
    exact ⟨g.ops.length - (i + 1),by omega,_,i + 1,rfl,rfl,by omega,by rw [ht,hmi]; rfl,(by first | rfl | exact h4 | simp only [h4,eES,eEX,Nat.reduceBEq,↓reduceIte,reduceCtorEq,Nat.reduceEqDiff]),(by first | rfl | exact h6 | simp only [h6,eES,eEX,Nat.reduceBEq,↓reduceIte,reduceCtorEq,Nat.reduceEqDiff]),(by first | rfl | exact h9 | simp only [h9,eES,eEX,Nat.reduceBEq,↓reduceIte,reduceCtorEq,Nat.reduceEqDiff]),(by first | rfl | simp only [eES,eEX,Nat.reduceBEq,↓reduceIte,reduceCtorEq,Nat.reduceEqDiff])⟩
 ·have hq' : misF g v.slots = false:=by rw [misF_eq,← hq,List.take_of_length_le (by omega)]
  simp only [lt_f hlt,eES]
  exact q2 hq' _ (by first | rfl | exact h4 | simp only [h4,eES,eEX,Nat.reduceBEq,↓reduceIte,reduceCtorEq,Nat.reduceEqDiff]) (by first | rfl | exact h6 | simp only [h6,eES,eEX,Nat.reduceBEq,↓reduceIte,reduceCtorEq,Nat.reduceEqDiff]) (by first | rfl | exact h9 | simp only [h9,eES,eEX,Nat.reduceBEq,↓reduceIte,reduceCtorEq,Nat.reduceEqDiff])

def SsI (m : PG → V → Int) (P : PL) (lv : Int) (g : PG) (v : V) (k : Nat) (st : St) : Prop :=
 ∃ f fr i,st = ⟨f,[fr],[]⟩ ∧ k = v.slots.length - i ∧ fei (slotF m P g v.slots) v.slots.length 0 = fei (slotF m P g v.slots) (v.slots.length - i) i ∧ f 3 = .int .i64 lv ∧ f 4 = .ptr 0 4 0 ∧ f 6 = .ptr 0 6 0 ∧ f 9 = .ptr 0 9 0 ∧ f 10 = .int .i64 (i : Nat) ∧ fr 4 = .cells [.list (P.progs.map gav),.list (P.enums.map eav)] ∧ fr 6 = .cells (vc v) ∧ fr 9 = .cells g.cells ∧ fr 17 = .none ∧ ∀ s ∈ [12],(fr s).isRow = false

include hg hv in
theorem slots_loopR (hfi : ∀ o ∈ g.ops,∀ v : V,v.ok M → Fn1 Tryz.prog 58 [P.av,oav o,v.av,.int .i64 lv] (.int .i64 (fieldF m P o v)))
  (f : Fr) (fr : Nat → Ob) (h3 : f 3 = .int .i64 lv) (h4 : f 4 = .ptr 0 4 0) (h6 : f 6 = .ptr 0 6 0) (h9 : f 9 = .ptr 0 9 0) (h10 : f 10 = .int .i64 0)
  (m4 : fr 4 = .cells [.list (P.progs.map gav),.list (P.enums.map eav)]) (m6 : fr 6 = .cells (vc v)) (m9 : fr 9 = .cells g.cells) (n17 : fr 17 = .none) (r12 : ∀ s ∈ [12],(fr s).isRow = false) (Q : Exit → St → Prop)
  (q1 : fei (slotF m P g v.slots) v.slots.length 0 ≠ 0 → ∀ f fr,f 8 = .int .i64 (fei (slotF m P g v.slots) v.slots.length 0) → Q .ret (⟨f,[fr],[]⟩ : St))
  (q2 : fei (slotF m P g v.slots) v.slots.length 0 = 0 → ∀ f fr,f 4 = .ptr 0 4 0 → f 6 = .ptr 0 6 0 → f 9 = .ptr 0 9 0 → fr 4 = .cells [.list (P.progs.map gav),.list (P.enums.map eav)] → fr 6 = .cells (vc v) → fr 9 = .cells g.cells → fr 17 = .none → Q (.exit 0) (⟨f,[fr],[]⟩ : St)) :
  awp Tryz.prog (.loop l20_0) ⟨f,[fr],[]⟩ Q:=by
 have e0 : P.av = .agg [.list (P.progs.map gav),.list (P.enums.map eav)]:=rfl
 have hn : v.slots.length ≤ maxLen:=by have:=hv.ns; simp only [maxLen]; omega
 have co:=fun n => y57 g hg.len n
 simp only [opr_opq] at co
 simp only [gav,PG.cells] at co
 refine awp_loop (SsI m P lv g v) _ ⟨f,fr,0,rfl,rfl,rfl,h3,h4,h6,h9,h10,m4,m6,m9,n17,r12⟩ ?_
 clear h3 h4 h6 h9 h10 m4 m6 m9 n17 r12
 rintro _ st ⟨f0,fr0,i,rfl,rfl,hx,h30,h40,h60,h90,h100,m40,m60,m90,n170,r12⟩
 refine awp_drops (a:=_) [12] r12 ?_
 intro f fr hf hm hn12
 have h3 : f 3 = .int .i64 lv:=by rw [hf,h30] <;> rfl
 have h4 : f 4 = .ptr 0 4 0:=by rw [hf,h40] <;> rfl
 have h6 : f 6 = .ptr 0 6 0:=by rw [hf,h60] <;> rfl
 have h9 : f 9 = .ptr 0 9 0:=by rw [hf,h90] <;> rfl
 have h10 : f 10 = .int .i64 (i : Nat):=by rw [hf,h100] <;> rfl
 have m4 : fr 4 = .cells [.list (P.progs.map gav),.list (P.enums.map eav)]:=by rw [hm 4 (by decide),m40] <;> rfl
 have m6 : fr 6 = .cells (vc v):=by rw [hm 6 (by decide),m60] <;> rfl
 have m9 : fr 9 = .cells g.cells:=by rw [hm 9 (by decide),m90] <;> rfl
 have n17 : fr 17 = .none:=by rw [hm 17 (by decide),n170] <;> rfl
 have n12:=hn12 12 (by decide)
 clear hf hm hn12 h30 h40 h60 h90 h100 m40 m60 m90 n170 r12
 have m6':=m6
 have m9':=m9
 simp only [PG.cells] at m9
 simp only [vc] at m6
 simp only [g20_7,g20_9,g20_10,g20_11,g20_12,g20_13,g20_14,g20_15,g20_8,List.length_map,h6,h10,m6,eES,eEX,Nat.reduceBEq,↓reduceIte,Nat.reduceAdd]
 by_cases hlt : i < v.slots.length
 ·obtain ⟨x,hi⟩ : ∃ x,v.slots[i]? = some x:=⟨v.slots[i],List.getElem?_eq_getElem hlt⟩
  have hgi:=getS hi
  have e1:=wi64_s i _ hlt hn
  have c1:=v56 g hg v.slots hn i hlt
  simp only [gav,PG.cells] at c1
  obtain ⟨sA,sB⟩:=slotF_R (m:=m) (P:=P) (g:=g) hi
  simp only [lt_t hlt,h6,h9,h10,m6,m9,eES,eEX,Nat.reduceBEq,↓reduceIte,Nat.reduceAdd,Nat.reduceLeDiff]
  refine aops_call c1 rfl rfl rfl (.inl rfl) ?_
  by_cases hz : slotR g v.slots i = 0
  ·have d0 : ((0 : Int) != 0) = false:=rfl
   obtain ⟨o,ho,hF⟩:=sB hz
   have hom:=(opq_mem ho).1
   have c2:=co x.1
   rw [ho] at c2
   have c3:=hfi o hom x.2 (hv.slots x (List.mem_of_getElem? hi))
   rw [e0,av7] at c3
   simp only [oav,PO.cells] at c3
   simp only [hz,d0,nneg,Int.toNat_natCast,aiaddr,hgi,List.take_succ_cons,List.drop_zero,h6,h9,h10,m6,m9,eES,eEX,Nat.reduceBEq,↓reduceIte,Nat.reduceAdd,Nat.reduceLeDiff]
   refine aops_call c2 rfl rfl rfl (.inl rfl) ?_
   simp only [Option.getD_some,Option.isSome_some,oav,PO.cells,n12,nneg,Int.toNat_natCast,aiaddr,hgi,splice,List.take_succ_cons,List.take_zero,List.drop_succ_cons,List.drop_zero,List.drop_nil,List.append_nil,List.nil_append,List.length_cons,List.length_nil,List.all_cons,List.all_nil,AV.leaf,h3,h4,h6,h10,m4,m6,eES,eEX,Nat.reduceBEq,↓reduceIte,Nat.reduceAdd,Nat.reduceLeDiff]
   refine aops_call c3 rfl rfl rfl (.inl rfl) ?_
   by_cases hy : fieldF m P o x.2 = 0
   ·rw [fei_go hlt (hF.trans hy)] at hx
    simp only [hy,d0,h10,e1,eES,Nat.reduceBEq,↓reduceIte]
    exact ⟨v.slots.length - (i + 1),by omega,_,_,i + 1,rfl,rfl,hx,(by first | rfl | exact h3 | simp only [h3,eES,eEX,Nat.reduceBEq,↓reduceIte,reduceCtorEq,Nat.reduceEqDiff]),(by first | rfl | exact h4 | simp only [h4,eES,eEX,Nat.reduceBEq,↓reduceIte,reduceCtorEq,Nat.reduceEqDiff]),(by first | rfl | exact h6 | simp only [h6,eES,eEX,Nat.reduceBEq,↓reduceIte,reduceCtorEq,Nat.reduceEqDiff]),(by first | rfl | exact h9 | simp only [h9,eES,eEX,Nat.reduceBEq,↓reduceIte,reduceCtorEq,Nat.reduceEqDiff]),(by first | rfl | simp only [eES,eEX,Nat.reduceBEq,↓reduceIte,reduceCtorEq,Nat.reduceEqDiff]),(by first | rfl | exact m4 | simp only [m4,eES,eEX,Nat.reduceBEq,↓reduceIte,reduceCtorEq,Nat.reduceEqDiff]),(by first | rfl | exact m6' | simp only [m6',eES,eEX,Nat.reduceBEq,↓reduceIte,reduceCtorEq,Nat.reduceEqDiff]),(by first | rfl | exact m9' | simp only [m9',eES,eEX,Nat.reduceBEq,↓reduceIte,reduceCtorEq,Nat.reduceEqDiff]),(by first | rfl | exact n17 | simp only [n17,eES,eEX,Nat.reduceBEq,↓reduceIte,reduceCtorEq,Nat.reduceEqDiff]),by simp <;> rfl⟩
   ·rw [fei_st hlt hF hy] at hx
    have d1 : (fieldF m P o x.2 != 0) = true:=by simp [hy]
    simp only [d1,eES,Nat.reduceBEq,↓reduceIte]
    exact q1 (by rw [hx]; exact hy) _ _ (by rw [hx]; exact (by first | rfl | simp only [eES,eEX,Nat.reduceBEq,↓reduceIte,reduceCtorEq,Nat.reduceEqDiff]))
  ·rw [fei_st hlt (sA hz) hz] at hx
   have d1 : (slotR g v.slots i != 0) = true:=by simp [hz]
   simp only [d1,eES,Nat.reduceBEq,↓reduceIte]
   exact q1 (by rw [hx]; exact hz) _ _ (by rw [hx]; exact (by first | rfl | simp only [eES,eEX,Nat.reduceBEq,↓reduceIte,reduceCtorEq,Nat.reduceEqDiff]))
 ·rw [fei_end hlt] at hx
  simp only [lt_f hlt,eES]
  exact q2 hx _ _ (by first | rfl | exact h4 | simp only [h4,eES,eEX,Nat.reduceBEq,↓reduceIte,reduceCtorEq,Nat.reduceEqDiff]) (by first | rfl | exact h6 | simp only [h6,eES,eEX,Nat.reduceBEq,↓reduceIte,reduceCtorEq,Nat.reduceEqDiff]) (by first | rfl | exact h9 | simp only [h9,eES,eEX,Nat.reduceBEq,↓reduceIte,reduceCtorEq,Nat.reduceEqDiff]) (by first | rfl | exact m4 | simp only [m4,eES,eEX,Nat.reduceBEq,↓reduceIte,reduceCtorEq,Nat.reduceEqDiff]) (by first | rfl | exact m6' | simp only [m6',eES,eEX,Nat.reduceBEq,↓reduceIte,reduceCtorEq,Nat.reduceEqDiff]) (by first | rfl | exact m9' | simp only [m9',eES,eEX,Nat.reduceBEq,↓reduceIte,reduceCtorEq,Nat.reduceEqDiff]) (by first | rfl | exact n17 | simp only [n17,eES,eEX,Nat.reduceBEq,↓reduceIte,reduceCtorEq,Nat.reduceEqDiff])

include hP hM in
theorem v20 (hU : Use P) : ∀ n : Nat,n ≤ 16 → ∀ (t : Int) (g : PG),P.progs[t.toNat]? = some g → 0 ≤ t → ∀ v : V,v.ok M → Fn1 Tryz.prog 20 [P.av,.int .i64 t,v.av,.int .i64 (17 - (n : Int))] (.int .i64 (msgF P n g v)):=by
 have e0 : P.av = .agg [.list (P.progs.map gav),.list (P.enums.map eav)]:=rfl
 intro n
 induction n with
 | zero =>
  intro _ t g _ _ v hv
  have co:=oth_r v hv
  rw [av7] at co
  rw [av7]
  have d0 : decide ((17 : Int) - ((0 : Nat) : Int) > 16) = true:=rfl
  refine fn1_of_awp (rc:=r20) (rs:=o20) Tryz.func20 rfl rfl Tryz.ntmps20 k20 q20 (by simp) ?_
  simp only [g20_0,g20_1,g20_2,g20_3,g20_4,g20_5,g20_6,g20_16,g20_21,g20_29,r20,o20,e0,msgF,eES,eEX,Nat.reduceBEq,↓reduceIte,Nat.reduceAdd]
  cases a1 : (v.kd != 10)
  ·simp only [Bool.false_or,eES,eEX,Nat.reduceBEq,↓reduceIte,Nat.reduceAdd,Nat.reduceLeDiff]
   refine aops_call co rfl rfl rfl (.inl rfl) ?_
   cases v.oth
   ·simp only [d0,Bool.false_eq_true,eES,Nat.reduceBEq,↓reduceIte]
   ·simp only [eES,Nat.reduceBEq,↓reduceIte]
  ·simp only [Bool.true_or,eES,Nat.reduceBEq,↓reduceIte]
 | succ n ih =>
  intro hn16 t g ht t0 v hv
  have hgm:=List.mem_of_getElem? ht
  have hg:=hP.progs g hgm
  have hu:=hU g hgm
  have hw : IntKind.i64.wrap (17 - ((n + 1 : Nat) : Int) + 1) = 17 - (n : Int):=by rw [wi64]; omega
  have hel:=fun (o : PO) (ho : o ∈ g.ops) (x : V) (hx : x.ok M) => v136 hP hM hw (fun t g ht t0 v hv => ih (by omega) t g ht t0 v hv) o (hu o ho) x hx
  have hfi:=fun (o : PO) (ho : o ∈ g.ops) (x : V) (hx : x.ok M) => v58 hP hM o (hu o ho) x hx (hel o ho)
  have co:=oth_r v hv
  rw [av7] at co
  rw [av7]
  obtain ⟨i,hti⟩:=Int.eq_ofNat_of_zero_le t0
  rw [hti,Int.toNat_natCast] at ht
  have hga : (P.progs.map gav)[i]? = some (.agg g.cells):=by simp [ht,gav]
  simp only [PG.cells] at hga
  have d0 : decide ((17 : Int) - ((n + 1 : Nat) : Int) > 16) = false:=decide_eq_false (by omega)
  refine fn1_of_awp (rc:=r20) (rs:=o20) Tryz.func20 rfl rfl Tryz.ntmps20 k20 q20 (by simp) ?_
  simp only [g20_0,g20_1,g20_2,g20_3,g20_4,g20_5,g20_6,g20_16,g20_21,g20_29,r20,o20,e0,hti,msgF,eES,eEX,Nat.reduceBEq,↓reduceIte,Nat.reduceAdd]
  cases a1 : (v.kd != 10)
  ·simp only [Bool.false_or,eES,eEX,Nat.reduceBEq,↓reduceIte,Nat.reduceAdd,Nat.reduceLeDiff]
   refine aops_call co rfl rfl rfl (.inl rfl) ?_
   cases v.oth
   ·simp only [d0,nneg,Int.toNat_natCast,aiaddr,hga,splice,List.take_succ_cons,List.take_zero,List.drop_succ_cons,List.drop_zero,List.drop_nil,List.append_nil,List.nil_append,List.length_cons,List.length_nil,Bool.false_eq_true,eES,eEX,Nat.reduceBEq,↓reduceIte,Nat.reduceAdd,Nat.reduceLeDiff]
    unfold bodyF
    refine slots_loopR (lv:=17 - ((n + 1 : Nat) : Int)) g hg v hv hfi _ _ (by first | rfl | simp only [eES,eEX,Nat.reduceBEq,↓reduceIte,reduceCtorEq,Nat.reduceEqDiff]) (by first | rfl | simp only [eES,eEX,Nat.reduceBEq,↓reduceIte,reduceCtorEq,Nat.reduceEqDiff]) (by first | rfl | simp only [eES,eEX,Nat.reduceBEq,↓reduceIte,reduceCtorEq,Nat.reduceEqDiff]) (by first | rfl | simp only [eES,eEX,Nat.reduceBEq,↓reduceIte,reduceCtorEq,Nat.reduceEqDiff]) (by first | rfl | simp only [eES,eEX,Nat.reduceBEq,↓reduceIte,reduceCtorEq,Nat.reduceEqDiff]) (by first | rfl | simp only [eES,eEX,Nat.reduceBEq,↓reduceIte,reduceCtorEq,Nat.reduceEqDiff]) (by first | rfl | simp only [eES,eEX,Nat.reduceBEq,↓reduceIte,reduceCtorEq,Nat.reduceEqDiff]) (by first | rfl | simp only [eES,eEX,Nat.reduceBEq,↓reduceIte,reduceCtorEq,Nat.reduceEqDiff]) (by first | rfl | simp only [eES,eEX,Nat.reduceBEq,↓reduceIte,reduceCtorEq,Nat.reduceEqDiff]) (by simp <;> rfl) _ (fun hx f fr h8 => ?_) (fun hx f fr h4 h6 h9 m4 m6 m9 n17 => ?_)
    ·rw [if_neg hx]
     simp only [h8,eES]
    ·rw [if_pos hx]
     simp only [eES,↓reduceIte]
     refine ops_loopR g hg v hv fr m6 m9 _ (by first | rfl | exact h4 | simp only [h4,eES,eEX,Nat.reduceBEq,↓reduceIte,reduceCtorEq,Nat.reduceEqDiff]) (by first | rfl | exact h6 | simp only [h6,eES,eEX,Nat.reduceBEq,↓reduceIte,reduceCtorEq,Nat.reduceEqDiff]) (by first | rfl | exact h9 | simp only [h9,eES,eEX,Nat.reduceBEq,↓reduceIte,reduceCtorEq,Nat.reduceEqDiff]) (by first | rfl | simp only [eES,eEX,Nat.reduceBEq,↓reduceIte,reduceCtorEq,Nat.reduceEqDiff]) _ (fun hx f h8 => ?_) (fun hx f h4 h6 h9 => ?_)
     ·rw [hx]
      simp only [h8,eES,↓reduceIte]
     ·rw [hx]
      simp only [Bool.false_eq_true,eES,↓reduceIte]
      refine raws_loopR hP g hg v hv hu _ _ (by first | rfl | exact h4 | simp only [h4,eES,eEX,Nat.reduceBEq,↓reduceIte,reduceCtorEq,Nat.reduceEqDiff]) (by first | rfl | exact h6 | simp only [h6,eES,eEX,Nat.reduceBEq,↓reduceIte,reduceCtorEq,Nat.reduceEqDiff]) (by first | rfl | exact h9 | simp only [h9,eES,eEX,Nat.reduceBEq,↓reduceIte,reduceCtorEq,Nat.reduceEqDiff]) (by first | rfl | simp only [eES,eEX,Nat.reduceBEq,↓reduceIte,reduceCtorEq,Nat.reduceEqDiff]) m4 m6 m9 (by simp only [List.mem_cons,List.not_mem_nil,or_false,forall_eq,n17] <;> rfl) _ (fun hx f fr h8 => ?_) (fun hx f fr => ?_)
      ·simp only [h8,eES]
      ·simp only [hx,eES,Nat.reduceBEq,↓reduceIte]
   ·simp only [eES,Nat.reduceBEq,↓reduceIte]
  ·simp only [Bool.true_or,eES,Nat.reduceBEq,↓reduceIte]

end
end Go.Proofs.YtelhohgmmhbahaaGreatDoor.Va

set_option linter.unusedSimpArgs false
namespace Go.Proofs.YtelhohgmmhbahaaGreatDoor.Va
open Go Am Rc Bt Br Up

theorem wi_add (a b : Int) : IntKind.i64.wrap (IntKind.i64.wrap a + IntKind.i64.wrap b) = IntKind.i64.wrap (a + b):=by
 simp only [wi64]; omega
section
variable {M : Nat}

def C1I (v : V) (k : Nat) (st : St) : Prop :=
 ∃ f fr i,st = ⟨f,[fr],[]⟩ ∧ k = v.list.length - i ∧ i ≤ v.list.length ∧ f 1 = .ptr 0 1 0 ∧ f 3 = .int .i64 (IntKind.i64.wrap ((1 + v.raws.length + cntL (v.list.take i) : Nat) : Int)) ∧ f 4 = .int .i64 (i : Nat) ∧ fr 1 = .cells (vc v)
def C2I (v : V) (k : Nat) (st : St) : Prop :=
 ∃ f fr i,st = ⟨f,[fr],[]⟩ ∧ k = v.pairs.length - i ∧ i ≤ v.pairs.length ∧ f 1 = .ptr 0 1 0 ∧ f 3 = .int .i64 (IntKind.i64.wrap ((1 + v.raws.length + cntL v.list + cntP (v.pairs.take i) : Nat) : Int)) ∧ f 5 = .int .i64 (i : Nat) ∧ fr 1 = .cells (vc v)
def C3I (v : V) (k : Nat) (st : St) : Prop :=
 ∃ f fr i,st = ⟨f,[fr],[]⟩ ∧ k = v.slots.length - i ∧ i ≤ v.slots.length ∧ f 1 = .ptr 0 1 0 ∧ f 3 = .int .i64 (IntKind.i64.wrap ((1 + v.raws.length + cntL v.list + cntP v.pairs + cntS (v.slots.take i) : Nat) : Int)) ∧ f 6 = .int .i64 (i : Nat) ∧ fr 1 = .cells (vc v)

theorem v17 (v : V) (hv : v.ok M) : Fn1 Tryz.prog 17 [v.av] (.int .i64 (IntKind.i64.wrap (v.cnt : Int))):=by
 revert hv
 refine V.ind (P:=fun v => v.ok M → Fn1 Tryz.prog 17 [v.av] (.int .i64 (IntKind.i64.wrap (v.cnt : Int)))) ?_ v
 clear v
 intro v hl hp hs hv
 have n1:=hv.nl
 have n2:=hv.np
 have n3:=hv.ns
 rw [av7]
 refine fn1_of_awp (rc:=r17) (rs:=o17) Tryz.func17 rfl rfl Tryz.ntmps17 k17 q17 (by simp) ?_
 simp only [g17_0,g17_1,g17_2,g17_6,g17_10,g17_14,r17,o17,List.length_map,eES,eEX,Nat.reduceBEq,↓reduceIte,Nat.reduceAdd]
 refine awp_loop (C1I v) _ ⟨_,_,0,rfl,rfl,Nat.zero_le _,(by first | rfl | simp only [eES,eEX,Nat.reduceBEq,↓reduceIte,reduceCtorEq,Nat.reduceEqDiff]),(by simp only [List.take_zero,cntL,Nat.add_zero,Int.natCast_add,Int.natCast_one,eES,Nat.reduceBEq]),(by first | rfl | simp only [eES,eEX,Nat.reduceBEq,↓reduceIte,reduceCtorEq,Nat.reduceEqDiff]),(by first | rfl | simp only [eES,eEX,Nat.reduceBEq,↓reduceIte,reduceCtorEq,Nat.reduceEqDiff])⟩ ?_
 rintro _ st ⟨f,fr,i,rfl,rfl,hil,h1,h3,h4,m1⟩
 have m1':=m1
 simp only [vc] at m1
 simp only [l17_0,g17_3,g17_5,g17_4,List.length_map,h1,h4,m1,eES,eEX,Nat.reduceBEq,↓reduceIte,Nat.reduceAdd]
 by_cases hlt : i < v.list.length
 ·obtain ⟨x,hi⟩ : ∃ x,v.list[i]? = some x:=⟨v.list[i],List.getElem?_eq_getElem hlt⟩
  have hg:=getV hi
  have e1:=wi64_s i _ hlt (by simp only [maxLen]; omega)
  have c1:=hl x (List.mem_of_getElem? hi) (hv.list x (List.mem_of_getElem? hi))
  rw [av7] at c1
  simp only [lt_t hlt,nneg,Int.toNat_natCast,aiaddr,hg,h1,h3,h4,m1,eES,eEX,Nat.reduceBEq,↓reduceIte,Nat.reduceAdd,Nat.reduceLeDiff]
  refine aops_call c1 rfl rfl rfl (.inl rfl) ?_
  simp only [h4,e1,wi_add,eES,Nat.reduceBEq,↓reduceIte]
  exact ⟨v.list.length - (i + 1),by omega,_,_,i + 1,rfl,rfl,by omega,(by first | rfl | exact h1 | simp only [h1,eES,eEX,Nat.reduceBEq,↓reduceIte,reduceCtorEq,Nat.reduceEqDiff]),(by rw [cntL_snoc hi]; simp only [h3,← Int.natCast_add,Nat.add_assoc,eES,Nat.reduceBEq]),(by first | rfl | simp only [eES,eEX,Nat.reduceBEq,↓reduceIte,reduceCtorEq,Nat.reduceEqDiff]),(by first | rfl | exact m1' | simp only [m1',eES,eEX,Nat.reduceBEq,↓reduceIte,reduceCtorEq,Nat.reduceEqDiff])⟩
 have e : i = v.list.length:=by omega
 subst e
 rw [List.take_length] at h3
 simp only [lt_f hlt,eES,↓reduceIte]
 refine awp_loop (C2I v) _ ⟨_,_,0,rfl,rfl,Nat.zero_le _,(by first | rfl | exact h1 | simp only [h1,eES,eEX,Nat.reduceBEq,↓reduceIte,reduceCtorEq,Nat.reduceEqDiff]),(by simp only [List.take_zero,cntP,Nat.add_zero,h3,eES,Nat.reduceBEq]),(by first | rfl | simp only [eES,eEX,Nat.reduceBEq,↓reduceIte,reduceCtorEq,Nat.reduceEqDiff]),(by first | rfl | exact m1' | simp only [m1',eES,eEX,Nat.reduceBEq,↓reduceIte,reduceCtorEq,Nat.reduceEqDiff])⟩ ?_
 clear h1 h3 h4 m1 m1' hlt hil
 rintro _ st ⟨f,fr,i,rfl,rfl,hil,h1,h3,h5,m1⟩
 have m1':=m1
 simp only [vc] at m1
 simp only [l17_1,g17_7,g17_9,g17_8,List.length_map,h1,h5,m1,eES,eEX,Nat.reduceBEq,↓reduceIte,Nat.reduceAdd]
 by_cases hlt : i < v.pairs.length
 ·obtain ⟨x,hi⟩ : ∃ x,v.pairs[i]? = some x:=⟨v.pairs[i],List.getElem?_eq_getElem hlt⟩
  have hg:=getP hi
  have e1:=wi64_s i _ hlt (by simp only [maxLen]; omega)
  have hm:=List.mem_of_getElem? hi
  have c1:=(hp x hm).1 (hv.keys x hm)
  have c2:=(hp x hm).2 (hv.vals x hm)
  rw [av7] at c1 c2
  simp only [lt_t hlt,nneg,Int.toNat_natCast,aiaddr,hg,List.take_succ_cons,List.take_zero,List.drop_zero,h1,h3,h5,m1,eES,eEX,Nat.reduceBEq,↓reduceIte,Nat.reduceAdd,Nat.reduceLeDiff]
  refine aops_call c1 rfl rfl rfl (.inl rfl) ?_
  simp only [nneg,Int.toNat_natCast,aiaddr,hg,List.take_succ_cons,List.drop_succ_cons,List.drop_zero,h1,h5,m1,eES,eEX,Nat.reduceBEq,↓reduceIte,Nat.reduceAdd,Nat.reduceLeDiff]
  refine aops_call c2 rfl rfl rfl (.inl rfl) ?_
  simp only [h5,e1,wi_add,eES,Nat.reduceBEq,↓reduceIte]
  exact ⟨v.pairs.length - (i + 1),by omega,_,_,i + 1,rfl,rfl,by omega,(by first | rfl | exact h1 | simp only [h1,eES,eEX,Nat.reduceBEq,↓reduceIte,reduceCtorEq,Nat.reduceEqDiff]),(by rw [cntP_snoc hi]; simp only [h3,← Int.natCast_add,Nat.add_assoc,eES,Nat.reduceBEq]),(by first | rfl | simp only [eES,eEX,Nat.reduceBEq,↓reduceIte,reduceCtorEq,Nat.reduceEqDiff]),(by first | rfl | exact m1' | simp only [m1',eES,eEX,Nat.reduceBEq,↓reduceIte,reduceCtorEq,Nat.reduceEqDiff])⟩
 have e : i = v.pairs.length:=by omega
 subst e
 rw [List.take_length] at h3
 simp only [lt_f hlt,eES,↓reduceIte]
 refine awp_loop (C3I v) _ ⟨_,_,0,rfl,rfl,Nat.zero_le _,(by first | rfl | exact h1 | simp only [h1,eES,eEX,Nat.reduceBEq,↓reduceIte,reduceCtorEq,Nat.reduceEqDiff]),(by simp only [List.take_zero,cntS,Nat.add_zero,h3,eES,Nat.reduceBEq]),(by first | rfl | simp only [eES,eEX,Nat.reduceBEq,↓reduceIte,reduceCtorEq,Nat.reduceEqDiff]),(by first | rfl | exact m1' | simp only [m1',eES,eEX,Nat.reduceBEq,↓reduceIte,reduceCtorEq,Nat.reduceEqDiff])⟩ ?_
 clear h1 h3 h5 m1 m1' hlt hil
 rintro _ st ⟨f,fr,i,rfl,rfl,hil,h1,h3,h6,m1⟩
 have m1':=m1
 simp only [vc] at m1
 simp only [l17_2,g17_11,g17_13,g17_12,List.length_map,h1,h6,m1,eES,eEX,Nat.reduceBEq,↓reduceIte,Nat.reduceAdd]
 by_cases hlt : i < v.slots.length
 ·obtain ⟨x,hi⟩ : ∃ x,v.slots[i]? = some x:=⟨v.slots[i],List.getElem?_eq_getElem hlt⟩
  have hg:=getS hi
  have e1:=wi64_s i _ hlt (by simp only [maxLen]; omega)
  have hm:=List.mem_of_getElem? hi
  have c1:=hs x hm (hv.slots x hm)
  rw [av7] at c1
  simp only [lt_t hlt,nneg,Int.toNat_natCast,aiaddr,hg,List.take_succ_cons,List.drop_succ_cons,List.drop_zero,h1,h3,h6,m1,eES,eEX,Nat.reduceBEq,↓reduceIte,Nat.reduceAdd,Nat.reduceLeDiff]
  refine aops_call c1 rfl rfl rfl (.inl rfl) ?_
  simp only [h6,e1,wi_add,eES,Nat.reduceBEq,↓reduceIte]
  exact ⟨v.slots.length - (i + 1),by omega,_,_,i + 1,rfl,rfl,by omega,(by first | rfl | exact h1 | simp only [h1,eES,eEX,Nat.reduceBEq,↓reduceIte,reduceCtorEq,Nat.reduceEqDiff]),(by rw [cntS_snoc hi]; simp only [h3,← Int.natCast_add,Nat.add_assoc,eES,Nat.reduceBEq]),(by first | rfl | simp only [eES,eEX,Nat.reduceBEq,↓reduceIte,reduceCtorEq,Nat.reduceEqDiff]),(by first | rfl | exact m1' | simp only [m1',eES,eEX,Nat.reduceBEq,↓reduceIte,reduceCtorEq,Nat.reduceEqDiff])⟩
 have e : i = v.slots.length:=by omega
 subst e
 rw [List.take_length] at h3
 simp only [lt_f hlt,h3,cnt_eq,eES,Nat.reduceBEq,↓reduceIte]

end

def inn (v : V) : List V:=v.list ++ v.pairs.flatMap (fun p => [p.1,p.2]) ++ v.slots.map (·.2)

theorem cntL_app (a b : List V) : cntL (a ++ b) = cntL a + cntL b:=by
 induction a with
 | nil => simp [cntL]
 | cons x a ih => simp only [List.cons_append,cntL,ih]; omega
theorem cnt_inn (v : V) : v.cnt = 1 + v.raws.length + cntL (inn v):=by
 have h1 : ∀ l : List (V × V),cntL (l.flatMap fun p => [p.1,p.2]) = cntP l:=by
  intro l
  induction l with
  | nil => rfl
  | cons x l ih =>
   obtain ⟨a,b⟩:=x
   simp only [List.flatMap_cons,cntL_app,ih,cntP,cntL,Nat.add_zero]
 have h2 : ∀ l : List (Int × V),cntL (l.map (·.2)) = cntS l:=by
  intro l
  induction l with
  | nil => rfl
  | cons x l ih =>
   obtain ⟨a,b⟩:=x
   simp only [List.map_cons,cntL,ih,cntS]
 rw [cnt_eq,inn,cntL_app,cntL_app,h1,h2]
 omega

theorem flat_nilV {xs : List AV} (h : xs.all (fun e => e.cells.length == 7) = true) (hf : flat xs = []) : xs = []:=by
 cases xs with
 | nil => rfl
 | cons x xs =>
  have hl : x.cells.length = 7:=by simpa using List.all_eq_true.1 h x (by simp)
  have : x.cells = []:=(List.append_eq_nil_iff.1 hf).1
  rw [this] at hl
  exact absurd hl.symm (by decide)

theorem v134 (xs : List AV) (fr : Nat → Ob) (m : Mem) (h : xs.all (fun e => e.cells.length == 7) = true) (hn : xs.length ≤ 1099511627776) (hr : rowOrNone (fr 1000) = true) :
  ACalls Tryz.prog 134 [.list xs] (fr :: m) (fun x m1 => x = .vec 0 1000 (ngen (fr 1000)) 0 xs.length false ∧ m1 = upd fr 1000 (.vec (ngen (fr 1000)) 7 xs) :: m):=by
 have hng : newGen (fr :: m) 0 1000 = ngen (fr 1000):=newGen_fr
 refine acalls_of_awp (rc:=r134) (rs:=o134) Tryz.func134 rfl rfl Tryz.ntmps134 k134 q134 (by simp) ?_
 simp only [r134,g134_0,g134_1,eES,Nat.reduceBEq]
 refine aops_isnil (ys:=xs) (by simp only [eES,Nat.reduceBEq]) ?_ ?_
 ·simp only [g134_3,eES,Nat.reduceBEq]
  refine aops_bsl0 rfl ?_
  simp only [eES,Nat.reduceBEq]
  refine aops_app (site:=5) (g:=1) (xs:=[]) (ys:=xs) rfl rfl rfl rfl rfl h (by simp [maxLen]; omega) (by simp; omega) ?_
  simp only [eES,Nat.reduceBEq,Nat.reduceAdd]
  refine awp_give (l:=0) (site:=5) (g:=2) (o:=0) (n:=xs.length) (q:=false) (sz:=7) (xs:=xs) (by simp only [Nat.zero_add,eES,Nat.reduceBEq]) (by simp only [eES,Nat.reduceBEq]) (by simp) (by decide) hr ?_
  simp only [hng,o134,eES,eEX,Nat.reduceBEq,Nat.reduceAdd]
  simp [AV.un,isV,vget]
 ·intro he
  have hx : xs = []:=by
   rcases he with he | he
   ·exact he
   ·exact flat_nilV h he
  subst hx
  simp only [g134_2,eES,Nat.reduceBEq]
  refine awp_vec (by simp only [eES,Nat.reduceBEq]) rfl ?_
  simp only [eES]
  refine awp_give (l:=0) (site:=2) (g:=1) (o:=0) (n:=0) (q:=false) (sz:=7) (xs:=[]) (by simp only [eES,Nat.reduceBEq]) (by simp only [eES,Nat.reduceBEq]) (by simp) (by decide) hr ?_
  simp only [hng,o134,eES,eEX,Nat.reduceBEq,↓reduceIte,Nat.reduceAdd,Nat.reduceLeDiff]
  simp [AV.un,isV,vget]

end Go.Proofs.YtelhohgmmhbahaaGreatDoor.Va

set_option linter.unusedSimpArgs false
namespace Go.Proofs.YtelhohgmmhbahaaGreatDoor.Va
open Go Am Rc Bt Br Up

theorem aops_bslB {P : Program} {K : St → Prop} {its : List Am.Item} {f : Fr} {m : Mem} {ds : List DF} {d sz len : Nat} {z y l : List AV} {ps : List (Nat × Nat × RA)} (hy : fill f ps (zeros z sz len) = some y) (h1 : AV.rfL y = true) (h2 : y.all AV.leaf = true) (hc : chunk sz len (y.map nn0) = l) (h : aops P its ⟨upd f d (.list l),m,ds⟩ K) :
  aops P (⟨some d,.bsl sz len z ps,none⟩ :: its) ⟨f,m,ds⟩ K:=by
 subst hc
 exact ⟨y,hy,h1,h2,h⟩

def inP (v : V) (i : Nat) : List V:=v.list ++ (v.pairs.take i).flatMap fun p => [p.1,p.2]
def inS (v : V) (i : Nat) : List V:=inP v v.pairs.length ++ (v.slots.take i).map (·.2)

theorem inP_len (v : V) (i : Nat) (h : i ≤ v.pairs.length) : (inP v i).length = v.list.length + 2 * i:=by
 have : ∀ l : List (V × V),(l.flatMap fun p => [p.1,p.2]).length = 2 * l.length:=by
  intro l
  induction l with
  | nil => rfl
  | cons x l ih => simp only [List.flatMap_cons,List.length_append,List.length_cons,List.length_nil,ih]; omega
 rw [inP,List.length_append,this,List.length_take]
 omega
theorem inS_len (v : V) (i : Nat) (h : i ≤ v.slots.length) : (inS v i).length = v.list.length + 2 * v.pairs.length + i:=by
 rw [inS,List.length_append,inP_len v _ (Nat.le_refl _),List.length_map,List.length_take]
 omega
theorem inP_step {v : V} {i : Nat} {x : V × V} (h : v.pairs[i]? = some x) : (inP v (i + 1)).map V.av = (inP v i).map V.av ++ [x.1.av,x.2.av]:=by
 unfold inP
 rw [List.take_add_one,h]
 simp
theorem inS_step {v : V} {i : Nat} {x : Int × V} (h : v.slots[i]? = some x) : (inS v (i + 1)).map V.av = (inS v i).map V.av ++ [x.2.av]:=by
 unfold inS
 rw [List.take_add_one,h]
 simp
theorem inS_all (v : V) : inS v v.slots.length = inn v:=by
 unfold inS inP inn
 rw [List.take_length,List.take_length]
theorem all7 (l : List V) : (l.map V.av).all (fun e => e.cells.length == 7) = true:=by
 rw [List.all_map,List.all_eq_true]
 intro x _
 simp [av7,AV.cells]

def I1 (v : V) (k : Nat) (st : St) : Prop :=
 ∃ f fr i g,st = ⟨f,[fr],[]⟩ ∧ k = v.pairs.length - i ∧ i ≤ v.pairs.length ∧ f 1 = .ptr 0 1 0 ∧ f 3 = .vec 0 1000 g 0 (inP v i).length false ∧ f 12 = .list (v.pairs.map V.pav) ∧ f 13 = .int .i64 (v.pairs.length : Nat) ∧ f 14 = .int .i64 (i : Nat) ∧ fr 1 = .cells (vc v) ∧ fr 1000 = .vec g 7 ((inP v i).map V.av) ∧ fr 7 = .none ∧ ∀ s ∈ [5],(fr s).isRow = false
def I2 (v : V) (k : Nat) (st : St) : Prop :=
 ∃ f fr i g,st = ⟨f,[fr],[]⟩ ∧ k = v.slots.length - i ∧ i ≤ v.slots.length ∧ f 3 = .vec 0 1000 g 0 (inS v i).length false ∧ f 27 = .list (v.slots.map V.sav) ∧ f 28 = .int .i64 (v.slots.length : Nat) ∧ f 29 = .int .i64 (i : Nat) ∧ fr 1000 = .vec g 7 ((inS v i).map V.av) ∧ ∀ s ∈ [7],(fr s).isRow = false

theorem v54 (v : V) (h : v.list.length + 2 * v.pairs.length + v.slots.length ≤ 1099511627776) : Fn1 Tryz.prog 54 [v.av] (.list ((inn v).map V.av)):=by
 have cl:=fun fr hr => v134 (v.list.map V.av) fr [] (all7 _) (by rw [List.length_map]; omega) hr
 rw [av7]
 refine fn1_of_awp (rc:=r54) (rs:=o54) Tryz.func54 rfl rfl Tryz.ntmps54 k54 q54 (by simp) ?_
 simp only [g54_0,g54_1,g54_2,g54_7,g54_12,r54,o54,eES,eEX,Nat.reduceBEq,Nat.reduceAdd]
 refine aops_callF (cl _ rfl) (by simp only [List.map_cons,List.map_nil,eES,Nat.reduceBEq]) ?_
 simp only [List.length_map,eES,eEX,Nat.reduceBEq,Nat.reduceAdd]
 have e0 : (inP v 0).map V.av = v.list.map V.av:=by unfold inP; simp
 have l0:=inP_len v 0 (Nat.zero_le _)
 refine awp_loop (I1 v) _ ⟨_,_,0,_,rfl,rfl,Nat.zero_le _,(by first | rfl | simp only [eES,eEX,Nat.reduceBEq,↓reduceIte,reduceCtorEq,Nat.reduceEqDiff]),(by rw [l0]; exact (by first | rfl | simp only [eES,eEX,Nat.reduceBEq,↓reduceIte,reduceCtorEq,Nat.reduceEqDiff])),(by first | rfl | simp only [eES,eEX,Nat.reduceBEq,↓reduceIte,reduceCtorEq,Nat.reduceEqDiff]),(by first | rfl | simp only [eES,eEX,Nat.reduceBEq,↓reduceIte,reduceCtorEq,Nat.reduceEqDiff]),(by first | rfl | simp only [eES,eEX,Nat.reduceBEq,↓reduceIte,reduceCtorEq,Nat.reduceEqDiff]),(by first | rfl | simp only [eES,eEX,Nat.reduceBEq,↓reduceIte,reduceCtorEq,Nat.reduceEqDiff]),(by rw [e0]; exact (by first | rfl | simp only [eES,eEX,Nat.reduceBEq,↓reduceIte,reduceCtorEq,Nat.reduceEqDiff])),rfl,by simp <;> rfl⟩ ?_
 rintro _ st ⟨f0,fr0,i,g,rfl,rfl,hil,h10,h30,h120,h130,h140,m10,mR0,n70,r5⟩
 refine awp_drops (a:=_) [5] r5 ?_
 intro f fr hf hm hn
 have h1 : f 1 = .ptr 0 1 0:=by rw [hf,h10] <;> rfl
 have h3 : f 3 = .vec 0 1000 g 0 (inP v i).length false:=by rw [hf,h30] <;> rfl
 have h12 : f 12 = .list (v.pairs.map V.pav):=by rw [hf,h120] <;> rfl
 have h13 : f 13 = .int .i64 (v.pairs.length : Nat):=by rw [hf,h130] <;> rfl
 have h14 : f 14 = .int .i64 (i : Nat):=by rw [hf,h140] <;> rfl
 have m1 : fr 1 = .cells (vc v):=by rw [hm 1 (by decide),m10] <;> rfl
 have mR : fr 1000 = .vec g 7 ((inP v i).map V.av):=by rw [hm 1000 (by decide),mR0] <;> rfl
 have n7 : fr 7 = .none:=by rw [hm 7 (by decide),n70] <;> rfl
 have n5:=hn 5 (by decide)
 clear hf hm hn h10 h30 h120 h130 h140 m10 mR0 n70 r5 e0 l0
 have m1':=m1
 simp only [vc] at m1
 simp only [g54_3,g54_4,g54_5,g54_6,h13,h14,eES,Nat.reduceBEq,↓reduceIte]
 by_cases hlt : i < v.pairs.length
 ·obtain ⟨x,hi⟩ : ∃ x,v.pairs[i]? = some x:=⟨v.pairs[i],List.getElem?_eq_getElem hlt⟩
  have hg:=getP hi
  have e1:=wi64_s i _ hlt (by simp only [maxLen]; omega)
  have le:=inP_len v i hil
  have ln:=inP_len v (i + 1) hlt
  simp only [lt_t hlt,nneg,Int.toNat_natCast,aiaddr,hg,n5,splice,List.take_succ_cons,List.take_zero,List.drop_succ_cons,List.drop_zero,List.drop_nil,List.append_nil,List.nil_append,List.length_cons,List.length_nil,h3,h12,h14,eES,eEX,Nat.reduceBEq,↓reduceIte,Nat.reduceAdd,Nat.reduceLeDiff]
  refine aops_bslB (l:=[x.1.av,x.2.av]) rfl rfl rfl (by rw [av7,av7]; rfl) ?_
  refine aops_app (site:=1000) (g:=g) (n:=(inP v i).length) (xs:=(inP v i).map V.av) (ys:=[x.1.av,x.2.av]) (by first | rfl | exact h3 | simp only [h3,eES,eEX,Nat.reduceBEq,↓reduceIte,reduceCtorEq,Nat.reduceEqDiff]) (by first | rfl | exact mR | simp only [mR,eES,eEX,Nat.reduceBEq,↓reduceIte,reduceCtorEq,Nat.reduceEqDiff]) rfl (by rw [List.length_map]) rfl (all7 [x.1,x.2]) (by simp only [List.length_cons,List.length_nil,maxLen]; omega) (by simp only [List.length_cons,List.length_nil]; omega) ?_
  simp only [h14,e1,eES,Nat.reduceBEq,↓reduceIte,Nat.reduceAdd]
  exact ⟨v.pairs.length - (i + 1),by omega,_,_,i + 1,g + 1,rfl,rfl,by omega,(by first | rfl | exact h1 | simp only [h1,eES,eEX,Nat.reduceBEq,↓reduceIte,reduceCtorEq,Nat.reduceEqDiff]),(by rw [ln]; simp only [le,eES,Nat.reduceBEq]; rfl),(by first | rfl | exact h12 | simp only [h12,eES,eEX,Nat.reduceBEq,↓reduceIte,reduceCtorEq,Nat.reduceEqDiff]),(by first | rfl | exact h13 | simp only [h13,eES,eEX,Nat.reduceBEq,↓reduceIte,reduceCtorEq,Nat.reduceEqDiff]),(by first | rfl | simp only [eES,eEX,Nat.reduceBEq,↓reduceIte,reduceCtorEq,Nat.reduceEqDiff]),(by first | rfl | exact m1' | simp only [m1',eES,eEX,Nat.reduceBEq,↓reduceIte,reduceCtorEq,Nat.reduceEqDiff]),(by rw [inP_step hi]; exact (by first | rfl | simp only [eES,eEX,Nat.reduceBEq,↓reduceIte,reduceCtorEq,Nat.reduceEqDiff])),(by first | rfl | exact n7 | simp only [n7,eES,eEX,Nat.reduceBEq,↓reduceIte,reduceCtorEq,Nat.reduceEqDiff]),by simp <;> rfl⟩
 have e : i = v.pairs.length:=by omega
 subst e
 simp only [lt_f hlt,h1,m1,List.length_map,eES,eEX,Nat.reduceBEq,↓reduceIte,Nat.reduceAdd]
 have e0 : inS v 0 = inP v v.pairs.length:=by unfold inS; simp
 refine awp_loop (I2 v) _ ⟨_,_,0,g,rfl,rfl,Nat.zero_le _,(by rw [e0]; exact (by first | rfl | exact h3 | simp only [h3,eES,eEX,Nat.reduceBEq,↓reduceIte,reduceCtorEq,Nat.reduceEqDiff])),(by first | rfl | simp only [eES,eEX,Nat.reduceBEq,↓reduceIte,reduceCtorEq,Nat.reduceEqDiff]),(by first | rfl | simp only [eES,eEX,Nat.reduceBEq,↓reduceIte,reduceCtorEq,Nat.reduceEqDiff]),(by first | rfl | simp only [eES,eEX,Nat.reduceBEq,↓reduceIte,reduceCtorEq,Nat.reduceEqDiff]),(by rw [e0]; exact (by first | rfl | exact mR | simp only [mR,eES,eEX,Nat.reduceBEq,↓reduceIte,reduceCtorEq,Nat.reduceEqDiff])),by simp only [List.mem_cons,List.not_mem_nil,or_false,forall_eq,n7] <;> rfl⟩ ?_
 clear h1 h3 h12 h13 h14 m1 m1' mR n5 n7 hil hlt e0 g
 rintro _ st ⟨f0,fr0,i,g,rfl,rfl,hil,h30,h270,h280,h290,mR0,r7⟩
 refine awp_drops (a:=_) [7] r7 ?_
 intro f fr hf hm hn
 have h3 : f 3 = .vec 0 1000 g 0 (inS v i).length false:=by rw [hf,h30] <;> rfl
 have h27 : f 27 = .list (v.slots.map V.sav):=by rw [hf,h270] <;> rfl
 have h28 : f 28 = .int .i64 (v.slots.length : Nat):=by rw [hf,h280] <;> rfl
 have h29 : f 29 = .int .i64 (i : Nat):=by rw [hf,h290] <;> rfl
 have mR : fr 1000 = .vec g 7 ((inS v i).map V.av):=by rw [hm 1000 (by decide),mR0] <;> rfl
 have n7:=hn 7 (by decide)
 clear hf hm hn h30 h270 h280 h290 mR0 r7
 simp only [g54_8,g54_9,g54_10,g54_11,h28,h29,eES,Nat.reduceBEq,↓reduceIte]
 by_cases hlt : i < v.slots.length
 ·obtain ⟨x,hi⟩ : ∃ x,v.slots[i]? = some x:=⟨v.slots[i],List.getElem?_eq_getElem hlt⟩
  have hg:=getS hi
  have e1:=wi64_s i _ hlt (by simp only [maxLen]; omega)
  have le:=inS_len v i hil
  have ln:=inS_len v (i + 1) hlt
  simp only [lt_t hlt,nneg,Int.toNat_natCast,aiaddr,hg,n7,splice,List.take_succ_cons,List.take_zero,List.drop_succ_cons,List.drop_zero,List.drop_nil,List.append_nil,List.nil_append,List.length_cons,List.length_nil,h3,h27,h29,eES,eEX,Nat.reduceBEq,↓reduceIte,Nat.reduceAdd,Nat.reduceLeDiff]
  refine aops_bslB (l:=[x.2.av]) rfl rfl rfl (by rw [av7]; rfl) ?_
  refine aops_app (site:=1000) (g:=g) (n:=(inS v i).length) (xs:=(inS v i).map V.av) (ys:=[x.2.av]) (by first | rfl | exact h3 | simp only [h3,eES,eEX,Nat.reduceBEq,↓reduceIte,reduceCtorEq,Nat.reduceEqDiff]) (by first | rfl | exact mR | simp only [mR,eES,eEX,Nat.reduceBEq,↓reduceIte,reduceCtorEq,Nat.reduceEqDiff]) rfl (by rw [List.length_map]) rfl (all7 [x.2]) (by simp only [List.length_cons,List.length_nil,maxLen]; omega) (by simp only [List.length_cons,List.length_nil]; omega) ?_
  simp only [h29,e1,eES,Nat.reduceBEq,↓reduceIte,Nat.reduceAdd]
  exact ⟨v.slots.length - (i + 1),by omega,_,_,i + 1,g + 1,rfl,rfl,by omega,(by rw [ln]; simp only [le,eES,Nat.reduceBEq]; rfl),(by first | rfl | exact h27 | simp only [h27,eES,eEX,Nat.reduceBEq,↓reduceIte,reduceCtorEq,Nat.reduceEqDiff]),(by first | rfl | exact h28 | simp only [h28,eES,eEX,Nat.reduceBEq,↓reduceIte,reduceCtorEq,Nat.reduceEqDiff]),(by first | rfl | simp only [eES,eEX,Nat.reduceBEq,↓reduceIte,reduceCtorEq,Nat.reduceEqDiff]),(by rw [inS_step hi]; exact (by first | rfl | simp only [eES,eEX,Nat.reduceBEq,↓reduceIte,reduceCtorEq,Nat.reduceEqDiff])),by simp <;> rfl⟩
 have e : i = v.slots.length:=by omega
 subst e
 rw [inS_all] at h3 mR
 simp only [lt_f hlt,h3,eES,eEX,Nat.reduceBEq,↓reduceIte]
 simp [AV.un,isV,vget,mR]
 rw [List.take_of_length_le (by rw [List.length_map]; exact Nat.le_refl _)]

def VcI (v : V) (k : Nat) (st : St) : Prop :=
 ∃ f fr i,st = ⟨f,[fr],[]⟩ ∧ k = (inn v).length - i ∧ i ≤ (inn v).length ∧ f 3 = .int .i64 (IntKind.i64.wrap ((1 + v.raws.length + cntL ((inn v).take i) : Nat) : Int)) ∧ f 11 = .list ((inn v).map V.av) ∧ f 12 = .int .i64 ((inn v).length : Nat) ∧ f 13 = .int .i64 (i : Nat) ∧ ∀ s ∈ [5],(fr s).isRow = false

theorem mem_inn {v x : V} (h : x ∈ inn v) : x ∈ v.list ∨ (∃ p ∈ v.pairs,x = p.1 ∨ x = p.2) ∨ ∃ s ∈ v.slots,x = s.2:=by
 unfold inn at h
 simp only [List.mem_append,List.mem_flatMap,List.mem_cons,List.not_mem_nil,or_false,List.mem_map] at h
 rcases h with (h | ⟨p,hp,h⟩) | ⟨s,hs,rfl⟩
 ·exact .inl h
 ·exact .inr (.inl ⟨p,hp,h⟩)
 ·exact .inr (.inr ⟨s,hs,rfl⟩)

theorem v19 (v : V) (hv : Thin v) : Fn1 Tryz.prog 19 [v.av] (.int .i64 (IntKind.i64.wrap (v.cnt : Int))):=by
 revert hv
 refine V.ind (P:=fun v => Thin v → Fn1 Tryz.prog 19 [v.av] (.int .i64 (IntKind.i64.wrap (v.cnt : Int)))) ?_ v
 clear v
 intro v hl hp hs hv
 obtain ⟨n,t1,t2,t3,t4⟩:=hv
 have hall : ∀ x ∈ inn v,Fn1 Tryz.prog 19 [x.av] (.int .i64 (IntKind.i64.wrap (x.cnt : Int))):=by
  intro x hx
  rcases mem_inn hx with h | ⟨p,h,rfl | rfl⟩ | ⟨s,h,rfl⟩
  ·exact hl x h (t1 x h)
  ·exact (hp p h).1 (t2 p h)
  ·exact (hp p h).2 (t3 p h)
  ·exact hs s h (t4 s h)
 have hin : (inn v).length ≤ maxLen:=by
  rw [← inS_all,inS_len v _ (Nat.le_refl _)]
  simp only [maxLen]; omega
 have c0:=v54 v n
 rw [av7] at c0
 rw [av7]
 refine fn1_of_awp (rc:=r19) (rs:=o19) Tryz.func19 rfl rfl Tryz.ntmps19 k19 q19 (by simp) ?_
 simp only [g19_0,g19_1,g19_2,g19_7,r19,o19,List.length_map,eES,eEX,Nat.reduceBEq,↓reduceIte,Nat.reduceAdd,Nat.reduceLeDiff]
 refine aops_call c0 rfl rfl rfl (.inl rfl) ?_
 simp only [List.length_map,eES,Nat.reduceBEq]
 refine awp_loop (VcI v) _ ⟨_,_,0,rfl,rfl,Nat.zero_le _,(by simp only [List.take_zero,cntL,Nat.add_zero,Int.natCast_add,Int.natCast_one,eES,Nat.reduceBEq]),(by first | rfl | simp only [eES,eEX,Nat.reduceBEq,↓reduceIte,reduceCtorEq,Nat.reduceEqDiff]),(by first | rfl | simp only [eES,eEX,Nat.reduceBEq,↓reduceIte,reduceCtorEq,Nat.reduceEqDiff]),(by first | rfl | simp only [eES,eEX,Nat.reduceBEq,↓reduceIte,reduceCtorEq,Nat.reduceEqDiff]),by simp <;> rfl⟩ ?_
 rintro _ st ⟨f0,fr0,i,rfl,rfl,hil,h30,h110,h120,h130,r5⟩
 refine awp_drops (a:=_) [5] r5 ?_
 intro f fr hf hm hn
 have h3 : f 3 = .int .i64 (IntKind.i64.wrap ((1 + v.raws.length + cntL ((inn v).take i) : Nat) : Int)):=by rw [hf,h30] <;> rfl
 have h11 : f 11 = .list ((inn v).map V.av):=by rw [hf,h110] <;> rfl
 have h12 : f 12 = .int .i64 ((inn v).length : Nat):=by rw [hf,h120] <;> rfl
 have h13 : f 13 = .int .i64 (i : Nat):=by rw [hf,h130] <;> rfl
 have n5:=hn 5 (by decide)
 clear hf hm hn h30 h110 h120 h130 r5
 simp only [g19_3,g19_4,g19_5,g19_6,h12,h13,eES,Nat.reduceBEq,↓reduceIte]
 by_cases hlt : i < (inn v).length
 ·obtain ⟨x,hi⟩ : ∃ x,(inn v)[i]? = some x:=⟨(inn v)[i],List.getElem?_eq_getElem hlt⟩
  have hg:=getV hi
  have e1:=wi64_s i _ hlt hin
  have c1:=hall x (List.mem_of_getElem? hi)
  rw [av7] at c1
  simp only [lt_t hlt,nneg,Int.toNat_natCast,aiaddr,hg,n5,splice,List.take_succ_cons,List.take_zero,List.drop_succ_cons,List.drop_zero,List.drop_nil,List.append_nil,List.nil_append,List.length_cons,List.length_nil,h3,h11,h13,eES,eEX,Nat.reduceBEq,↓reduceIte,Nat.reduceAdd,Nat.reduceLeDiff]
  refine aops_call c1 rfl rfl rfl (.inl rfl) ?_
  simp only [h13,e1,wi_add,eES,Nat.reduceBEq,↓reduceIte]
  exact ⟨(inn v).length - (i + 1),by omega,_,_,i + 1,rfl,rfl,by omega,(by rw [cntL_snoc hi]; simp only [h3,← Int.natCast_add,Nat.add_assoc,eES,Nat.reduceBEq]),(by first | rfl | exact h11 | simp only [h11,eES,eEX,Nat.reduceBEq,↓reduceIte,reduceCtorEq,Nat.reduceEqDiff]),(by first | rfl | exact h12 | simp only [h12,eES,eEX,Nat.reduceBEq,↓reduceIte,reduceCtorEq,Nat.reduceEqDiff]),(by first | rfl | simp only [eES,eEX,Nat.reduceBEq,↓reduceIte,reduceCtorEq,Nat.reduceEqDiff]),by simp <;> rfl⟩
 have e : i = (inn v).length:=by omega
 subst e
 rw [List.take_length,← cnt_inn] at h3
 simp only [lt_f hlt,h3,eES,Nat.reduceBEq,↓reduceIte]

end Go.Proofs.YtelhohgmmhbahaaGreatDoor.Va

set_option linter.unusedSimpArgs false
namespace Go.Proofs.YtelhohgmmhbahaaGreatDoor.Va
open Go Am Rc Bt Br Up

def fitsF (P : PL) (t : Int) (v : V) : Int :=
 if t < 0 ∨ t ≥ (P.progs.length : Int) then 10 else if msgF P 16 (gat P t) v = 0 then (if IntKind.i64.wrap (v.cnt : Int) > 4096 then 3 else 0) else msgF P 16 (gat P t) v

section
variable {M : Nat} {P : PL} (hP : P.ok M) (hM : M ≤ 140737488351232) (hU : Use P) (t : Int) (v : V) (hv : v.ok M)

include hP hU hv in
theorem v8 : Fn1 Tryz.prog 8 [P.av,.int .i64 t,v.av] (.int .i64 (fitsF P t v)):=by
 have e0 : P.av = .agg [.list (P.progs.map gav),.list (P.enums.map eav)]:=rfl
 rw [av7]
 refine fn1_of_awp (rc:=r8) (rs:=o8) Tryz.func8 rfl rfl Tryz.ntmps8 k8 q8 (by simp) ?_
 simp only [g8_0,g8_1,g8_2,g8_3,g8_4,g8_5,g8_6,g8_7,g8_8,r8,o8,e0,eES,eEX,Nat.reduceBEq,↓reduceIte]
 unfold fitsF
 by_cases t0 : t < 0
 ·have d0 : decide (t < 0) = true:=decide_eq_true t0
  rw [if_pos (.inl t0)]
  simp only [d0,eES,Nat.reduceBEq]
 have d0 : decide (t < 0) = false:=decide_eq_false t0
 by_cases t1 : t ≥ (P.progs.length : Int)
 ·have d1 : decide (t ≥ (P.progs.length : Int)) = true:=decide_eq_true t1
  rw [if_pos (.inr t1)]
  simp only [d0,d1,List.length_map,eES,eEX,Nat.reduceBEq,↓reduceIte,Nat.reduceAdd]
 have d1 : decide (t ≥ (P.progs.length : Int)) = false:=decide_eq_false t1
 rw [if_neg (by omega)]
 obtain ⟨i,hi⟩:=Int.eq_ofNat_of_zero_le (by omega : 0 ≤ t)
 subst hi
 have hlt : i < P.progs.length:=by omega
 obtain ⟨g,hg⟩ : ∃ g,P.progs[i]? = some g:=⟨P.progs[i],List.getElem?_eq_getElem hlt⟩
 have hga : (P.progs.map gav)[i]? = some (.agg g.cells):=by simp [hg,gav]
 have hq : gat P (i : Int) = g:=by unfold gat; rw [Int.toNat_natCast,hg]; rfl
 have c1:=v18 hP hU 16 (Nat.le_refl _) g (List.mem_of_getElem? hg) v hv
 have e16 : (17 : Int) - ((16 : Nat) : Int) = 1:=rfl
 have ht:=thin_msg (P:=P) 16 g v hv
 rw [e16,e0,av7] at c1
 simp only [gav,PG.cells] at c1
 simp only [PG.cells] at hga
 rw [hq]
 simp only [d0,d1,nneg,Int.toNat_natCast,aiaddr,hga,List.length_map,List.take_succ_cons,List.take_zero,List.drop_succ_cons,List.drop_zero,splice,eES,eEX,Nat.reduceBEq,↓reduceIte,Nat.reduceAdd,Nat.reduceLeDiff]
 refine aops_call c1 rfl rfl rfl (.inl rfl) ?_
 by_cases hz : msgF P 16 g v = 0
 ·have c2:=v19 v (ht hz)
  rw [av7] at c2
  have b0 : ((0 : Int) != 0) = false:=rfl
  rw [if_pos hz]
  simp only [hz,b0,eES,eEX,Nat.reduceBEq,↓reduceIte,Nat.reduceAdd,Nat.reduceLeDiff]
  refine aops_call c2 rfl rfl rfl (.inl rfl) ?_
  by_cases hc : IntKind.i64.wrap (v.cnt : Int) > 4096
  ·have d2 : decide (IntKind.i64.wrap (v.cnt : Int) > 4096) = true:=decide_eq_true hc
   rw [if_pos hc]
   simp only [d2,eES,Nat.reduceBEq,↓reduceIte]
  ·have d2 : decide (IntKind.i64.wrap (v.cnt : Int) > 4096) = false:=decide_eq_false hc
   rw [if_neg hc]
   simp only [d2,eES,Nat.reduceBEq,↓reduceIte]
 ·have b1 : (msgF P 16 g v != 0) = true:=by simp [hz]
  rw [if_neg hz]
  simp only [b1,eES,Nat.reduceBEq,↓reduceIte]

include hP hM hU hv in
theorem v9 : Fn1 Tryz.prog 9 [P.av,.int .i64 t,v.av] (.int .i64 (fitsF P t v)):=by
 have e0 : P.av = .agg [.list (P.progs.map gav),.list (P.enums.map eav)]:=rfl
 rw [av7]
 refine fn1_of_awp (rc:=r9) (rs:=o9) Tryz.func9 rfl rfl Tryz.ntmps9 k9 q9 (by simp) ?_
 simp only [g9_0,g9_1,g9_2,g9_3,g9_4,g9_5,g9_6,g9_7,g9_8,r9,o9,e0,eES,eEX,Nat.reduceBEq,↓reduceIte]
 unfold fitsF
 by_cases t0 : t < 0
 ·have d0 : decide (t < 0) = true:=decide_eq_true t0
  rw [if_pos (.inl t0)]
  simp only [d0,eES,Nat.reduceBEq]
 have d0 : decide (t < 0) = false:=decide_eq_false t0
 by_cases t1 : t ≥ (P.progs.length : Int)
 ·have d1 : decide (t ≥ (P.progs.length : Int)) = true:=decide_eq_true t1
  rw [if_pos (.inr t1)]
  simp only [d0,d1,List.length_map,eES,eEX,Nat.reduceBEq,↓reduceIte,Nat.reduceAdd]
 have d1 : decide (t ≥ (P.progs.length : Int)) = false:=decide_eq_false t1
 rw [if_neg (by omega)]
 have hlt : t.toNat < P.progs.length:=by omega
 obtain ⟨g,hg⟩ : ∃ g,P.progs[t.toNat]? = some g:=⟨P.progs[t.toNat],List.getElem?_eq_getElem hlt⟩
 have hq : gat P t = g:=by unfold gat; rw [hg]; rfl
 have c1:=v20 hP hM hU 16 (Nat.le_refl _) t g hg (by omega) v hv
 have e16 : (17 : Int) - ((16 : Nat) : Int) = 1:=rfl
 rw [e16,e0,av7] at c1
 rw [hq]
 simp only [d0,d1,List.length_map,eES,eEX,Nat.reduceBEq,↓reduceIte,Nat.reduceAdd,Nat.reduceLeDiff]
 refine aops_call c1 rfl rfl rfl (.inl rfl) ?_
 by_cases hz : msgF P 16 g v = 0
 ·have c2:=v17 v hv
  rw [av7] at c2
  have b0 : ((0 : Int) != 0) = false:=rfl
  rw [if_pos hz]
  simp only [hz,b0,eES,eEX,Nat.reduceBEq,↓reduceIte,Nat.reduceAdd,Nat.reduceLeDiff]
  refine aops_call c2 rfl rfl rfl (.inl rfl) ?_
  by_cases hc : IntKind.i64.wrap (v.cnt : Int) > 4096
  ·have d2 : decide (IntKind.i64.wrap (v.cnt : Int) > 4096) = true:=decide_eq_true hc
   rw [if_pos hc]
   simp only [d2,eES,Nat.reduceBEq,↓reduceIte]
  ·have d2 : decide (IntKind.i64.wrap (v.cnt : Int) > 4096) = false:=decide_eq_false hc
   rw [if_neg hc]
   simp only [d2,eES,Nat.reduceBEq,↓reduceIte]
 ·have b1 : (msgF P 16 g v != 0) = true:=by simp [hz]
  rw [if_neg hz]
  simp only [b1,eES,Nat.reduceBEq,↓reduceIte]

end
end Go.Proofs.YtelhohgmmhbahaaGreatDoor.Va

set_option linter.unusedSimpArgs false
namespace Go.Proofs.YtelhohgmmhbahaaGreatDoor.Va
open Go Am Rc Bt Br

theorem v6 {M : Nat} (P : PL) (hP : P.ok M) (hM : M ≤ 140737488351232) : Fn1 Tryz.prog 6 [P.av] (.bool (decide ((P.progs.length : Int) ≤ 8) && decide ((P.enums.length : Int) ≤ 8) && ck P == 0)):=by
 have e0 : P.av = .agg [.list (P.progs.map gav),.list (P.enums.map eav)]:=rfl
 have ct:=z13 P hP hM
 rw [e0] at ct
 refine fn1_of_awp (rc:=r6) (rs:=o6) Tryz.func6 rfl rfl Tryz.ntmps6 k6 q6 (by simp) ?_
 simp only [g6_0,g6_1,r6,o6,e0,List.length_map,eES,eEX,Nat.reduceBEq,↓reduceIte,Nat.reduceAdd]
 cases a1 : decide ((P.progs.length : Int) ≤ 8)
 ·simp only [Bool.false_and,eES,Nat.reduceBEq]
 cases a2 : decide ((P.enums.length : Int) ≤ 8)
 ·simp only [a2,Bool.true_and,Bool.false_and,List.length_map,eES,eEX,Nat.reduceBEq,↓reduceIte,Nat.reduceAdd]
 simp only [a2,Bool.true_and,List.length_map,eES,eEX,Nat.reduceBEq,↓reduceIte,Nat.reduceAdd,Nat.reduceLeDiff]
 refine aops_call ct rfl rfl rfl (.inl rfl) ?_
 simp only [eES,Nat.reduceBEq,↓reduceIte]

theorem v7 (v : V) {M : Nat} (hv : v.ok M) : Fn1 Tryz.prog 7 [v.av] (.bool (decide (IntKind.i64.wrap (v.cnt : Int) ≤ 5000))):=by
 have ct:=v17 v hv
 rw [V.av,V.eta] at ct
 rw [V.av,V.eta]
 refine fn1_of_awp (rc:=r7) (rs:=o7) Tryz.func7 rfl rfl Tryz.ntmps7 k7 q7 (by simp) ?_
 simp only [g7_0,g7_1,r7,o7,eES,eEX,Nat.reduceBEq,↓reduceIte,Nat.reduceAdd,Nat.reduceLeDiff]
 refine aops_call ct rfl rfl rfl (.inl rfl) ?_
 simp only [eES,Nat.reduceBEq,↓reduceIte]

theorem c3 {M : Nat} (P : PL) (hP : P.ok M) (hM : M ≤ 140737488351232) (g : Int) (v : V) (hv : v.ok M) : Fn1 Tryz.prog 3 [P.av,.int .i64 g,v.av] (.bool true):=by
 have e0 : P.av = .agg [.list (P.progs.map gav),.list (P.enums.map eav)]:=rfl
 have c1:=v6 P hP hM
 have c2:=v7 v hv
 have c3 : ck P = 0 → Fn1 Tryz.prog 8 [P.av,.int .i64 g,v.av] (.int .i64 (fitsF P g v)):=fun h => v8 hP (use_of h) g v hv
 have c4 : ck P = 0 → Fn1 Tryz.prog 9 [P.av,.int .i64 g,v.av] (.int .i64 (fitsF P g v)):=fun h => v9 hP hM (use_of h) g v hv
 rw [V.av,V.eta,e0] at c3 c4
 rw [V.av,V.eta] at c2
 rw [e0] at c1
 rw [V.av,V.eta]
 refine fn1_of_awp (rc:=r3) (rs:=o3) Tryz.func3 rfl rfl Tryz.ntmps3 k3 q3 (by simp) ?_
 simp only [g3_0,g3_1,g3_2,g3_3,r3,o3,e0,eES,eEX,Nat.reduceBEq,↓reduceIte,Nat.reduceAdd,Nat.reduceLeDiff]
 refine aops_call c1 rfl rfl rfl (.inl rfl) ?_
 cases a1 : (decide ((P.progs.length : Int) ≤ 8) && decide ((P.enums.length : Int) ≤ 8) && ck P == 0)
 ·simp only [eES,Nat.reduceBEq]
 have hc : ck P = 0:=by
  simp only [Bool.and_eq_true,beq_iff_eq] at a1
  exact a1.2
 simp only [eES,eEX,Nat.reduceBEq,↓reduceIte,Nat.reduceAdd,Nat.reduceLeDiff]
 refine aops_call c2 rfl rfl rfl (.inl rfl) ?_
 cases a2 : decide (IntKind.i64.wrap (v.cnt : Int) ≤ 5000)
 ·simp only [eES,Nat.reduceBEq]
 simp only [eES,eEX,Nat.reduceBEq,↓reduceIte,Nat.reduceAdd,Nat.reduceLeDiff]
 refine aops_call (c3 hc) rfl rfl rfl (.inl rfl) ?_
 simp only [eES,eEX,Nat.reduceBEq,↓reduceIte,Nat.reduceAdd,Nat.reduceLeDiff]
 refine aops_call (c4 hc) rfl rfl rfl (.inl rfl) ?_
 simp only [beq_self_eq_true,eES,Nat.reduceBEq,↓reduceIte]
 refine aops_call Ev.awake_ok rfl rfl rfl (.inl rfl) ?_
 simp only [eES,Nat.reduceBEq]

end Go.Proofs.YtelhohgmmhbahaaGreatDoor.Va

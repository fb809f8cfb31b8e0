/- Parts of the proof, in order. -/
import Derived.Test.YtgannjophilbiaaGreatDoorMPlanNorms2

namespace Go.Proofs.YtgannjophilbiaaGreatDoor.Ev
open Go Am Rc

def tab : Tab:=fun k => match k with
 | 30 => some (r30,o30,27)
 | 69 => some (r69,o69,21)
 | 11 => some (r11,o11,40)
 | 29 => some (r29,o29,45)
 | 10 => some (r10,o10,32)
 | 66 => some (r66,o66,7)
 | 67 => some (r67,o67,68)
 | 27 => some (r27,o27,77)
 | 105 => some (r105,o105,99)
 | 106 => some (r106,o106,12)
 | 107 => some (r107,o107,19)
 | 108 => some (r108,o108,9)
 | 109 => some (r109,o109,19)
 | 111 => some (r111,o111,18)
 | 60 => some (r60,o60,74)
 | 62 => some (r62,o62,9)
 | 144 => some (r144,o144,56)
 | 145 => some (r145,o145,27)
 | 146 => some (r146,o146,20)
 | 147 => some (r147,o147,19)
 | 148 => some (r148,o148,42)
 | 149 => some (r149,o149,79)
 | 152 => some (r152,o152,19)
 | 156 => some (r156,o156,8)
 | 102 => some (r102,o102,19)
 | 173 => some (r173,o173,9)
 | 175 => some (r175,o175,19)
 | 176 => some (r176,o176,30)
 | 178 => some (r178,o178,11)
 | 179 => some (r179,o179,112)
 | 180 => some (r180,o180,52)
 | 182 => some (r182,o182,15)
 | 183 => some (r183,o183,11)
 | 184 => some (r184,o184,10)
 | 187 => some (r187,o187,8)
 | 188 => some (r188,o188,19)
 | 197 => some (r197,o197,19)
 | 198 => some (r198,o198,8)
 | 199 => some (r199,o199,19)
 | 200 => some (r200,o200,8)
 | 201 => some (r201,o201,27)
 | 202 => some (r202,o202,12)
 | 204 => some (r204,o204,19)
 | 205 => some (r205,o205,57)
 | 206 => some (r206,o206,50)
 | 207 => some (r207,o207,59)
 | 209 => some (r209,o209,31)
 | 211 => some (r211,o211,36)
 | 213 => some (r213,o213,9)
 | 219 => some (r219,o219,66)
 | 220 => some (r220,o220,9)
 | 225 => some (r225,o225,34)
 | 229 => some (r229,o229,27)
 | 230 => some (r230,o230,19)
 | 232 => some (r232,o232,34)
 | 234 => some (r234,o234,19)
 | _ => none

theorem tab_ok : TabOk Tryz.prog tab:=by
 intro k c rs N h
 unfold tab at h
 split at h
 ·cases h; exact k30
 ·cases h; exact k69
 ·cases h; exact k11
 ·cases h; exact k29
 ·cases h; exact k10
 ·cases h; exact k66
 ·cases h; exact k67
 ·cases h; exact k27
 ·cases h; exact k105
 ·cases h; exact k106
 ·cases h; exact k107
 ·cases h; exact k108
 ·cases h; exact k109
 ·cases h; exact k111
 ·cases h; exact k60
 ·cases h; exact k62
 ·cases h; exact k144
 ·cases h; exact k145
 ·cases h; exact k146
 ·cases h; exact k147
 ·cases h; exact k148
 ·cases h; exact k149
 ·cases h; exact k152
 ·cases h; exact k156
 ·cases h; exact k102
 ·cases h; exact k173
 ·cases h; exact k175
 ·cases h; exact k176
 ·cases h; exact k178
 ·cases h; exact k179
 ·cases h; exact k180
 ·cases h; exact k182
 ·cases h; exact k183
 ·cases h; exact k184
 ·cases h; exact k187
 ·cases h; exact k188
 ·cases h; exact k197
 ·cases h; exact k198
 ·cases h; exact k199
 ·cases h; exact k200
 ·cases h; exact k201
 ·cases h; exact k202
 ·cases h; exact k204
 ·cases h; exact k205
 ·cases h; exact k206
 ·cases h; exact k207
 ·cases h; exact k209
 ·cases h; exact k211
 ·cases h; exact k213
 ·cases h; exact k219
 ·cases h; exact k220
 ·cases h; exact k225
 ·cases h; exact k229
 ·cases h; exact k230
 ·cases h; exact k232
 ·cases h; exact k234
 ·cases h


def nat : Cal:=fun _ _ _ => none

theorem nat_ok : CalOk Tryz.prog nat:=by
 intro k args m v m' h
 cases h


theorem awake_run : evT nat tab 3000 11 [] = true:=by decide +kernel

theorem awake_ok : Fn1 Tryz.prog 11 [] (.bool true):=fn1_of_evT nat_ok tab_ok awake_run

end Go.Proofs.YtgannjophilbiaaGreatDoor.Ev

set_option linter.unusedSimpArgs false
namespace Go.Proofs.YtgannjophilbiaaGreatDoor.Va
open Go Am Rc Bt

def vo (k : Int) (b : Nat) (t : List UInt8) (l p s r : List AV) : AV:=.agg [.int .i64 k,.int .u64 (b : Nat),.str t,.list l,.list p,.list s,.list r]

section
variable (k : Int) (b : Nat) (t : List UInt8) (l p s r : List AV)

def lon : Bool:=(l.length : Int) == 0 && (p.length : Int) == 0 && (s.length : Int) == 0 && (r.length : Int) == 0
def zer : Bool:=isk k && lon l p s r && (b : Int) == 0 && t == []
def emp : Bool:=(k == 11 && (l.length : Int) == 0) || (k == 12 && (p.length : Int) == 0) || zer k b t l p s r

theorem y99 : Fn1 Tryz.prog 99 [vo k b t l p s r] (.bool (lon l p s r)):=by
 refine k99.fn (by simp) ?_
 simp only [vo,lon,eES,eEX,seval]
 cases h0 : ((l.length : Int) == 0) <;> cases h1 : ((p.length : Int) == 0) <;> cases h2 : ((s.length : Int) == 0) <;> simp only [h1,h2,Bool.true_and,Bool.false_and,eES,eEX,seval]

theorem y88 (hl : l.length ≤ 140737488351232) (hp : p.length ≤ 140737488351232) (hs : s.length ≤ 140737488351232) (hr : r.length ≤ 140737488351232) :
  Fn1 Tryz.prog 88 [vo k b t l p s r] (.bool (lon l p s r && (if txk k = true then (b : Int) == 0 else t == []))):=by
 refine k88.fn (by simp) ?_
 have w : IntKind.i64.wrap (IntKind.i64.wrap (IntKind.i64.wrap ((l.length : Int) + (p.length : Int)) + (s.length : Int)) + (r.length : Int)) = (l.length + p.length + s.length + r.length : Nat):=by
  simp only [wi64]; omega
 simp only [vo,w,eES,eEX,seval]
 by_cases h : l.length + p.length + s.length + r.length = 0
 ·have d : decide (((l.length + p.length + s.length + r.length : Nat) : Int) > 0) = false:=decide_eq_false (by omega)
  have e : lon l p s r = true:=by
   unfold lon
   simp only [Bool.and_eq_true,beq_iff_eq]
   omega
  simp only [d,e,Bool.true_and,eES,eEX,seval]
  refine aops_call (x135 k) rfl rfl rfl (.inl rfl) ?_
  cases txk k
  ·simp only [Bool.false_eq_true,astr,eES,eEX,seval]
  ·simp only [eES,eEX,seval]
 ·have d : decide (((l.length + p.length + s.length + r.length : Nat) : Int) > 0) = true:=decide_eq_true (by omega)
  have e : lon l p s r = false:=by
   unfold lon
   rw [Bool.eq_false_iff]
   simp only [ne_eq,Bool.and_eq_true,beq_iff_eq]
   omega
  simp only [d,e,Bool.false_and,eES,seval]

end

open Br

def key (o : PO) : Bool:=if o.card = 5 then decide (o.key ≥ 1) && decide (o.key ≤ 7) && o.key != 6 else o.key == 0
def aim (P : PL) (o : PO) : Bool :=
 if o.kind = 10 then decide (o.target ≥ 0) && decide (o.target < (P.progs.length : Int)) && o.card != 3
 else if o.kind = 9 then decide (o.target ≥ 0) && decide (o.target < (P.enums.length : Int)) else isk o.kind && o.target == -1
def arg1 (P : PL) (o : PO) : Bool:=vld o.alias && decide ((o.alias.length : Int) ≤ 4096) && decide (o.card ≥ 1) && decide (o.card ≤ 5) && key o && aim P o
def uok (o : PO) : Bool:=o.union == -1 || o.card == 2
def joinU : List PO → Int → Int → Option Int
 | [],n,_ => some n
 | o :: l,n,b => if o.union = n then joinU l (n + 1) n else if o.union = -1 ∨ o.union = b then joinU l n o.union else none
def uniB (g : PG) : Bool:=match joinU g.ops 0 (-1) with
 | some n => g.unions == n
 | none => false
def fitv (k kd : Int) (b : Nat) (t : List UInt8) (l p s r : List AV) : Bool :=
 isk k && kd == k && lon l p s r && (if txk kd = true then (b : Int) == 0 else t == []) && fitn k b && decide ((t.length : Int) ≤ 4096) && (k != 7 || vld t)
def alias : List UInt8:=[97,108,105,97,115]
def nok : List AV → Bool
 | [.int _ kd,.int _ b,.str t,.list l,.list p,.list s,.list r] => fitv 7 kd b.toNat t l p s r
 | _ => false
def nte (i : PI) : Bool:=match i.notes with
 | [] => true
 | [n] => n.name == alias && nok n.val
 | _ => false
def argG (P : PL) (g : PG) : Bool:=uniB g && g.ops.all fun o => arg1 P o && uok o
def argE (x : PE) : Bool:=x.notes.isEmpty && x.items.all nte
def args (P : PL) : Bool:=P.progs.all (argG P) && P.enums.all argE

theorem z195 (k kd : Int) (b : Nat) (t : List UInt8) (l p s r : List AV) (hl : l.length ≤ 140737488351232) (hp : p.length ≤ 140737488351232) (hs : s.length ≤ 140737488351232) (hr : r.length ≤ 140737488351232) :
  Fn1 Tryz.prog 195 [.int .i64 k,vo kd b t l p s r] (.bool (fitv k kd b t l p s r)):=by
 have hle:=y88 kd b t l p s r hl hp hs hr
 have hw:=x218 k b
 simp only [vo] at hle
 have n1 : (kd != k) = !(kd == k):=rfl
 have n2 : (k != 7) = !(k == 7):=rfl
 have n3 : decide ((t.length : Int) > 4096) = !decide ((t.length : Int) ≤ 4096):=(by rw [Bool.eq_iff_iff]; simp only [decide_eq_true_eq,Bool.not_eq_true',decide_eq_false_iff_not]; omega)
 refine k195.fn (by simp) ?_
 simp only [vo,fitv,n2,eES,eEX,seval]
 refine aops_call (x87 k) rfl rfl rfl (.inl rfl) ?_
 cases isk k
 ·simp only [Bool.false_and,Bool.not_false,eES,seval]
 simp only [Bool.true_and,Bool.not_true,n1,eES,eEX,seval]
 cases a1 : (kd == k)
 ·simp only [Bool.false_and,Bool.not_false,eES,seval]
 simp only [Bool.true_and,Bool.not_true,eES,eEX,seval]
 refine aops_call hle rfl rfl rfl (.inl rfl) ?_
 cases (lon l p s r && (if txk kd = true then (b : Int) == 0 else t == []))
 ·simp only [Bool.false_and,Bool.not_false,eES,seval]
 simp only [Bool.true_and,Bool.not_true,eES,eEX,seval]
 refine aops_call hw rfl rfl rfl (.inl rfl) ?_
 cases fitn k b
 ·simp only [Bool.false_and,Bool.not_false,eES,seval]
 simp only [Bool.true_and,Bool.not_true,n3,eES,eEX,seval]
 cases a2 : decide ((t.length : Int) ≤ 4096)
 ·simp only [Bool.false_and,Bool.not_false,eES,seval]
 simp only [Bool.true_and,Bool.not_true,n2,eES,seval]
 cases a3 : (k == 7)
 ·simp only [Bool.not_false,Bool.true_or,eES,seval]
 ·simp only [Bool.not_true,Bool.false_or,eES,eEX,seval]
  refine aops_call (x181 t) rfl rfl rfl (.inl rfl) ?_
  simp only [eES,seval]

section
variable (P : PL)

theorem joinU_drop {l : List PO} {i : Nat} {o : PO} (h : l[i]? = some o) (n b : Int) : joinU (l.drop i) n b = if o.union = n then joinU (l.drop (i + 1)) (n + 1) n else if o.union = -1 ∨ o.union = b then joinU (l.drop (i + 1)) n o.union else none:=by
 have hlt : i < l.length:=(List.getElem?_eq_some_iff.1 h).1
 rw [List.drop_eq_getElem_cons hlt,show l[i] = o from (List.getElem?_eq_some_iff.1 h).2]
 rfl

end

section
variable (kd : Int) (b : Nat) (t : List UInt8) (l p s r : List AV) (hl : l.length ≤ 140737488351232) (hp : p.length ≤ 140737488351232) (hs : s.length ≤ 140737488351232) (hr : r.length ≤ 140737488351232)

def nv : AV:=.agg [.str alias,.int .i64 kd,.int .u64 (b : Nat),.str t,.list l,.list p,.list s,.list r]

end

theorem v0_of {M : Nat} {n : PN} (h : n.ok Tryz.prog M 32) (hM : M ≤ 140737488351232) : ∃ kd b t l p s r,n.val = [.int .i64 kd,.int .u64 ((b : Nat) : Int),.str t,.list l,.list p,.list s,.list r] ∧ t.length ≤ M ∧ l.length ≤ 140737488351232 ∧ p.length ≤ 140737488351232 ∧ s.length ≤ 140737488351232 ∧ r.length ≤ 140737488351232:=by
 obtain ⟨_,k,hk⟩:=h
 obtain ⟨k,h⟩:=has_struct Tryz.underlying32 hk
 simp only [Has.HasL] at h
 obtain ⟨_,_,e,h0,_,_,rfl,h1,_,_,rfl,h2,_,_,rfl,h3,_,_,rfl,h4,_,_,rfl,h5,_,_,rfl,h6,rfl⟩:=h
 obtain ⟨a0,rfl,w0⟩:=has_int Tryz.underlying3 h0
 obtain ⟨a1,rfl,w1⟩:=has_int Tryz.underlying26 h1
 obtain ⟨a2,rfl,w2⟩:=has_str Tryz.underlying9 h2
 obtain ⟨_,l3,rfl,w3,_⟩:=has_sliceM Tryz.underlying27 h3
 obtain ⟨_,l4,rfl,w4,_⟩:=has_sliceM Tryz.underlying28 h4
 obtain ⟨_,l5,rfl,w5,_⟩:=has_sliceM Tryz.underlying29 h5
 obtain ⟨_,l6,rfl,w6,_⟩:=has_sliceM Tryz.underlying30 h6
 have hb : 0 ≤ a1:=u64_lo w1
 obtain ⟨b,rfl⟩:=Int.eq_ofNat_of_zero_le hb
 exact ⟨a0,b,a2,_,_,_,_,e,w2,by simp; omega,by simp; omega,by simp; omega,by simp; omega⟩


def need (B : List Bool) (o : PO) : Bool:=o.card == 1 && o.kind == 10 && !(B[o.target.toNat]?.getD false)
def stp (G : List PG) (B : List Bool) (i : Nat) : List Bool:=match G[i]? with
 | some g => B.set i (!g.ops.any (need B))
 | none => B
def rnd (G : List PG) (B : List Bool) : Nat → List Bool
 | 0 => B
 | i + 1 => stp G (rnd G B i) i
def its (G : List PG) : Nat → List Bool
 | 0 => List.replicate G.length false
 | c + 1 => rnd G (its G c) G.length
def fin (P : PL) : Bool:=(its P.progs P.progs.length).all id

def Tgt (P : PL) : Prop:=∀ g ∈ P.progs,∀ o ∈ g.ops,o.kind = 10 → 0 ≤ o.target ∧ o.target < (P.progs.length : Int)

theorem stp_len (G : List PG) (B : List Bool) (i : Nat) : (stp G B i).length = B.length:=by
 unfold stp
 split <;> simp
theorem rnd_len (G : List PG) (B : List Bool) : ∀ i,(rnd G B i).length = B.length
 | 0 => rfl
 | i + 1 => by rw [rnd,stp_len,rnd_len G B i]
theorem its_len (G : List PG) : ∀ c,(its G c).length = G.length
 | 0 => by simp [its]
 | c + 1 => by rw [its,rnd_len,its_len G c]

structure En (P : PL) (c : Nat) (B : List Bool) (f : Fr) (fr : Nat → Ob) : Prop where
 h1 : f 1 = .ptr 0 1 0
 m1 : fr 1 = .cells [.list (P.progs.map gav),.list (P.enums.map eav)]
 h3 : f 3 = .ptr 0 3 0
 m3 : fr 3 = .cells [.vec 0 9 1 0 P.progs.length false]
 m9 : fr 9 = .vec 1 1 (B.map AV.bool)
 h12 : f 12 = .int .i64 (P.progs.length : Nat)
 h13 : f 13 = .int .i64 (c : Nat)
 r5 : ∀ s ∈ [5],(fr s).isRow = false

theorem En.drop {P : PL} {c : Nat} {B : List Bool} {f f' : Fr} {fr fr' : Nat → Ob} (h : En P c B f fr) (hf : ∀ i,f' i = scrs [5] (f i)) (hm : ∀ i,i ∉ [5] → fr' i = oscrs [5] (fr i)) (hn : ∀ i ∈ [5],fr' i = .none) : En P c B f' fr' where
 h1:=by rw [hf,h.h1] <;> rfl
 m1:=by rw [hm 1 (by decide),h.m1] <;> rfl
 h3:=by rw [hf,h.h3] <;> rfl
 m3:=by rw [hm 3 (by decide),h.m3] <;> rfl
 m9:=by rw [hm 9 (by decide),h.m9] <;> rfl
 h12:=by rw [hf,h.h12] <;> rfl
 h13:=by rw [hf,h.h13] <;> rfl
 r5:=fun s hs => by rw [hn s hs] <;> rfl

def ck (P : PL) : Int :=
 if lim P = false then 3 else if nam P = false then 8 else if ord P = false then 11 else if sin P = false then 9 else if rng P = false then 6 else if args P = false then 1 else if fin P = false then 19 else 0

theorem lim_progs {P : PL} (h : lim P = true) : P.progs.length ≤ 64 ∧ P.enums.length ≤ 64 ∧ (∀ g ∈ P.progs,g.ops.length ≤ 64) ∧ ∀ e ∈ P.enums,1 ≤ e.items.length ∧ e.items.length ≤ 64 ∧ e.free.length ≤ 16:=by
 unfold lim at h
 simp only [Bool.and_eq_true,decide_eq_true_eq,List.all_eq_true] at h
 obtain ⟨⟨⟨h1,h2⟩,h3⟩,h4⟩:=h
 refine ⟨h1,h2,fun g hg => ?_,fun e he => ?_⟩
 ·have:=h3 g hg
  unfold lim1 at this
  exact of_decide_eq_true this
 ·have:=h4 e he
  unfold lim2 at this
  simp only [Bool.and_eq_true,decide_eq_true_eq] at this
  exact ⟨this.1.1,this.1.2,this.2⟩

theorem args_tgt {P : PL} (h : args P = true) : Tgt P:=by
 intro g hg o ho hk
 unfold args at h
 simp only [Bool.and_eq_true,List.all_eq_true] at h
 have h1:=h.1 g hg
 unfold argG at h1
 simp only [Bool.and_eq_true,List.all_eq_true] at h1
 have h2:=(h1.2 o ho).1
 unfold arg1 at h2
 simp only [Bool.and_eq_true] at h2
 have h3:=h2.2
 unfold aim at h3
 rw [if_pos hk] at h3
 simp only [Bool.and_eq_true,decide_eq_true_eq] at h3
 exact ⟨h3.1.1,h3.1.2⟩


def Pc (P : PL) : List AV:=[.list (P.progs.map gav),.list (P.enums.map eav)]

theorem acc_step (b : Bool) (q : Nat → Bool) (i : Nat) : (b && allU q (i + 1)) = ((b && allU q i) && q i):=by rw [allU,Bool.and_assoc]

section
variable {M : Nat} (P : PL) (hP : P.ok M) (fr : Nat → Ob) (m1 : fr 1 = .cells (Pc P)) (f : Fr) (b : Bool) (h1 : f 1 = .ptr 0 1 0) (h3 : f 3 = .bool b) (Q : Exit → St → Prop)
include hP m1 h1 h3

theorem lims_progs (ha : f 4 = .int .i64 0) (hx : ∀ f,f 1 = .ptr 0 1 0 → f 3 = .bool (b && P.progs.all lim1) → Q (.exit 0) (⟨f,[fr],[]⟩ : St)) : awp Tryz.prog (.loop l31_0) ⟨f,[fr],[]⟩ Q:=by
 let I : Nat → St → Prop:=fun k st => ∃ f i,st = ⟨f,[fr],[]⟩ ∧ k = P.progs.length - i ∧ i ≤ P.progs.length ∧ f 1 = .ptr 0 1 0 ∧ f 3 = .bool (b && (P.progs.take i).all lim1) ∧ f 4 = .int .i64 (i : Nat)
 refine awp_loop I _ ⟨f,0,rfl,rfl,Nat.zero_le _,h1,by rw [h3]; simp,ha⟩ ?_
 clear h1 h3 ha
 simp only [Pc] at m1
 rintro _ st ⟨f,i,rfl,rfl,hi,h1,h3,ha⟩
 simp only [List.length_map,h1,m1,ha,eES,eEX,seval]
 by_cases hlt : i < P.progs.length
 ·obtain ⟨x,hg⟩ : ∃ x,P.progs[i]? = some x:=⟨P.progs[i],List.getElem?_eq_getElem hlt⟩
  have hgm : (P.progs.map gav)[i]? = some (.agg x.cells):=by simp [hg,gav]
  have e1:=wi64_s i _ hlt hP.len1
  have ht:=take_all (q:=lim1) hg
  have e3 : decide ((x.ops.length : Int) ≤ 64) = lim1 x:=by unfold lim1 ; exact (by rw [Bool.eq_iff_iff]; simp only [decide_eq_true_eq]; omega)
  have fin : ∀ f' : Fr,f' 1 = .ptr 0 1 0 → f' 3 = .bool ((b && (P.progs.take i).all lim1) && lim1 x) → f' 4 = .int .i64 ((i + 1 : Nat) : Int) → ∃ k,k < P.progs.length - i ∧ I k ⟨f',[fr],[]⟩:=by
   intro f' a1 a3 a4
   exact ⟨P.progs.length - (i + 1),by omega,f',i + 1,rfl,rfl,by omega,a1,by rw [a3,ht,Bool.and_assoc],a4⟩
  simp only [PG.cells] at hgm
  cases hb : (b && (P.progs.take i).all lim1)
  ·rw [hb] at fin h3
   simp only [lt_t hlt,h3,ha,e1,eES,seval]
   exact fin _ (by exact h1) (by rfl) (by rfl)
  ·rw [hb,Bool.true_and] at fin
   rw [hb] at h3
   skip
   all_goals
    try rw [c1] at e3
    try rw [c2] at e3
    simp only [lt_t hlt,nneg,Int.toNat_natCast,aiaddr,hgm,List.length_map,h1,m1,h3,ha,e1,e3,eES,eEX,seval]
    exact fin _ (by exact h1) (by rw [← e3] <;> first | rfl | simp only [eES,eEX,seval]) (by rfl)
 ·have hf : (P.progs.take i).all lim1 = P.progs.all lim1:=by rw [List.take_of_length_le (by omega)]
  rw [hf] at h3
  simp only [lt_f hlt,eES,seval]
  exact hx _ (by exact h1) (by exact h3)

theorem lims_enums (ha : f 5 = .int .i64 0) (hx : ∀ f,f 1 = .ptr 0 1 0 → f 3 = .bool (b && P.enums.all lim2) → Q (.exit 2) (⟨f,[fr],[]⟩ : St)) : awp Tryz.prog (.loop l31_1) ⟨f,[fr],[]⟩ Q:=by
 let I : Nat → St → Prop:=fun k st => ∃ f i,st = ⟨f,[fr],[]⟩ ∧ k = P.enums.length - i ∧ i ≤ P.enums.length ∧ f 1 = .ptr 0 1 0 ∧ f 3 = .bool (b && (P.enums.take i).all lim2) ∧ f 5 = .int .i64 (i : Nat)
 refine awp_loop I _ ⟨f,0,rfl,rfl,Nat.zero_le _,h1,by rw [h3]; simp,ha⟩ ?_
 clear h1 h3 ha
 simp only [Pc] at m1
 rintro _ st ⟨f,i,rfl,rfl,hi,h1,h3,ha⟩
 simp only [List.length_map,h1,m1,ha,eES,eEX,seval]
 by_cases hlt : i < P.enums.length
 ·obtain ⟨x,hg⟩ : ∃ x,P.enums[i]? = some x:=⟨P.enums[i],List.getElem?_eq_getElem hlt⟩
  have hgm : (P.enums.map eav)[i]? = some (.agg x.cells):=by simp [hg,eav]
  have e1:=wi64_s i _ hlt hP.len2
  have ht:=take_all (q:=lim2) hg
  have e3 : (decide ((x.items.length : Int) ≥ 1) && (decide ((x.items.length : Int) ≤ 64) && decide ((x.free.length : Int) ≤ 16))) = lim2 x:=by unfold lim2 ; exact (by rw [Bool.eq_iff_iff]; simp only [decide_eq_true_eq,Bool.and_eq_true]; omega)
  have fin : ∀ f' : Fr,f' 1 = .ptr 0 1 0 → f' 3 = .bool ((b && (P.enums.take i).all lim2) && lim2 x) → f' 5 = .int .i64 ((i + 1 : Nat) : Int) → ∃ k,k < P.enums.length - i ∧ I k ⟨f',[fr],[]⟩:=by
   intro f' a1 a3 a4
   exact ⟨P.enums.length - (i + 1),by omega,f',i + 1,rfl,rfl,by omega,a1,by rw [a3,ht,Bool.and_assoc],a4⟩
  simp only [PE.cells] at hgm
  cases hb : (b && (P.enums.take i).all lim2)
  ·rw [hb] at fin h3
   simp only [lt_t hlt,nneg,Int.toNat_natCast,aiaddr,hgm,List.length_map,h1,m1,h3,ha,e1,eES,eEX,seval]
   exact fin _ (by exact h1) (by rfl) (by rfl)
  ·rw [hb,Bool.true_and] at fin
   rw [hb] at h3
   (cases c1 : decide ((x.items.length : Int) ≥ 1) <;> cases c2 : decide ((x.items.length : Int) ≤ 64))
   all_goals
    try rw [c1] at e3
    try rw [c2] at e3
    simp only [lt_t hlt,nneg,Int.toNat_natCast,aiaddr,hgm,List.length_map,h1,m1,h3,ha,e1,c1,c2,eES,eEX,seval]
    exact fin _ (by exact h1) (by rw [← e3] <;> first | rfl | simp only [eES,eEX,seval]) (by rfl)
 ·have hf : (P.enums.take i).all lim2 = P.enums.all lim2:=by rw [List.take_of_length_le (by omega)]
  rw [hf] at h3
  simp only [lt_f hlt,eES,seval]
  exact hx _ (by exact h1) (by exact h3)

theorem nami_progs (j : Nat) (x : PG) (hj : P.progs[j]? = some x) (ha : f 4 = .int .i64 (j : Nat)) (hc : f 5 = .int .i64 0) (hx : ∀ f,f 1 = .ptr 0 1 0 → f 3 = .bool (b && x.ops.all fun o => usab o.name) → f 4 = .int .i64 (j : Nat) → Q (.exit 2) (⟨f,[fr],[]⟩ : St)) : awp Tryz.prog (.loop l32_0) ⟨f,[fr],[]⟩ Q:=by
 let I : Nat → St → Prop:=fun k st => ∃ f i,st = ⟨f,[fr],[]⟩ ∧ k = x.ops.length - i ∧ i ≤ x.ops.length ∧ f 1 = .ptr 0 1 0 ∧ f 3 = .bool (b && (x.ops.take i).all fun o => usab o.name) ∧ f 4 = .int .i64 (j : Nat) ∧ f 5 = .int .i64 (i : Nat)
 have hjm : (P.progs.map gav)[j]? = some (.agg x.cells):=by simp [hj,gav]
 have hsl : x.ops.length ≤ maxLen:=(hP.progs x (List.mem_of_getElem? hj)).len
 refine awp_loop I _ ⟨f,0,rfl,rfl,Nat.zero_le _,h1,by rw [h3]; simp,ha,hc⟩ ?_
 clear h1 h3 ha hc
 simp only [Pc] at m1
 simp only [PG.cells] at hjm
 rintro _ st ⟨f,i,rfl,rfl,hi,h1,h3,ha,hc⟩
 simp only [nneg,Int.toNat_natCast,aiaddr,hjm,List.length_map,h1,m1,ha,hc,eES,eEX,seval]
 by_cases hlt : i < x.ops.length
 ·obtain ⟨o,hg⟩ : ∃ o,x.ops[i]? = some o:=⟨x.ops[i],List.getElem?_eq_getElem hlt⟩
  have hgm : (x.ops.map fun o => AV.agg o.cells)[i]? = some (.agg o.cells):=by simp [hg]
  have e1:=wi64_s i _ hlt hsl
  have ht:=take_all (q:=fun o => usab o.name) hg
  have fin : ∀ f' : Fr,f' 1 = .ptr 0 1 0 → f' 3 = .bool ((b && (x.ops.take i).all fun o => usab o.name) && usab o.name) → f' 4 = .int .i64 (j : Nat) → f' 5 = .int .i64 ((i + 1 : Nat) : Int) → ∃ k,k < x.ops.length - i ∧ I k ⟨f',[fr],[]⟩:=by
   intro f' a1 a3 a4 a5
   exact ⟨x.ops.length - (i + 1),by omega,f',i + 1,rfl,rfl,by omega,a1,by rw [a3,ht,Bool.and_assoc],a4,a5⟩
  simp only [PO.cells] at hgm
  cases hb : (b && (x.ops.take i).all fun o => usab o.name)
  ·rw [hb] at fin h3
   simp only [lt_t hlt,PO.cells,h3,hc,e1,eES,seval]
   exact fin _ (by exact h1) (by rfl) (by exact ha) (by rfl)
  ·rw [hb,Bool.true_and] at fin
   rw [hb] at h3
   simp only [lt_t hlt,nneg,Int.toNat_natCast,aiaddr,hjm,hgm,PO.cells,h1,m1,h3,ha,hc,eES,eEX,seval]
   refine aops_call (z71 o.name) rfl rfl rfl (.inl rfl) ?_
   simp only [hc,e1,eES,seval]
   exact fin _ (by exact h1) (by rfl) (by exact ha) (by rfl)
 ·have hf : (x.ops.take i).all (fun o => usab o.name) = x.ops.all fun o => usab o.name:=by rw [List.take_of_length_le (by omega)]
  rw [hf] at h3
  simp only [lt_f hlt,eES,seval]
  exact hx _ (by exact h1) (by exact h3) (by exact ha)

theorem namo_progs (ha : f 4 = .int .i64 0) (hx : ∀ f,f 1 = .ptr 0 1 0 → f 3 = .bool (b && P.progs.all nam1) → Q (.exit 0) (⟨f,[fr],[]⟩ : St)) : awp Tryz.prog (.loop l32_1) ⟨f,[fr],[]⟩ Q:=by
 let I : Nat → St → Prop:=fun k st => ∃ f i,st = ⟨f,[fr],[]⟩ ∧ k = P.progs.length - i ∧ i ≤ P.progs.length ∧ f 1 = .ptr 0 1 0 ∧ f 3 = .bool (b && (P.progs.take i).all nam1) ∧ f 4 = .int .i64 (i : Nat)
 have m1':=m1
 refine awp_loop I _ ⟨f,0,rfl,rfl,Nat.zero_le _,h1,by rw [h3]; simp,ha⟩ ?_
 clear h1 h3 ha
 simp only [Pc] at m1
 rintro _ st ⟨f,i,rfl,rfl,hi,h1,h3,ha⟩
 simp only [List.length_map,h1,m1,ha,eES,eEX,seval]
 by_cases hlt : i < P.progs.length
 ·obtain ⟨x,hg⟩ : ∃ x,P.progs[i]? = some x:=⟨P.progs[i],List.getElem?_eq_getElem hlt⟩
  have hgm : (P.progs.map gav)[i]? = some (.agg x.cells):=by simp [hg,gav]
  have e1:=wi64_s i _ hlt hP.len1
  have ht:=take_all (q:=nam1) hg
  have hq : nam1 x = (full x.name && x.ops.all fun o => usab o.name):=rfl
  have fin : ∀ f' : Fr,f' 1 = .ptr 0 1 0 → f' 3 = .bool (((b && (P.progs.take i).all nam1) && full x.name) && x.ops.all fun o => usab o.name) → f' 4 = .int .i64 ((i + 1 : Nat) : Int) → ∃ k,k < P.progs.length - i ∧ I k ⟨f',[fr],[]⟩:=by
   intro f' a1 a3 a4
   exact ⟨P.progs.length - (i + 1),by omega,f',i + 1,rfl,rfl,by omega,a1,by rw [a3,ht,hq,Bool.and_assoc,Bool.and_assoc],a4⟩
  simp only [PG.cells] at hgm
  cases hb : (b && (P.progs.take i).all nam1)
  ·rw [hb,Bool.false_and] at fin
   rw [hb] at h3
   simp only [lt_t hlt,h3,eES,seval]
   refine nami_progs P hP fr m1' _ false (by exact h1) (by rfl) _ i x hg (by exact ha) (by rfl) (fun f h1 h3 ha => ?_)
   simp only [ha,e1,eES,seval]
   exact fin _ (by exact h1) (by exact h3) (by rfl)
  ·rw [hb,Bool.true_and] at fin
   rw [hb] at h3
   simp only [lt_t hlt,nneg,Int.toNat_natCast,aiaddr,hgm,h1,m1,h3,ha,eES,eEX,seval]
   refine aops_call (z70 x.name) rfl rfl rfl (.inl rfl) ?_
   simp only [eES,seval]
   refine nami_progs P hP fr m1' _ (full x.name) (by exact h1) (by rfl) _ i x hg (by exact ha) (by rfl) (fun f h1 h3 ha => ?_)
   simp only [ha,e1,eES,seval]
   exact fin _ (by exact h1) (by exact h3) (by rfl)
 ·have hf : (P.progs.take i).all nam1 = P.progs.all nam1:=by rw [List.take_of_length_le (by omega)]
  rw [hf] at h3
  simp only [lt_f hlt,eES,seval]
  exact hx _ (by exact h1) (by exact h3)

theorem nami_enums (j : Nat) (x : PE) (hj : P.enums[j]? = some x) (ha : f 6 = .int .i64 (j : Nat)) (hc : f 7 = .int .i64 0) (hx : ∀ f,f 1 = .ptr 0 1 0 → f 3 = .bool (b && x.items.all fun o => usab o.name) → f 6 = .int .i64 (j : Nat) → Q (.exit 6) (⟨f,[fr],[]⟩ : St)) : awp Tryz.prog (.loop l32_2) ⟨f,[fr],[]⟩ Q:=by
 let I : Nat → St → Prop:=fun k st => ∃ f i,st = ⟨f,[fr],[]⟩ ∧ k = x.items.length - i ∧ i ≤ x.items.length ∧ f 1 = .ptr 0 1 0 ∧ f 3 = .bool (b && (x.items.take i).all fun o => usab o.name) ∧ f 6 = .int .i64 (j : Nat) ∧ f 7 = .int .i64 (i : Nat)
 have hjm : (P.enums.map eav)[j]? = some (.agg x.cells):=by simp [hj,eav]
 have hsl : x.items.length ≤ maxLen:=(hP.enums x (List.mem_of_getElem? hj)).len1
 refine awp_loop I _ ⟨f,0,rfl,rfl,Nat.zero_le _,h1,by rw [h3]; simp,ha,hc⟩ ?_
 clear h1 h3 ha hc
 simp only [Pc] at m1
 simp only [PE.cells] at hjm
 rintro _ st ⟨f,i,rfl,rfl,hi,h1,h3,ha,hc⟩
 simp only [nneg,Int.toNat_natCast,aiaddr,hjm,List.length_map,h1,m1,ha,hc,eES,eEX,seval]
 by_cases hlt : i < x.items.length
 ·obtain ⟨o,hg⟩ : ∃ o,x.items[i]? = some o:=⟨x.items[i],List.getElem?_eq_getElem hlt⟩
  have hgm : (x.items.map fun o => AV.agg o.cells)[i]? = some (.agg o.cells):=by simp [hg]
  have e1:=wi64_s i _ hlt hsl
  have ht:=take_all (q:=fun o => usab o.name) hg
  have fin : ∀ f' : Fr,f' 1 = .ptr 0 1 0 → f' 3 = .bool ((b && (x.items.take i).all fun o => usab o.name) && usab o.name) → f' 6 = .int .i64 (j : Nat) → f' 7 = .int .i64 ((i + 1 : Nat) : Int) → ∃ k,k < x.items.length - i ∧ I k ⟨f',[fr],[]⟩:=by
   intro f' a1 a3 a4 a5
   exact ⟨x.items.length - (i + 1),by omega,f',i + 1,rfl,rfl,by omega,a1,by rw [a3,ht,Bool.and_assoc],a4,a5⟩
  simp only [PI.cells] at hgm
  cases hb : (b && (x.items.take i).all fun o => usab o.name)
  ·rw [hb] at fin h3
   simp only [lt_t hlt,PI.cells,h3,hc,e1,eES,seval]
   exact fin _ (by exact h1) (by rfl) (by exact ha) (by rfl)
  ·rw [hb,Bool.true_and] at fin
   rw [hb] at h3
   simp only [lt_t hlt,nneg,Int.toNat_natCast,aiaddr,hjm,hgm,PI.cells,h1,m1,h3,ha,hc,eES,eEX,seval]
   refine aops_call (z71 o.name) rfl rfl rfl (.inl rfl) ?_
   simp only [hc,e1,eES,seval]
   exact fin _ (by exact h1) (by rfl) (by exact ha) (by rfl)
 ·have hf : (x.items.take i).all (fun o => usab o.name) = x.items.all fun o => usab o.name:=by rw [List.take_of_length_le (by omega)]
  rw [hf] at h3
  simp only [lt_f hlt,eES,seval]
  exact hx _ (by exact h1) (by exact h3) (by exact ha)

theorem namo_enums (ha : f 6 = .int .i64 0) (hx : ∀ f,f 1 = .ptr 0 1 0 → f 3 = .bool (b && P.enums.all nam2) → Q (.exit 4) (⟨f,[fr],[]⟩ : St)) : awp Tryz.prog (.loop l32_3) ⟨f,[fr],[]⟩ Q:=by
 let I : Nat → St → Prop:=fun k st => ∃ f i,st = ⟨f,[fr],[]⟩ ∧ k = P.enums.length - i ∧ i ≤ P.enums.length ∧ f 1 = .ptr 0 1 0 ∧ f 3 = .bool (b && (P.enums.take i).all nam2) ∧ f 6 = .int .i64 (i : Nat)
 have m1':=m1
 refine awp_loop I _ ⟨f,0,rfl,rfl,Nat.zero_le _,h1,by rw [h3]; simp,ha⟩ ?_
 clear h1 h3 ha
 simp only [Pc] at m1
 rintro _ st ⟨f,i,rfl,rfl,hi,h1,h3,ha⟩
 simp only [List.length_map,h1,m1,ha,eES,eEX,seval]
 by_cases hlt : i < P.enums.length
 ·obtain ⟨x,hg⟩ : ∃ x,P.enums[i]? = some x:=⟨P.enums[i],List.getElem?_eq_getElem hlt⟩
  have hgm : (P.enums.map eav)[i]? = some (.agg x.cells):=by simp [hg,eav]
  have e1:=wi64_s i _ hlt hP.len2
  have ht:=take_all (q:=nam2) hg
  have hq : nam2 x = (full x.name && x.items.all fun o => usab o.name):=rfl
  have fin : ∀ f' : Fr,f' 1 = .ptr 0 1 0 → f' 3 = .bool (((b && (P.enums.take i).all nam2) && full x.name) && x.items.all fun o => usab o.name) → f' 6 = .int .i64 ((i + 1 : Nat) : Int) → ∃ k,k < P.enums.length - i ∧ I k ⟨f',[fr],[]⟩:=by
   intro f' a1 a3 a4
   exact ⟨P.enums.length - (i + 1),by omega,f',i + 1,rfl,rfl,by omega,a1,by rw [a3,ht,hq,Bool.and_assoc,Bool.and_assoc],a4⟩
  simp only [PE.cells] at hgm
  cases hb : (b && (P.enums.take i).all nam2)
  ·rw [hb,Bool.false_and] at fin
   rw [hb] at h3
   simp only [lt_t hlt,h3,eES,seval]
   refine nami_enums P hP fr m1' _ false (by exact h1) (by rfl) _ i x hg (by exact ha) (by rfl) (fun f h1 h3 ha => ?_)
   simp only [ha,e1,eES,seval]
   exact fin _ (by exact h1) (by exact h3) (by rfl)
  ·rw [hb,Bool.true_and] at fin
   rw [hb] at h3
   simp only [lt_t hlt,nneg,Int.toNat_natCast,aiaddr,hgm,h1,m1,h3,ha,eES,eEX,seval]
   refine aops_call (z70 x.name) rfl rfl rfl (.inl rfl) ?_
   simp only [eES,seval]
   refine nami_enums P hP fr m1' _ (full x.name) (by exact h1) (by rfl) _ i x hg (by exact ha) (by rfl) (fun f h1 h3 ha => ?_)
   simp only [ha,e1,eES,seval]
   exact fin _ (by exact h1) (by exact h3) (by rfl)
 ·have hf : (P.enums.take i).all nam2 = P.enums.all nam2:=by rw [List.take_of_length_le (by omega)]
  rw [hf] at h3
  simp only [lt_f hlt,eES,seval]
  exact hx _ (by exact h1) (by exact h3)

theorem ordi_progs (j : Nat) (x : PG) (hj : P.progs[j]? = some x) (ha : f 4 = .int .i64 (j : Nat)) (hc : f 5 = .int .i64 1) (hx : ∀ f,f 1 = .ptr 0 1 0 → f 3 = .bool (b && ord1 x) → f 4 = .int .i64 (j : Nat) → Q (.exit 2) (⟨f,[fr],[]⟩ : St)) : awp Tryz.prog (.loop l33_0) ⟨f,[fr],[]⟩ Q:=by
 let I : Nat → St → Prop:=fun k st => ∃ f i,st = ⟨f,[fr],[]⟩ ∧ k = x.ops.length - i ∧ f 1 = .ptr 0 1 0 ∧ f 3 = .bool (b && allU (two x.ops (ordn PO.num)) (i + 1)) ∧ f 4 = .int .i64 (j : Nat) ∧ f 5 = .int .i64 ((i + 1 : Nat) : Int) ∧ (i + 1 ≤ x.ops.length ∨ i = 0)
 have hjm : (P.progs.map gav)[j]? = some (.agg x.cells):=by simp [hj,gav]
 have hsl : x.ops.length ≤ maxLen:=(hP.progs x (List.mem_of_getElem? hj)).len
 refine awp_loop I _ ⟨f,0,rfl,rfl,h1,by rw [h3]; simp [allU,two],ha,hc,.inr rfl⟩ ?_
 clear h1 h3 ha hc
 simp only [Pc] at m1
 simp only [PG.cells] at hjm
 rintro _ st ⟨f,i,rfl,rfl,h1,h3,ha,hc,hi⟩
 simp only [nneg,Int.toNat_natCast,aiaddr,hjm,List.length_map,h1,m1,ha,hc,eES,eEX,seval]
 by_cases hlt : i + 1 < x.ops.length
 ·obtain ⟨o,hg⟩ : ∃ o,x.ops[i]? = some o:=⟨x.ops[i]'(by omega),List.getElem?_eq_getElem (by omega)⟩
  obtain ⟨o2,hg2⟩ : ∃ o,x.ops[i + 1]? = some o:=⟨x.ops[i + 1],List.getElem?_eq_getElem hlt⟩
  have hgm : (x.ops.map fun o => AV.agg o.cells)[i]? = some (.agg o.cells):=by simp [hg]
  have hgm2 : (x.ops.map fun o => AV.agg o.cells)[i + 1]? = some (.agg o2.cells):=by simp [hg2]
  have e1:=wi64_s (i + 1) _ hlt hsl
  have e2:=wp64 i _ hlt hsl
  have ht:=acc_step b (two x.ops (ordn PO.num)) (i + 1)
  rw [two_at hg hg2] at ht
  have hq : (ordn PO.num) o o2 = decide (o.num < o2.num):=rfl
  rw [hq] at ht
  have fin : ∀ f' : Fr,f' 1 = .ptr 0 1 0 → f' 3 = .bool ((b && allU (two x.ops (ordn PO.num)) (i + 1)) && decide (o.num < o2.num)) → f' 4 = .int .i64 (j : Nat) → f' 5 = .int .i64 ((i + 1 + 1 : Nat) : Int) → ∃ k,k < x.ops.length - i ∧ I k ⟨f',[fr],[]⟩:=by
   intro f' a1 a3 a4 a5
   exact ⟨x.ops.length - (i + 1),by omega,f',i + 1,rfl,rfl,a1,by rw [a3,ht],a4,a5,.inl (by omega)⟩
  simp only [PO.cells] at hgm hgm2
  cases hb : (b && allU (two x.ops (ordn PO.num)) (i + 1))
  ·rw [hb] at fin h3
   simp only [lt_t hlt,PO.cells,h3,hc,e1,eES,seval]
   exact fin _ (by exact h1) (by rfl) (by exact ha) (by rfl)
  ·rw [hb,Bool.true_and] at fin
   rw [hb] at h3
   simp only [lt_t hlt,nneg,Int.toNat_natCast,aiaddr,hjm,hgm,hgm2,PO.cells,h1,m1,h3,ha,hc,e1,e2,eES,eEX,seval]
   exact fin _ (by exact h1) (by rfl) (by exact ha) (by rfl)
 ·have hf : allU (two x.ops (ordn PO.num)) (i + 1) = ord1 x:=by
   show _ = allU (two x.ops (ordn PO.num)) x.ops.length
   rcases hi with h | h
   ·rw [show i + 1 = x.ops.length by omega]
   ·subst h
    rcases Nat.eq_zero_or_pos x.ops.length with h0 | h0
    ·rw [h0]; rfl
    ·rw [show x.ops.length = 1 by omega]
  rw [hf] at h3
  simp only [lt_f hlt,eES,seval]
  exact hx _ (by exact h1) (by exact h3) (by exact ha)

theorem ordo_progs (ha : f 4 = .int .i64 0) (hx : ∀ f,f 1 = .ptr 0 1 0 → f 3 = .bool (b && (adj P.progs (ords PG.name) && P.progs.all ord1)) → Q (.exit 0) (⟨f,[fr],[]⟩ : St)) : awp Tryz.prog (.loop l33_1) ⟨f,[fr],[]⟩ Q:=by
 let q : Nat → Bool:=fun i => two P.progs (ords PG.name) i && ask P.progs ord1 i
 let I : Nat → St → Prop:=fun k st => ∃ f i,st = ⟨f,[fr],[]⟩ ∧ k = P.progs.length - i ∧ i ≤ P.progs.length ∧ f 1 = .ptr 0 1 0 ∧ f 3 = .bool (b && allU q i) ∧ f 4 = .int .i64 (i : Nat)
 have m1':=m1
 have hqa : allU q P.progs.length = (adj P.progs (ords PG.name) && P.progs.all ord1):=by
  show allU (fun i => two P.progs (ords PG.name) i && ask P.progs ord1 i) _ = _
  rw [allU_and,allU_ask]; rfl
 refine awp_loop I _ ⟨f,0,rfl,rfl,Nat.zero_le _,h1,by rw [h3]; simp [allU],ha⟩ ?_
 clear h1 h3 ha
 simp only [Pc] at m1
 rintro _ st ⟨f,i,rfl,rfl,hi,h1,h3,ha⟩
 simp only [List.length_map,h1,m1,ha,eES,eEX,seval]
 by_cases hlt : i < P.progs.length
 ·obtain ⟨x,hg⟩ : ∃ x,P.progs[i]? = some x:=⟨P.progs[i],List.getElem?_eq_getElem hlt⟩
  have hgm : (P.progs.map gav)[i]? = some (.agg x.cells):=by simp [hg,gav]
  have e1:=wi64_s i _ hlt hP.len1
  have ht:=acc_step b q i
  have hq : q i = (two P.progs (ords PG.name) i && ord1 x):=by show (_ && ask P.progs ord1 i) = _; rw [ask_at hg]
  rw [hq,← Bool.and_assoc] at ht
  have fin : ∀ f' : Fr,f' 1 = .ptr 0 1 0 → f' 3 = .bool (((b && allU q i) && two P.progs (ords PG.name) i) && ord1 x) → f' 4 = .int .i64 ((i + 1 : Nat) : Int) → ∃ k,k < P.progs.length - i ∧ I k ⟨f',[fr],[]⟩:=by
   intro f' a1 a3 a4
   exact ⟨P.progs.length - (i + 1),by omega,f',i + 1,rfl,rfl,by omega,a1,by rw [a3,ht],a4⟩
  simp only [PG.cells] at hgm
  cases hb : (b && allU q i)
  ·rw [hb,Bool.false_and] at fin
   rw [hb] at h3
   simp only [lt_t hlt,h3,eES,seval]
   refine ordi_progs P hP fr m1' _ false (by exact h1) (by rfl) _ i x hg (by exact ha) (by rfl) (fun f h1 h3 ha => ?_)
   simp only [ha,e1,eES,seval]
   exact fin _ (by exact h1) (by exact h3) (by rfl)
  ·rw [hb,Bool.true_and] at fin
   rw [hb] at h3
   cases i with
   | zero =>
    have b0 : (((0 : Nat) : Int) == 0) = true:=rfl
    rw [two_zero] at fin
    simp only [lt_t hlt,b0,h3,ha,eES,Nat.reduceBEq,↓reduceIte]
    refine ordi_progs P hP fr m1' _ true (by exact h1) (by rfl) _ 0 x hg (by exact ha) (by rfl) (fun f h1 h3 ha => ?_)
    simp only [ha,e1,eES,Nat.reduceBEq,↓reduceIte,Nat.reduceAdd]
    exact fin _ (by exact h1) (by exact h3) (by rfl)
   | succ j =>
    obtain ⟨y,hgj⟩ : ∃ y,P.progs[j]? = some y:=⟨P.progs[j]'(by omega),List.getElem?_eq_getElem (by omega)⟩
    have hgjm : (P.progs.map gav)[j]? = some (.agg y.cells):=by simp [hgj,gav]
    have b0 : (((j + 1 : Nat) : Int) == 0) = false:=by rw [beq_eq_false_iff_ne]; omega
    have e2:=wp64 j _ hlt hP.len1
    rw [two_at hgj hg] at fin
    have hq2 : (ords PG.name) y x = Op.bytesLess y.name x.name:=rfl
    rw [hq2] at fin
    simp only [PG.cells] at hgjm
    simp only [lt_t hlt,nneg,Int.toNat_natCast,aiaddr,hgm,hgjm,b0,e2,astr,h1,m1,h3,ha,eES,eEX,seval]
    refine ordi_progs P hP fr m1' _ (Op.bytesLess y.name x.name) (by exact h1) (by rfl) _ (j + 1) x hg (by exact ha) (by rfl) (fun f h1 h3 ha => ?_)
    simp only [ha,e1,eES,seval]
    exact fin _ (by exact h1) (by exact h3) (by rfl)
 ·have hf : allU q i = (adj P.progs (ords PG.name) && P.progs.all ord1):=by rw [show i = P.progs.length by omega,hqa]
  rw [hf] at h3
  simp only [lt_f hlt,eES,seval]
  exact hx _ (by exact h1) (by exact h3)

theorem ordi_enums (j : Nat) (x : PE) (hj : P.enums[j]? = some x) (ha : f 6 = .int .i64 (j : Nat)) (hc : f 7 = .int .i64 1) (hx : ∀ f,f 1 = .ptr 0 1 0 → f 3 = .bool (b && ord2 x) → f 6 = .int .i64 (j : Nat) → Q (.exit 6) (⟨f,[fr],[]⟩ : St)) : awp Tryz.prog (.loop l33_2) ⟨f,[fr],[]⟩ Q:=by
 let I : Nat → St → Prop:=fun k st => ∃ f i,st = ⟨f,[fr],[]⟩ ∧ k = x.items.length - i ∧ f 1 = .ptr 0 1 0 ∧ f 3 = .bool (b && allU (two x.items (ordn PI.num)) (i + 1)) ∧ f 6 = .int .i64 (j : Nat) ∧ f 7 = .int .i64 ((i + 1 : Nat) : Int) ∧ (i + 1 ≤ x.items.length ∨ i = 0)
 have hjm : (P.enums.map eav)[j]? = some (.agg x.cells):=by simp [hj,eav]
 have hsl : x.items.length ≤ maxLen:=(hP.enums x (List.mem_of_getElem? hj)).len1
 refine awp_loop I _ ⟨f,0,rfl,rfl,h1,by rw [h3]; simp [allU,two],ha,hc,.inr rfl⟩ ?_
 clear h1 h3 ha hc
 simp only [Pc] at m1
 simp only [PE.cells] at hjm
 rintro _ st ⟨f,i,rfl,rfl,h1,h3,ha,hc,hi⟩
 simp only [nneg,Int.toNat_natCast,aiaddr,hjm,List.length_map,h1,m1,ha,hc,eES,eEX,seval]
 by_cases hlt : i + 1 < x.items.length
 ·obtain ⟨o,hg⟩ : ∃ o,x.items[i]? = some o:=⟨x.items[i]'(by omega),List.getElem?_eq_getElem (by omega)⟩
  obtain ⟨o2,hg2⟩ : ∃ o,x.items[i + 1]? = some o:=⟨x.items[i + 1],List.getElem?_eq_getElem hlt⟩
  have hgm : (x.items.map fun o => AV.agg o.cells)[i]? = some (.agg o.cells):=by simp [hg]
  have hgm2 : (x.items.map fun o => AV.agg o.cells)[i + 1]? = some (.agg o2.cells):=by simp [hg2]
  have e1:=wi64_s (i + 1) _ hlt hsl
  have e2:=wp64 i _ hlt hsl
  have ht:=acc_step b (two x.items (ordn PI.num)) (i + 1)
  rw [two_at hg hg2] at ht
  have hq : (ordn PI.num) o o2 = decide (o.num < o2.num):=rfl
  rw [hq] at ht
  have fin : ∀ f' : Fr,f' 1 = .ptr 0 1 0 → f' 3 = .bool ((b && allU (two x.items (ordn PI.num)) (i + 1)) && decide (o.num < o2.num)) → f' 6 = .int .i64 (j : Nat) → f' 7 = .int .i64 ((i + 1 + 1 : Nat) : Int) → ∃ k,k < x.items.length - i ∧ I k ⟨f',[fr],[]⟩:=by
   intro f' a1 a3 a4 a5
   exact ⟨x.items.length - (i + 1),by omega,f',i + 1,rfl,rfl,a1,by rw [a3,ht],a4,a5,.inl (by omega)⟩
  simp only [PI.cells] at hgm hgm2
  cases hb : (b && allU (two x.items (ordn PI.num)) (i + 1))
  ·rw [hb] at fin h3
   simp only [lt_t hlt,PI.cells,h3,hc,e1,eES,seval]
   exact fin _ (by exact h1) (by rfl) (by exact ha) (by rfl)
  ·rw [hb,Bool.true_and] at fin
   rw [hb] at h3
   simp only [lt_t hlt,nneg,Int.toNat_natCast,aiaddr,hjm,hgm,hgm2,PI.cells,h1,m1,h3,ha,hc,e1,e2,eES,eEX,seval]
   exact fin _ (by exact h1) (by rfl) (by exact ha) (by rfl)
 ·have hf : allU (two x.items (ordn PI.num)) (i + 1) = ord2 x:=by
   show _ = allU (two x.items (ordn PI.num)) x.items.length
   rcases hi with h | h
   ·rw [show i + 1 = x.items.length by omega]
   ·subst h
    rcases Nat.eq_zero_or_pos x.items.length with h0 | h0
    ·rw [h0]; rfl
    ·rw [show x.items.length = 1 by omega]
  rw [hf] at h3
  simp only [lt_f hlt,eES,seval]
  exact hx _ (by exact h1) (by exact h3) (by exact ha)

theorem ordo_enums (ha : f 6 = .int .i64 0) (hx : ∀ f,f 1 = .ptr 0 1 0 → f 3 = .bool (b && (adj P.enums (ords PE.name) && P.enums.all ord2)) → Q (.exit 4) (⟨f,[fr],[]⟩ : St)) : awp Tryz.prog (.loop l33_3) ⟨f,[fr],[]⟩ Q:=by
 let q : Nat → Bool:=fun i => two P.enums (ords PE.name) i && ask P.enums ord2 i
 let I : Nat → St → Prop:=fun k st => ∃ f i,st = ⟨f,[fr],[]⟩ ∧ k = P.enums.length - i ∧ i ≤ P.enums.length ∧ f 1 = .ptr 0 1 0 ∧ f 3 = .bool (b && allU q i) ∧ f 6 = .int .i64 (i : Nat)
 have m1':=m1
 have hqa : allU q P.enums.length = (adj P.enums (ords PE.name) && P.enums.all ord2):=by
  show allU (fun i => two P.enums (ords PE.name) i && ask P.enums ord2 i) _ = _
  rw [allU_and,allU_ask]; rfl
 refine awp_loop I _ ⟨f,0,rfl,rfl,Nat.zero_le _,h1,by rw [h3]; simp [allU],ha⟩ ?_
 clear h1 h3 ha
 simp only [Pc] at m1
 rintro _ st ⟨f,i,rfl,rfl,hi,h1,h3,ha⟩
 simp only [List.length_map,h1,m1,ha,eES,eEX,seval]
 by_cases hlt : i < P.enums.length
 ·obtain ⟨x,hg⟩ : ∃ x,P.enums[i]? = some x:=⟨P.enums[i],List.getElem?_eq_getElem hlt⟩
  have hgm : (P.enums.map eav)[i]? = some (.agg x.cells):=by simp [hg,eav]
  have e1:=wi64_s i _ hlt hP.len2
  have ht:=acc_step b q i
  have hq : q i = (two P.enums (ords PE.name) i && ord2 x):=by show (_ && ask P.enums ord2 i) = _; rw [ask_at hg]
  rw [hq,← Bool.and_assoc] at ht
  have fin : ∀ f' : Fr,f' 1 = .ptr 0 1 0 → f' 3 = .bool (((b && allU q i) && two P.enums (ords PE.name) i) && ord2 x) → f' 6 = .int .i64 ((i + 1 : Nat) : Int) → ∃ k,k < P.enums.length - i ∧ I k ⟨f',[fr],[]⟩:=by
   intro f' a1 a3 a4
   exact ⟨P.enums.length - (i + 1),by omega,f',i + 1,rfl,rfl,by omega,a1,by rw [a3,ht],a4⟩
  simp only [PE.cells] at hgm
  cases hb : (b && allU q i)
  ·rw [hb,Bool.false_and] at fin
   rw [hb] at h3
   simp only [lt_t hlt,h3,eES,seval]
   refine ordi_enums P hP fr m1' _ false (by exact h1) (by rfl) _ i x hg (by exact ha) (by rfl) (fun f h1 h3 ha => ?_)
   simp only [ha,e1,eES,seval]
   exact fin _ (by exact h1) (by exact h3) (by rfl)
  ·rw [hb,Bool.true_and] at fin
   rw [hb] at h3
   cases i with
   | zero =>
    have b0 : (((0 : Nat) : Int) == 0) = true:=rfl
    rw [two_zero] at fin
    simp only [lt_t hlt,b0,h3,ha,eES,Nat.reduceBEq,↓reduceIte]
    refine ordi_enums P hP fr m1' _ true (by exact h1) (by rfl) _ 0 x hg (by exact ha) (by rfl) (fun f h1 h3 ha => ?_)
    simp only [ha,e1,eES,Nat.reduceBEq,↓reduceIte,Nat.reduceAdd]
    exact fin _ (by exact h1) (by exact h3) (by rfl)
   | succ j =>
    obtain ⟨y,hgj⟩ : ∃ y,P.enums[j]? = some y:=⟨P.enums[j]'(by omega),List.getElem?_eq_getElem (by omega)⟩
    have hgjm : (P.enums.map eav)[j]? = some (.agg y.cells):=by simp [hgj,eav]
    have b0 : (((j + 1 : Nat) : Int) == 0) = false:=by rw [beq_eq_false_iff_ne]; omega
    have e2:=wp64 j _ hlt hP.len2
    rw [two_at hgj hg] at fin
    have hq2 : (ords PE.name) y x = Op.bytesLess y.name x.name:=rfl
    rw [hq2] at fin
    simp only [PE.cells] at hgjm
    simp only [lt_t hlt,nneg,Int.toNat_natCast,aiaddr,hgm,hgjm,b0,e2,astr,h1,m1,h3,ha,eES,eEX,seval]
    refine ordi_enums P hP fr m1' _ (Op.bytesLess y.name x.name) (by exact h1) (by rfl) _ (j + 1) x hg (by exact ha) (by rfl) (fun f h1 h3 ha => ?_)
    simp only [ha,e1,eES,seval]
    exact fin _ (by exact h1) (by exact h3) (by rfl)
 ·have hf : allU q i = (adj P.enums (ords PE.name) && P.enums.all ord2):=by rw [show i = P.enums.length by omega,hqa]
  rw [hf] at h3
  simp only [lt_f hlt,eES,seval]
  exact hx _ (by exact h1) (by exact h3)

end

section
variable {M : Nat} (P : PL) (hP : P.ok M)
include hP

theorem z31 : Fn1 Tryz.prog 31 [P.av] (.bool (lim P)):=by
 have e0 : P.av = .agg [.list (P.progs.map gav),.list (P.enums.map eav)]:=rfl
 have e1 : decide ((P.progs.length : Int) ≤ 64) = decide (P.progs.length ≤ 64):=by rw [decide_eq_decide]; omega
 have e2 : decide ((P.enums.length : Int) ≤ 64) = decide (P.enums.length ≤ 64):=by rw [decide_eq_decide]; omega
 refine k31.fn (by simp) ?_
 simp only [e0,List.length_map,e1,eES,eEX,seval]
 have hl : lim P = ((decide (P.progs.length ≤ 64) && decide (P.enums.length ≤ 64) && P.progs.all lim1) && P.enums.all lim2):=rfl
 cases a1 : decide (P.progs.length ≤ 64) <;> simp only [e2,List.length_map,eES,eEX,seval]
 all_goals
  refine lims_progs P hP _ (by rfl) _ _ (by rfl) (by rfl) _ (by rfl) (fun f h1 h3 => ?_)
  simp only [eES,seval]
  refine lims_enums P hP _ (by rfl) _ _ (by exact h1) (by exact h3) _ (by rfl) (fun f h1 h3 => ?_)
  simp only [h3,hl,a1,Bool.false_and,Bool.true_and,eES,seval]

theorem z32 : Fn1 Tryz.prog 32 [P.av] (.bool (nam P)):=by
 have e0 : P.av = .agg [.list (P.progs.map gav),.list (P.enums.map eav)]:=rfl
 refine k32.fn (by simp) ?_
 simp only [e0,eES,eEX,seval]
 refine namo_progs P hP _ (by rfl) _ true (by rfl) (by rfl) _ (by rfl) (fun f h1 h3 => ?_)
 simp only [eES,seval]
 refine namo_enums P hP _ (by rfl) _ _ (by exact h1) (by exact h3) _ (by rfl) (fun f h1 h3 => ?_)
 simp only [h3,nam,Bool.true_and,eES,seval]

theorem z33 : Fn1 Tryz.prog 33 [P.av] (.bool (ord P)):=by
 have e0 : P.av = .agg [.list (P.progs.map gav),.list (P.enums.map eav)]:=rfl
 have e : ord P = ((adj P.progs (ords PG.name) && P.progs.all ord1) && (adj P.enums (ords PE.name) && P.enums.all ord2)):=by
  unfold ord
  cases adj P.progs (ords PG.name) <;> cases P.progs.all ord1 <;> cases adj P.enums (ords PE.name) <;> rfl
 refine k33.fn (by simp) ?_
 simp only [e0,eES,eEX,seval]
 refine ordo_progs P hP _ (by rfl) _ true (by rfl) (by rfl) _ (by rfl) (fun f h1 h3 => ?_)
 simp only [eES,seval]
 refine ordo_enums P hP _ (by rfl) _ _ (by exact h1) (by exact h3) _ (by rfl) (fun f h1 h3 => ?_)
 simp only [h3,e,Bool.true_and,eES,seval]

end


theorem z72 (L : List PS) (hl : L.length ≤ maxLen) (n : Int) : Fn1 Tryz.prog 72 [.list (L.map spav),.int .i64 n] (.bool (kept L n)):=by
 let I : Nat → St → Prop:=fun k st => ∃ f i,st = ⟨f,[noObs],[]⟩ ∧ k = L.length - i ∧ kept L n = kept (L.drop i) n ∧ f 0 = .list (L.map spav) ∧ f 1 = .int .i64 n ∧ f 5 = .int .i64 (i : Nat)
 refine k72.fn (by simp) ?_
 simp only [eES,seval]
 refine awp_loop I _ ⟨_,0,rfl,rfl,rfl,(by rfl),(by rfl),(by rfl)⟩ ?_
 rintro _ st ⟨f,i,rfl,rfl,hx,h0,h1,h5⟩
 simp only [List.length_map,h0,h5,eES,seval]
 by_cases hlt : i < L.length
 ·obtain ⟨x,hi⟩ : ∃ x,L[i]? = some x:=⟨L[i],List.getElem?_eq_getElem hlt⟩
  have hg : (L.map spav)[i]? = some (spav x):=by simp [hi]
  have e1:=wi64_s i _ hlt hl
  have hd : kept (L.drop i) n = ((decide (x.lo ≤ n) && decide (n ≤ x.hi)) || kept (L.drop (i + 1)) n):=by
   unfold kept
   rw [List.drop_eq_getElem_cons hlt,show L[i] = x from (List.getElem?_eq_some_iff.1 hi).2]
   rfl
  rw [hd] at hx
  simp only [lt_t hlt,nneg,Int.toNat_natCast,aiaddr,hg,spav,PS.cells,h0,h1,h5,eES,eEX,seval]
  cases a1 : decide (x.lo ≤ n)
  ·rw [a1,Bool.false_and,Bool.false_or] at hx
   simp only [h5,e1,eES,seval]
   exact ⟨L.length - (i + 1),by omega,_,i + 1,rfl,rfl,hx,(by exact h0),(by exact h1),(by rfl)⟩
  ·cases a2 : decide (n ≤ x.hi)
   ·rw [a1,a2,Bool.and_false,Bool.false_or] at hx
    simp only [a2,nneg,Int.toNat_natCast,aiaddr,hg,spav,PS.cells,h0,h1,h5,e1,eES,eEX,seval]
    exact ⟨L.length - (i + 1),by omega,_,i + 1,rfl,rfl,hx,(by exact h0),(by exact h1),(by rfl)⟩
   ·rw [a1,a2,Bool.and_true,Bool.true_or] at hx
    simp only [a2,nneg,Int.toNat_natCast,aiaddr,hg,spav,PS.cells,h0,h1,h5,hx,eES,eEX,seval]
 ·have hx' : kept L n = false:=by rw [hx,List.drop_of_length_le (by omega)]; rfl
  simp only [lt_f hlt,hx',eES,seval]

section
variable {M : Nat} (P : PL) (hP : P.ok M) (fr : Nat → Ob) (m1 : fr 1 = .cells (Pc P)) (f : Fr) (b : Bool) (h1 : f 1 = .ptr 0 1 0) (h3 : f 3 = .bool b) (Q : Exit → St → Prop)

include h1 h3 in
theorem sini_ops (L : List PO) (hl : L.length ≤ maxLen) (j : Nat) (x : PO) (hj : L[j]? = some x) (n : Nat) (hr : f 4 = .int .i64 (n : Nat)) (hL : f 6 = .list (L.map fun o => .agg o.cells)) (hc : f 7 = .int .i64 (j : Nat)) (hd : f 8 = .int .i64 0)
  (hx : ∀ f,f 1 = .ptr 0 1 0 → f 3 = .bool (b && (L.take j).all fun y => !(y.name == x.name)) → f 4 = .int .i64 (n : Nat) → f 6 = .list (L.map fun o => .agg o.cells) → f 7 = .int .i64 (j : Nat) → Q (.exit 6) (⟨f,[fr],[]⟩ : St)) :
  awp Tryz.prog (.loop l34_1) ⟨f,[fr],[]⟩ Q:=by
 let I : Nat → St → Prop:=fun k st => ∃ f i,st = ⟨f,[fr],[]⟩ ∧ k = j - i ∧ i ≤ j ∧ f 1 = .ptr 0 1 0 ∧ f 3 = .bool (b && (L.take i).all fun y => !(y.name == x.name)) ∧ f 4 = .int .i64 (n : Nat) ∧ f 6 = .list (L.map fun o => .agg o.cells) ∧ f 7 = .int .i64 (j : Nat) ∧ f 8 = .int .i64 (i : Nat)
 have hjl : j < L.length:=(List.getElem?_eq_some_iff.1 hj).1
 have hjm : (L.map fun o => AV.agg o.cells)[j]? = some (.agg x.cells):=by simp [hj]
 refine awp_loop I _ ⟨f,0,rfl,rfl,Nat.zero_le _,h1,by rw [h3]; simp,hr,hL,hc,hd⟩ ?_
 clear h1 h3 hr hL hc hd
 simp only [PO.cells] at hjm
 rintro _ st ⟨f,i,rfl,rfl,hi,h1,h3,hr,hL,hc,hd⟩
 simp only [hc,hd,eES,seval]
 by_cases hlt : i < j
 ·obtain ⟨o,hg⟩ : ∃ o,L[i]? = some o:=⟨L[i]'(by omega),List.getElem?_eq_getElem (by omega)⟩
  have hgm : (L.map fun o => AV.agg o.cells)[i]? = some (.agg o.cells):=by simp [hg]
  have e1:=wi64_s i _ (show i < L.length by omega) hl
  have ht:=take_all (q:=fun y : PO => !(y.name == x.name)) hg
  have fin : ∀ f' : Fr,f' 1 = .ptr 0 1 0 → f' 3 = .bool ((b && (L.take i).all fun y => !(y.name == x.name)) && !(o.name == x.name)) → f' 4 = .int .i64 (n : Nat) → f' 6 = .list (L.map fun o => .agg o.cells) → f' 7 = .int .i64 (j : Nat) → f' 8 = .int .i64 ((i + 1 : Nat) : Int) → ∃ k,k < j - i ∧ I k ⟨f',[fr],[]⟩:=by
   intro f' a1 a3 a4 a5 a6 a7
   exact ⟨j - (i + 1),by omega,f',i + 1,rfl,rfl,by omega,a1,by rw [a3,ht,Bool.and_assoc],a4,a5,a6,a7⟩
  simp only [PO.cells] at hgm
  cases hb : (b && (L.take i).all fun y => !(y.name == x.name))
  ·rw [hb] at fin h3
   simp only [lt_t hlt,h3,hd,e1,eES,seval]
   exact fin _ (by exact h1) (by rfl) (by exact hr) (by exact hL) (by exact hc) (by rfl)
  ·rw [hb,Bool.true_and] at fin
   rw [hb] at h3
   simp only [lt_t hlt,nneg,Int.toNat_natCast,aiaddr,hgm,hjm,PO.cells,astr,h3,hL,hc,hd,e1,eES,eEX,seval]
   exact fin _ (by exact h1) (by rfl) (by exact hr) (by exact hL) (by exact hc) (by rfl)
 ·rw [show i = j by omega] at h3
  simp only [lt_f hlt,eES,seval]
  exact hx _ (by exact h1) (by exact h3) (by exact hr) (by exact hL) (by exact hc)

include h1 h3 in
theorem sino_ops (L : List PO) (hl : L.length ≤ maxLen) (n : Nat) (hr : f 4 = .int .i64 (n : Nat)) (hL : f 6 = .list (L.map fun o => .agg o.cells)) (hc : f 7 = .int .i64 0)
  (hx : ∀ f,f 1 = .ptr 0 1 0 → f 3 = .bool (b && once L PO.name) → f 4 = .int .i64 (n : Nat) → Q (.exit 4) (⟨f,[fr],[]⟩ : St)) :
  awp Tryz.prog (.loop l34_2) ⟨f,[fr],[]⟩ Q:=by
 let I : Nat → St → Prop:=fun k st => ∃ f i,st = ⟨f,[fr],[]⟩ ∧ k = L.length - i ∧ i ≤ L.length ∧ f 1 = .ptr 0 1 0 ∧ f 3 = .bool (b && allU (uniq L PO.name) i) ∧ f 4 = .int .i64 (n : Nat) ∧ f 6 = .list (L.map fun o => .agg o.cells) ∧ f 7 = .int .i64 (i : Nat)
 refine awp_loop I _ ⟨f,0,rfl,rfl,Nat.zero_le _,h1,by rw [h3]; simp [allU],hr,hL,hc⟩ ?_
 clear h1 h3 hr hL hc
 rintro _ st ⟨f,i,rfl,rfl,hi,h1,h3,hr,hL,hc⟩
 simp only [List.length_map,hL,hc,eES,seval]
 by_cases hlt : i < L.length
 ·obtain ⟨o,hg⟩ : ∃ o,L[i]? = some o:=⟨L[i],List.getElem?_eq_getElem hlt⟩
  have e1:=wi64_s i _ hlt hl
  have ht:=acc_step b (uniq L PO.name) i
  rw [uniq_at hg] at ht
  simp only [lt_t hlt,eES,seval]
  refine sini_ops fr _ (b && allU (uniq L PO.name) i) (by exact h1) (by exact h3) _ L hl i o hg n (by exact hr) (by exact hL) (by exact hc) (by rfl) (fun f h1 h3 hr hL hc => ?_)
  simp only [hc,e1,eES,seval]
  exact ⟨L.length - (i + 1),by omega,_,i + 1,rfl,rfl,by omega,(by exact h1),by rw [ht] <;> first | exact h3 | simp only [h3,eES,eEX,seval],(by exact hr),(by exact hL),(by rfl)⟩
 ·rw [show i = L.length by omega] at h3
  simp only [lt_f hlt,eES,seval]
  exact hx _ (by exact h1) (by exact h3) (by exact hr)

include h1 h3 in
theorem sini_items (L : List PI) (hl : L.length ≤ maxLen) (j : Nat) (x : PI) (hj : L[j]? = some x) (n : Nat) (hr : f 9 = .int .i64 (n : Nat)) (hL : f 10 = .list (L.map fun o => .agg o.cells)) (hc : f 11 = .int .i64 (j : Nat)) (hd : f 12 = .int .i64 0)
  (hx : ∀ f,f 1 = .ptr 0 1 0 → f 3 = .bool (b && (L.take j).all fun y => !(y.name == x.name)) → f 9 = .int .i64 (n : Nat) → f 10 = .list (L.map fun o => .agg o.cells) → f 11 = .int .i64 (j : Nat) → Q (.exit 12) (⟨f,[fr],[]⟩ : St)) :
  awp Tryz.prog (.loop l34_4) ⟨f,[fr],[]⟩ Q:=by
 let I : Nat → St → Prop:=fun k st => ∃ f i,st = ⟨f,[fr],[]⟩ ∧ k = j - i ∧ i ≤ j ∧ f 1 = .ptr 0 1 0 ∧ f 3 = .bool (b && (L.take i).all fun y => !(y.name == x.name)) ∧ f 9 = .int .i64 (n : Nat) ∧ f 10 = .list (L.map fun o => .agg o.cells) ∧ f 11 = .int .i64 (j : Nat) ∧ f 12 = .int .i64 (i : Nat)
 have hjl : j < L.length:=(List.getElem?_eq_some_iff.1 hj).1
 have hjm : (L.map fun o => AV.agg o.cells)[j]? = some (.agg x.cells):=by simp [hj]
 refine awp_loop I _ ⟨f,0,rfl,rfl,Nat.zero_le _,h1,by rw [h3]; simp,hr,hL,hc,hd⟩ ?_
 clear h1 h3 hr hL hc hd
 simp only [PI.cells] at hjm
 rintro _ st ⟨f,i,rfl,rfl,hi,h1,h3,hr,hL,hc,hd⟩
 simp only [hc,hd,eES,seval]
 by_cases hlt : i < j
 ·obtain ⟨o,hg⟩ : ∃ o,L[i]? = some o:=⟨L[i]'(by omega),List.getElem?_eq_getElem (by omega)⟩
  have hgm : (L.map fun o => AV.agg o.cells)[i]? = some (.agg o.cells):=by simp [hg]
  have e1:=wi64_s i _ (show i < L.length by omega) hl
  have ht:=take_all (q:=fun y : PI => !(y.name == x.name)) hg
  have fin : ∀ f' : Fr,f' 1 = .ptr 0 1 0 → f' 3 = .bool ((b && (L.take i).all fun y => !(y.name == x.name)) && !(o.name == x.name)) → f' 9 = .int .i64 (n : Nat) → f' 10 = .list (L.map fun o => .agg o.cells) → f' 11 = .int .i64 (j : Nat) → f' 12 = .int .i64 ((i + 1 : Nat) : Int) → ∃ k,k < j - i ∧ I k ⟨f',[fr],[]⟩:=by
   intro f' a1 a3 a4 a5 a6 a7
   exact ⟨j - (i + 1),by omega,f',i + 1,rfl,rfl,by omega,a1,by rw [a3,ht,Bool.and_assoc],a4,a5,a6,a7⟩
  simp only [PI.cells] at hgm
  cases hb : (b && (L.take i).all fun y => !(y.name == x.name))
  ·rw [hb] at fin h3
   simp only [lt_t hlt,h3,hd,e1,eES,seval]
   exact fin _ (by exact h1) (by rfl) (by exact hr) (by exact hL) (by exact hc) (by rfl)
  ·rw [hb,Bool.true_and] at fin
   rw [hb] at h3
   simp only [lt_t hlt,nneg,Int.toNat_natCast,aiaddr,hgm,hjm,PI.cells,astr,h3,hL,hc,hd,e1,eES,eEX,seval]
   exact fin _ (by exact h1) (by rfl) (by exact hr) (by exact hL) (by exact hc) (by rfl)
 ·rw [show i = j by omega] at h3
  simp only [lt_f hlt,eES,seval]
  exact hx _ (by exact h1) (by exact h3) (by exact hr) (by exact hL) (by exact hc)

include h1 h3 in
theorem sino_items (L : List PI) (hl : L.length ≤ maxLen) (n : Nat) (hr : f 9 = .int .i64 (n : Nat)) (hL : f 10 = .list (L.map fun o => .agg o.cells)) (hc : f 11 = .int .i64 0)
  (hx : ∀ f,f 1 = .ptr 0 1 0 → f 3 = .bool (b && once L PI.name) → f 9 = .int .i64 (n : Nat) → Q (.exit 10) (⟨f,[fr],[]⟩ : St)) :
  awp Tryz.prog (.loop l34_5) ⟨f,[fr],[]⟩ Q:=by
 let I : Nat → St → Prop:=fun k st => ∃ f i,st = ⟨f,[fr],[]⟩ ∧ k = L.length - i ∧ i ≤ L.length ∧ f 1 = .ptr 0 1 0 ∧ f 3 = .bool (b && allU (uniq L PI.name) i) ∧ f 9 = .int .i64 (n : Nat) ∧ f 10 = .list (L.map fun o => .agg o.cells) ∧ f 11 = .int .i64 (i : Nat)
 refine awp_loop I _ ⟨f,0,rfl,rfl,Nat.zero_le _,h1,by rw [h3]; simp [allU],hr,hL,hc⟩ ?_
 clear h1 h3 hr hL hc
 rintro _ st ⟨f,i,rfl,rfl,hi,h1,h3,hr,hL,hc⟩
 simp only [List.length_map,hL,hc,eES,seval]
 by_cases hlt : i < L.length
 ·obtain ⟨o,hg⟩ : ∃ o,L[i]? = some o:=⟨L[i],List.getElem?_eq_getElem hlt⟩
  have e1:=wi64_s i _ hlt hl
  have ht:=acc_step b (uniq L PI.name) i
  rw [uniq_at hg] at ht
  simp only [lt_t hlt,eES,seval]
  refine sini_items fr _ (b && allU (uniq L PI.name) i) (by exact h1) (by exact h3) _ L hl i o hg n (by exact hr) (by exact hL) (by exact hc) (by rfl) (fun f h1 h3 hr hL hc => ?_)
  simp only [hc,e1,eES,seval]
  exact ⟨L.length - (i + 1),by omega,_,i + 1,rfl,rfl,by omega,(by exact h1),by rw [ht] <;> first | exact h3 | simp only [h3,eES,eEX,seval],(by exact hr),(by exact hL),(by rfl)⟩
 ·rw [show i = L.length by omega] at h3
  simp only [lt_f hlt,eES,seval]
  exact hx _ (by exact h1) (by exact h3) (by exact hr)

include hP m1 h1 h3

theorem sinp (j : Nat) (x : PG) (hj : P.progs[j]? = some x) (ha : f 4 = .int .i64 (j : Nat)) (hc : f 5 = .int .i64 0) (hx : ∀ f,f 1 = .ptr 0 1 0 → f 3 = .bool (b && P.enums.all fun e => !(e.name == x.name)) → f 4 = .int .i64 (j : Nat) → Q (.exit 2) (⟨f,[fr],[]⟩ : St)) : awp Tryz.prog (.loop l34_0) ⟨f,[fr],[]⟩ Q:=by
 let I : Nat → St → Prop:=fun k st => ∃ f i,st = ⟨f,[fr],[]⟩ ∧ k = P.enums.length - i ∧ i ≤ P.enums.length ∧ f 1 = .ptr 0 1 0 ∧ f 3 = .bool (b && (P.enums.take i).all fun e => !(e.name == x.name)) ∧ f 4 = .int .i64 (j : Nat) ∧ f 5 = .int .i64 (i : Nat)
 have hjm : (P.progs.map gav)[j]? = some (.agg x.cells):=by simp [hj,gav]
 refine awp_loop I _ ⟨f,0,rfl,rfl,Nat.zero_le _,h1,by rw [h3]; simp,ha,hc⟩ ?_
 clear h1 h3 ha hc
 simp only [Pc] at m1
 simp only [PG.cells] at hjm
 rintro _ st ⟨f,i,rfl,rfl,hi,h1,h3,ha,hc⟩
 simp only [List.length_map,h1,m1,hc,eES,eEX,seval]
 by_cases hlt : i < P.enums.length
 ·obtain ⟨o,hg⟩ : ∃ o,P.enums[i]? = some o:=⟨P.enums[i],List.getElem?_eq_getElem hlt⟩
  have hgm : (P.enums.map eav)[i]? = some (.agg o.cells):=by simp [hg,eav]
  have e1:=wi64_s i _ hlt hP.len2
  have ht:=take_all (q:=fun y : PE => !(y.name == x.name)) hg
  have hcm : (x.name == o.name) = (o.name == x.name):=by rw [Bool.eq_iff_iff,beq_iff_eq,beq_iff_eq]; exact ⟨Eq.symm,Eq.symm⟩
  have fin : ∀ f' : Fr,f' 1 = .ptr 0 1 0 → f' 3 = .bool ((b && (P.enums.take i).all fun y => !(y.name == x.name)) && !(o.name == x.name)) → f' 4 = .int .i64 (j : Nat) → f' 5 = .int .i64 ((i + 1 : Nat) : Int) → ∃ k,k < P.enums.length - i ∧ I k ⟨f',[fr],[]⟩:=by
   intro f' a1 a3 a4 a5
   exact ⟨P.enums.length - (i + 1),by omega,f',i + 1,rfl,rfl,by omega,a1,by rw [a3,ht,Bool.and_assoc],a4,a5⟩
  simp only [PE.cells] at hgm
  cases hb : (b && (P.enums.take i).all fun y => !(y.name == x.name))
  ·rw [hb] at fin h3
   simp only [lt_t hlt,h3,hc,e1,eES,seval]
   exact fin _ (by exact h1) (by rfl) (by exact ha) (by rfl)
  ·rw [hb,Bool.true_and] at fin
   rw [hb] at h3
   simp only [lt_t hlt,nneg,Int.toNat_natCast,aiaddr,hjm,hgm,astr,hcm,h1,m1,h3,ha,hc,e1,eES,eEX,seval]
   exact fin _ (by exact h1) (by rfl) (by exact ha) (by rfl)
 ·have hf : (P.enums.take i).all (fun e => !(e.name == x.name)) = P.enums.all fun e => !(e.name == x.name):=by rw [List.take_of_length_le (by omega)]
  rw [hf] at h3
  simp only [lt_f hlt,eES,seval]
  exact hx _ (by exact h1) (by exact h3) (by exact ha)

theorem sinP (ha : f 4 = .int .i64 0) (hx : ∀ f,f 1 = .ptr 0 1 0 → f 3 = .bool (b && P.progs.all (sin1 P)) → Q (.exit 0) (⟨f,[fr],[]⟩ : St)) : awp Tryz.prog (.loop l34_3) ⟨f,[fr],[]⟩ Q:=by
 let I : Nat → St → Prop:=fun k st => ∃ f i,st = ⟨f,[fr],[]⟩ ∧ k = P.progs.length - i ∧ i ≤ P.progs.length ∧ f 1 = .ptr 0 1 0 ∧ f 3 = .bool (b && (P.progs.take i).all (sin1 P)) ∧ f 4 = .int .i64 (i : Nat)
 have m1':=m1
 refine awp_loop I _ ⟨f,0,rfl,rfl,Nat.zero_le _,h1,by rw [h3]; simp,ha⟩ ?_
 clear h1 h3 ha
 simp only [Pc] at m1
 rintro _ st ⟨f,i,rfl,rfl,hi,h1,h3,ha⟩
 simp only [List.length_map,h1,m1,ha,eES,eEX,seval]
 by_cases hlt : i < P.progs.length
 ·obtain ⟨x,hg⟩ : ∃ x,P.progs[i]? = some x:=⟨P.progs[i],List.getElem?_eq_getElem hlt⟩
  have hgm : (P.progs.map gav)[i]? = some (.agg x.cells):=by simp [hg,gav]
  have e1:=wi64_s i _ hlt hP.len1
  have ht:=take_all (q:=sin1 P) hg
  have hq : sin1 P x = ((P.enums.all fun e => !(e.name == x.name)) && once x.ops PO.name):=rfl
  simp only [PG.cells] at hgm
  simp only [lt_t hlt,eES,seval]
  refine sinp P hP fr m1' _ (b && (P.progs.take i).all (sin1 P)) (by exact h1) (by exact h3) _ i x hg (by exact ha) (by rfl) (fun f h1 h3 ha => ?_)
  simp only [nneg,Int.toNat_natCast,aiaddr,hgm,h1,m1,ha,eES,eEX,seval]
  refine sino_ops fr _ _ (by exact h1) (by exact h3) _ x.ops (hP.progs x (List.mem_of_getElem? hg)).len i (by exact ha) (by rfl) (by rfl) (fun f h1 h3 ha => ?_)
  simp only [ha,e1,eES,seval]
  exact ⟨P.progs.length - (i + 1),by omega,_,i + 1,rfl,rfl,by omega,(by exact h1),by rw [ht,hq,← Bool.and_assoc,← Bool.and_assoc] <;> first | exact h3 | simp only [h3,eES,eEX,seval],(by rfl)⟩
 ·have hf : (P.progs.take i).all (sin1 P) = P.progs.all (sin1 P):=by rw [List.take_of_length_le (by omega)]
  rw [hf] at h3
  simp only [lt_f hlt,eES,seval]
  exact hx _ (by exact h1) (by exact h3)

theorem sinE (ha : f 9 = .int .i64 0) (hx : ∀ f,f 1 = .ptr 0 1 0 → f 3 = .bool (b && P.enums.all sin2) → Q (.exit 8) (⟨f,[fr],[]⟩ : St)) : awp Tryz.prog (.loop l34_6) ⟨f,[fr],[]⟩ Q:=by
 let I : Nat → St → Prop:=fun k st => ∃ f i,st = ⟨f,[fr],[]⟩ ∧ k = P.enums.length - i ∧ i ≤ P.enums.length ∧ f 1 = .ptr 0 1 0 ∧ f 3 = .bool (b && (P.enums.take i).all sin2) ∧ f 9 = .int .i64 (i : Nat)
 refine awp_loop I _ ⟨f,0,rfl,rfl,Nat.zero_le _,h1,by rw [h3]; simp,ha⟩ ?_
 clear h1 h3 ha
 simp only [Pc] at m1
 rintro _ st ⟨f,i,rfl,rfl,hi,h1,h3,ha⟩
 simp only [List.length_map,h1,m1,ha,eES,eEX,seval]
 by_cases hlt : i < P.enums.length
 ·obtain ⟨x,hg⟩ : ∃ x,P.enums[i]? = some x:=⟨P.enums[i],List.getElem?_eq_getElem hlt⟩
  have hgm : (P.enums.map eav)[i]? = some (.agg x.cells):=by simp [hg,eav]
  have e1:=wi64_s i _ hlt hP.len2
  have ht:=take_all (q:=sin2) hg
  have hq : sin2 x = once x.items PI.name:=rfl
  simp only [PE.cells] at hgm
  simp only [lt_t hlt,nneg,Int.toNat_natCast,aiaddr,hgm,h1,m1,ha,eES,eEX,seval]
  refine sino_items fr _ (b && (P.enums.take i).all sin2) (by exact h1) (by exact h3) _ x.items (hP.enums x (List.mem_of_getElem? hg)).len1 i (by exact ha) (by rfl) (by rfl) (fun f h1 h3 ha => ?_)
  simp only [ha,e1,eES,seval]
  exact ⟨P.enums.length - (i + 1),by omega,_,i + 1,rfl,rfl,by omega,(by exact h1),by rw [ht,hq,← Bool.and_assoc] <;> first | exact h3 | simp only [h3,eES,eEX,seval],(by rfl)⟩
 ·have hf : (P.enums.take i).all sin2 = P.enums.all sin2:=by rw [List.take_of_length_le (by omega)]
  rw [hf] at h3
  simp only [lt_f hlt,eES,seval]
  exact hx _ (by exact h1) (by exact h3)

end

theorem z34 {M : Nat} (P : PL) (hP : P.ok M) : Fn1 Tryz.prog 34 [P.av] (.bool (sin P)):=by
 have e0 : P.av = .agg [.list (P.progs.map gav),.list (P.enums.map eav)]:=rfl
 refine k34.fn (by simp) ?_
 simp only [e0,eES,eEX,seval]
 refine sinP P hP _ (by rfl) _ true (by rfl) (by rfl) _ (by rfl) (fun f h1 h3 => ?_)
 simp only [eES,seval]
 refine sinE P hP _ (by rfl) _ _ (by exact h1) (by exact h3) _ (by rfl) (fun f h1 h3 => ?_)
 simp only [h3,sin,Bool.true_and,eES,seval]


theorem z116 : Fn1 Tryz.prog 116 [.str alias] (.int .i64 7):=by
 refine k116.fn (by simp) ?_
 have b1 : (alias == ([100,101,112,114,101,99,97,116,101,100] : List UInt8)) = false:=by decide
 have b2 : (alias == ([115,101,99,114,101,116] : List UInt8)) = false:=by decide
 have b3 : (alias == ([105,100,101,109,112,111,116,101,110,116] : List UInt8)) = false:=by decide
 have b4 : (alias == ([100,111,99] : List UInt8)) = false:=by decide
 have b5 : (alias == ([97,108,105,97,115] : List UInt8)) = true:=by decide
 simp only [astr,b1,b2,b3,b4,b5,eES,seval]

theorem z117 : Fn1 Tryz.prog 117 [.str alias,.int .i64 4] (.bool true):=by
 refine k117.fn (by simp) ?_
 have b1 : (alias == ([100,101,112,114,101,99,97,116,101,100] : List UInt8)) = false:=by decide
 have b4 : (alias == ([100,111,99] : List UInt8)) = false:=by decide
 have b5 : (alias == ([97,108,105,97,115] : List UInt8)) = true:=by decide
 have c2 : ((4 : Int) == 2) = false:=rfl
 have c4 : ((4 : Int) == 4) = true:=rfl
 simp only [astr,b1,b4,b5,c2,c4,eES,seval]

section
variable (kd : Int) (b : Nat) (t : List UInt8) (l p s r : List AV) (ht : t.length + 8 ≤ maxLen)
include ht

theorem z159 : Fn1 Tryz.prog 159 [.int .i64 7,vo kd b t l p s r] (.bool (fitv 7 kd b t l p s r)):=by
 have hl:=y99 kd b t l p s r
 simp only [vo] at hl
 have n1 : (kd != 7) = !(kd == 7):=rfl
 have k7 : isk 7 = true:=rfl
 have t7 : txk 7 = true:=rfl
 have f7 : fitn 7 b = true:=rfl
 have c8 : ((7 : Int) == 8) = false:=rfl
 have c7 : ((7 : Int) != 7) = false:=rfl
 refine k159.fn (by simp) ?_
 simp only [vo,fitv,k7,f7,c7,Bool.true_and,Bool.and_true,Bool.false_or,eES,eEX,seval]
 refine aops_call (x98 7) rfl rfl rfl (.inl rfl) ?_
 simp only [k7,n1,Bool.not_true,eES,eEX,seval]
 by_cases hk : kd = 7
 ·subst hk
  have a1 : ((7 : Int) == 7) = true:=rfl
  simp only [a1,Bool.not_true,Bool.true_and,t7,eES,eEX,seval]
  refine aops_call hl rfl rfl rfl (.inl rfl) ?_
  cases lon l p s r
  ·simp only [Bool.not_false,Bool.false_and,eES,seval]
  simp only [Bool.not_true,Bool.true_and,eES,seval]
  refine aops_call (x138 7) rfl rfl rfl (.inl rfl) ?_
  simp only [t7,eES,eEX,seval]
  cases a2 : ((b : Int) == 0)
  ·simp only [Bool.false_and,eES,seval]
  cases a3 : decide ((t.length : Int) ≤ 4096)
  ·simp only [a3,Bool.false_and,Bool.and_false,eES,eEX,seval]
  simp only [a3,c8,Bool.true_and,eES,eEX,seval]
  refine aops_call (c119 t ht) rfl rfl rfl (.inl rfl) ?_
  simp only [eES,seval]
 ·have a1 : (kd == 7) = false:=by simp [hk]
  simp only [a1,Bool.not_false,Bool.false_and,eES,seval]

theorem z118 : Fn1 Tryz.prog 118 [nv kd b t l p s r] (.bool (fitv 7 kd b t l p s r)):=by
 have hf:=z159 kd b t l p s r ht
 have b0 : ((7 : Int) != 0) = true:=rfl
 simp only [vo] at hf
 refine k118.fn (by simp) ?_
 simp only [nv,eES,eEX,seval]
 refine aops_call z116 rfl rfl rfl (.inl rfl) ?_
 simp only [b0,eES,eEX,seval]
 cases a1 : (kd == 7)
 ·have e : fitv 7 kd b t l p s r = false:=by unfold fitv; rw [a1]; rfl
  simp only [e,eES,seval]
 ·simp only [eES,eEX,seval]
  refine aops_call hf rfl rfl rfl (.inl rfl) ?_
  simp only [eES,seval]

def RcI (k : Nat) (st : St) : Prop :=
 ∃ f i,st = ⟨f,[noObs],[]⟩ ∧ k = 1 - i ∧ i ≤ 1 ∧ (i = 1 → fitv 7 kd b t l p s r = true) ∧ f 0 = .list [nv kd b t l p s r] ∧ f 1 = .int .i64 4 ∧ f 5 = .int .i64 (i : Nat)

theorem z73 : Fn1 Tryz.prog 73 [.list [nv kd b t l p s r],.int .i64 4] (.int .i64 (if fitv 7 kd b t l p s r = true then 0 else 12)):=by
 have b0 : decide (((1 : Nat) : Int) > 8) = false:=rfl
 have hr:=z118 kd b t l p s r ht
 simp only [nv] at hr
 refine k73.fn (by simp) ?_
 simp only [List.length_cons,List.length_nil,Nat.zero_add,eES,seval]
 refine awp_loop (RcI kd b t l p s r) 1 ⟨_,0,rfl,rfl,Nat.zero_le _,(fun h => by cases h),(by rfl),(by rfl),(by rfl)⟩ ?_
 rintro _ st ⟨f,i,rfl,rfl,hi,hf,h0,h1,h5⟩
 simp only [nv] at h0
 simp only [h0,h5,List.length_cons,List.length_nil,Nat.zero_add,eES,seval]
 rcases Nat.le_one_iff_eq_zero_or_eq_one.1 hi with rfl | rfl
 ·have c0 : decide (((0 : Nat) : Int) < ((1 : Nat) : Int)) = true:=rfl
  have c1 : decide (((0 : Nat) : Int) > 0) = false:=rfl
  have d7 : ((7 : Int) == 0) = false:=rfl
  have e1 : IntKind.i64.wrap (((0 : Nat) : Int) + 1) = ((1 : Nat) : Int):=rfl
  have z0 : (0 ≤ ((0 : Nat) : Int)) = True:=by simp
  have z1 : Int.toNat ((0 : Nat) : Int) = 0:=rfl
  simp only [aiaddr,List.getElem?_cons_zero,h0,h5,eES,eEX,seval]
  refine aops_call z116 rfl rfl rfl (.inl rfl) ?_
  simp only [d7,aiaddr,List.getElem?_cons_zero,h0,h1,h5,eES,eEX,seval]
  refine aops_call z117 rfl rfl rfl (.inl rfl) ?_
  simp only [Bool.not_true,aiaddr,List.getElem?_cons_zero,h0,h5,eES,eEX,seval]
  refine aops_call hr rfl rfl rfl (.inl rfl) ?_
  cases hfv : fitv 7 kd b t l p s r
  ·simp only [Bool.not_false,Bool.false_eq_true,eES,seval]
  ·simp only [Bool.not_true,h5,eES,seval]
   exact ⟨0,by omega,_,1,rfl,rfl,Nat.le_refl _,fun _ => hfv,(by exact h0),(by exact h1),(by rfl)⟩
 ·have c0 : decide (((1 : Nat) : Int) < ((1 : Nat) : Int)) = false:=rfl
  simp only [hf rfl,eES,seval]

end

section
variable (P : PL)

def aimR (P : PL) (o : PO) : Bool :=
 if o.kind = 10 then decide (o.target ≥ 0) && decide (o.target < (P.progs.length : Int)) && o.card != 3
 else if o.kind = 9 then decide (o.target ≥ 0) && decide (o.target < (P.enums.length : Int)) else o.target == -1

theorem z120 (o : PO) : Fn1 Tryz.prog 120 [P.av,oav o] (.bool (aimR P o)):=by
 have e0 : P.av = .agg [.list (P.progs.map gav),.list (P.enums.map eav)]:=rfl
 refine k120.fn (by simp) ?_
 simp only [e0,oav,PO.cells,aimR,eES,eEX,seval]
 by_cases h : o.kind = 10
 ·have b0 : (o.kind == 10) = true:=by simp [h]
  simp only [b0,if_pos h,eES,eEX,seval]
  cases a1 : decide (o.target ≥ 0) <;> cases a2 : decide (o.target < (P.progs.length : Int)) <;> simp only [a2,Bool.true_and,Bool.false_and,List.length_map,eES,eEX,seval]
 ·have b0 : (o.kind == 10) = false:=by simp [h]
  by_cases h9 : o.kind = 9
  ·have b1 : (o.kind == 9) = true:=by simp [h9]
   simp only [b0,b1,if_neg h,if_pos h9,eES,eEX,seval]
   cases a1 : decide (o.target ≥ 0) <;> simp only [Bool.true_and,Bool.false_and,List.length_map,eES,eEX,seval]
  ·have b1 : (o.kind == 9) = false:=by simp [h9]
   simp only [b0,b1,if_neg h,if_neg h9,eES,eEX,seval]

theorem opr_eq (o : PO) : (arg1 P o && uok o) = (vld o.alias && (decide ((o.alias.length : Int) ≤ 4096) && (decide (o.card ≥ 1) && (decide (o.card ≤ 5) && (decide (o.kind ≥ 1) && (decide (o.kind ≤ 10) && (key o && aimR P o && uok o))))))):=by
 have h : aim P o = (decide (o.kind ≥ 1) && decide (o.kind ≤ 10) && aimR P o):=by
  unfold aim aimR
  by_cases h : o.kind = 10
  ·rw [if_pos h,if_pos h,h]; rfl
  ·rw [if_neg h,if_neg h]
   by_cases h9 : o.kind = 9
   ·rw [if_pos h9,if_pos h9,h9]; rfl
   ·rw [if_neg h9,if_neg h9]
    congr 1
    unfold isk
    rw [Bool.eq_iff_iff,Bool.and_eq_true,Bool.and_eq_true]
    simp only [decide_eq_true_eq]
    omega
 unfold arg1
 rw [h]
 cases vld o.alias <;> cases decide ((o.alias.length : Int) ≤ 4096) <;> cases decide (o.card ≥ 1) <;> cases decide (o.card ≤ 5) <;> cases decide (o.kind ≥ 1) <;> cases decide (o.kind ≤ 10) <;> cases key o <;> cases aimR P o <;> cases uok o <;> rfl

theorem z75 (o : PO) (ha : o.alias.length + 8 ≤ maxLen) : Fn1 Tryz.prog 75 [P.av,oav o] (.bool (arg1 P o && uok o)):=by
 have e0 : P.av = .agg [.list (P.progs.map gav),.list (P.enums.map eav)]:=rfl
 have n1 : decide ((o.alias.length : Int) > 4096) = !decide ((o.alias.length : Int) ≤ 4096):=(by rw [Bool.eq_iff_iff]; simp only [decide_eq_true_eq,Bool.not_eq_true',decide_eq_false_iff_not]; omega)
 have n2 : decide (o.card < 1) = !decide (o.card ≥ 1):=(by rw [Bool.eq_iff_iff]; simp only [decide_eq_true_eq,Bool.not_eq_true',decide_eq_false_iff_not]; omega)
 have n3 : decide (o.card > 5) = !decide (o.card ≤ 5):=(by rw [Bool.eq_iff_iff]; simp only [decide_eq_true_eq,Bool.not_eq_true',decide_eq_false_iff_not]; omega)
 have n4 : decide (o.kind < 1) = !decide (o.kind ≥ 1):=(by rw [Bool.eq_iff_iff]; simp only [decide_eq_true_eq,Bool.not_eq_true',decide_eq_false_iff_not]; omega)
 have n5 : decide (o.kind > 10) = !decide (o.kind ≤ 10):=(by rw [Bool.eq_iff_iff]; simp only [decide_eq_true_eq,Bool.not_eq_true',decide_eq_false_iff_not]; omega)
 have ht : Fn1 Tryz.prog 120 [.agg [.list (P.progs.map gav),.list (P.enums.map eav)],oav o] (.bool (aimR P o)):=z120 P o
 have hk1 : o.card ≠ 5 → key o = (o.key == 0):=fun h => by unfold key; rw [if_neg h]
 have hk2 : o.card = 5 → key o = ((decide (o.key ≥ 1) && decide (o.key ≤ 5)) || o.key == 7):=fun h => by
  unfold key
  rw [if_pos h,Bool.eq_iff_iff]
  simp only [Bool.and_eq_true,Bool.or_eq_true,decide_eq_true_eq,beq_iff_eq,bne_iff_ne,ne_eq]
  omega
 have hu : uok o = (o.union == -1 || o.card == 2):=rfl
 simp only [oav,PO.cells] at ht
 rw [opr_eq]
 refine k75.fn (by simp) ?_
 simp only [g75_0,g75_1,g75_2,g75_3,g75_4,g75_5,r75,o75,e0,oav,PO.cells,eES,eEX,seval]
 refine aops_call (c119 o.alias ha) rfl rfl rfl (.inl rfl) ?_
 cases vld o.alias
 ·simp only [Bool.not_false,Bool.false_and,eES,seval]
 cases a1 : decide ((o.alias.length : Int) ≤ 4096)
 ·simp only [Bool.not_true,Bool.not_false,Bool.true_and,n1,a1,Bool.false_and,eES,eEX,seval]
 cases a2 : decide (o.card ≥ 1)
 ·simp only [Bool.not_true,Bool.not_false,Bool.true_and,n1,n2,a1,a2,Bool.false_and,eES,eEX,seval]
 cases a3 : decide (o.card ≤ 5)
 ·simp only [Bool.not_true,Bool.not_false,Bool.true_and,n1,n2,n3,a1,a2,a3,Bool.false_and,eES,eEX,seval]
 cases a4 : decide (o.kind ≥ 1)
 ·simp only [Bool.not_true,Bool.not_false,Bool.true_and,n1,n2,n3,n4,a1,a2,a3,a4,Bool.false_and,eES,eEX,seval]
 cases a5 : decide (o.kind ≤ 10)
 ·simp only [Bool.not_true,Bool.not_false,Bool.true_and,n1,n2,n3,n4,n5,a1,a2,a3,a4,a5,Bool.false_and,eES,eEX,seval]
 have fin : ∀ (f : Fr) (fr : Nat → Ob) (kb : Bool),kb = key o → f 2 = .ptr 0 2 0 → fr 2 = .cells [.list (P.progs.map gav),.list (P.enums.map eav)] → f 3 = .ptr 0 3 0 → fr 3 = .cells [.int .i64 o.num,.str o.name,.str o.alias,.int .i64 o.card,.int .i64 o.key,.int .i64 o.kind,.int .i64 o.target,.int .i64 o.union] → f 5 = .bool kb →
   aops Tryz.prog g75_6 ⟨f,[fr],[]⟩ (Kc Tryz.prog .ret (AEnds [.tmp 4] 0 fun x _ => x = .bool (key o && aimR P o && uok o)) .normal):=by
  intro f fr kb hkb h2 m2 h3 m3 h5
  subst hkb
  simp only [g75_6,h5,eES,seval]
  cases key o
  ·simp only [Bool.false_and,eES,seval]
  simp only [h2,m2,h3,m3,Bool.true_and,eES,eEX,seval]
  refine aops_call ht rfl rfl rfl (.inl rfl) ?_
  cases aimR P o
  ·simp only [Bool.false_and,eES,seval]
  rw [hu]
  cases c1 : (o.union == -1) <;> simp only [h3,m3,c1,Bool.true_and,Bool.true_or,Bool.false_or,eES,eEX,seval]
 by_cases h5 : o.card = 5
 ·have b5 : (o.card != 5) = false:=by simp [h5]
  have hk:=hk2 h5
  simp only [Bool.not_true,Bool.true_and,n1,n2,n3,n4,n5,a1,a2,a3,a4,a5,eES,eEX,seval]
  cases c1 : decide (o.key ≥ 1) <;> cases c2 : decide (o.key ≤ 5) <;> cases c3 : (o.key == 7) <;> simp only [c2,c3,b5,eES,eEX,seval]
  all_goals
   rw [c1,c2,c3] at hk
   exact fin _ _ _ hk.symm (by rfl) (by rfl) (by rfl) (by rfl) (by rfl)
 ·have b5 : (o.card != 5) = true:=by simp [h5]
  have hk:=hk1 h5
  simp only [Bool.not_true,Bool.true_and,n1,n2,n3,n4,n5,a1,a2,a3,a4,a5,eES,eEX,seval]
  cases c1 : decide (o.key ≥ 1) <;> cases c2 : decide (o.key ≤ 5) <;> cases c3 : (o.key == 7) <;> simp only [c2,c3,b5,eES,eEX,seval]
  all_goals exact fin _ _ _ hk.symm (by rfl) (by rfl) (by rfl) (by rfl) (by rfl)

end


def JoI (g : PG) (k : Nat) (st : St) : Prop :=
 ∃ f fr i n b,st = ⟨f,[fr],[]⟩ ∧ k = g.ops.length - i ∧ joinU g.ops 0 (-1) = joinU (g.ops.drop i) n b ∧ 0 ≤ n ∧ n ≤ (i : Int) ∧ ((i = 0 ∧ b = -1) ∨ ∃ j o,i = j + 1 ∧ g.ops[j]? = some o ∧ b = o.union) ∧ f 1 = .ptr 0 1 0 ∧ f 3 = .int .i64 n ∧ f 4 = .int .i64 (i : Nat) ∧ fr 1 = .cells g.cells

theorem z74 (g : PG) (hl : g.ops.length ≤ 9223372036854775000) : Fn1 Tryz.prog 74 [gav g] (.bool (uniB g)):=by
 refine k74.fn (by simp) ?_
 simp only [gav,PG.cells,eES,eEX,seval]
 refine awp_loop (JoI g) _ ⟨_,_,0,0,-1,rfl,rfl,rfl,by decide,by decide,.inl ⟨rfl,rfl⟩,(by rfl),(by rfl),(by rfl),(by rfl)⟩ ?_
 rintro _ st ⟨f,fr,i,n,b,rfl,rfl,hj,hn0,hni,hb,h1,h3,h4,m1⟩
 simp only [PG.cells] at m1
 simp only [List.length_map,h1,h4,m1,eES,eEX,seval]
 by_cases hlt : i < g.ops.length
 ·obtain ⟨o,hi⟩ : ∃ o,g.ops[i]? = some o:=⟨g.ops[i],List.getElem?_eq_getElem hlt⟩
  have hg : (g.ops.map fun o => AV.agg o.cells)[i]? = some (.agg o.cells):=by simp [hi]
  have e1:=wi64_s i _ hlt (by simp only [maxLen]; omega)
  have en : IntKind.i64.wrap (n + 1) = n + 1:=by rw [wi64]; omega
  rw [joinU_drop hi] at hj
  have fin : ∀ (f' : Fr) (n' : Int),(if o.union = n then n' = n + 1 else n' = n) → joinU g.ops 0 (-1) = joinU (g.ops.drop (i + 1)) n' o.union → f' 1 = .ptr 0 1 0 → f' 3 = .int .i64 n' → f' 4 = .int .i64 ((i + 1 : Nat) : Int) → ∃ k,k < g.ops.length - i ∧ JoI g k ⟨f',[fr],[]⟩:=by
   intro f' n' a c d e f4
   refine ⟨g.ops.length - (i + 1),by omega,f',fr,i + 1,n',o.union,rfl,rfl,c,?_,?_,.inr ⟨i,o,rfl,hi,rfl⟩,d,e,f4,m1⟩ <;> split at a <;> omega
  simp only [PO.cells] at hg
  simp only [lt_t hlt,nneg,Int.toNat_natCast,aiaddr,hg,PO.cells,h1,h3,h4,m1,eES,eEX,seval]
  by_cases a1 : o.union = n
  ·have b1 : (o.union == n) = true:=by simp [a1]
   rw [if_pos a1,← a1] at hj
   simp only [b1,h3,h4,en,e1,eES,seval]
   exact fin _ (n + 1) (by rw [if_pos a1]) (by rw [hj,a1]) (by exact h1) (by rfl) (by rfl)
  have b1 : (o.union == n) = false:=by simp [a1]
  rw [if_neg a1] at hj
  by_cases a2 : o.union = -1
  ·have b2 : (o.union != -1) = false:=by simp [a2]
   rw [if_pos (.inl a2)] at hj
   simp only [b1,b2,h4,e1,eES,seval]
   exact fin _ n (by rw [if_neg a1]) hj (by exact h1) (by exact h3) (by rfl)
  have b2 : (o.union != -1) = true:=by simp [a2]
  rcases hb with ⟨rfl,rfl⟩ | ⟨j,p,rfl,hjp,rfl⟩
  ·have b3 : (((0 : Nat) : Int) == 0) = true:=rfl
   rw [if_neg (by omega)] at hj
   have hun : uniB g = false:=by unfold uniB; rw [hj]
   simp only [b1,b2,h4,hun,eES,seval]
  ·have b3 : (((j + 1 : Nat) : Int) == 0) = false:=by rw [beq_eq_false_iff_ne]; omega
   have hgj : (g.ops.map fun o => AV.agg o.cells)[j]? = some (.agg p.cells):=by simp [hjp]
   have e2:=wp64 j _ hlt (by simp only [maxLen]; omega)
   simp only [PO.cells] at hgj
   by_cases a4 : o.union = p.union
   ·have b4 : (p.union != o.union) = false:=by simp [a4]
    rw [if_pos (.inr a4)] at hj
    simp only [b1,b2,b3,b4,e2,nneg,Int.toNat_natCast,aiaddr,hgj,PO.cells,h1,h4,m1,e1,eES,eEX,seval]
    exact fin _ n (by rw [if_neg a1]) hj (by exact h1) (by exact h3) (by rfl)
   ·have b4 : (p.union != o.union) = true:=by simp; exact fun h => a4 h.symm
    rw [if_neg (by omega)] at hj
    have hun : uniB g = false:=by unfold uniB; rw [hj]
    simp only [b1,b2,b3,b4,e2,nneg,Int.toNat_natCast,aiaddr,hgj,PO.cells,h1,h4,m1,hun,eES,eEX,seval]
 ·rw [List.drop_of_length_le (by omega)] at hj
  have hun : uniB g = (g.unions == n):=by unfold uniB; rw [hj]; rfl
  simp only [lt_f hlt,h1,h3,m1,hun,eES,eEX,seval]

section
variable {M : Nat} (hM : M ≤ 140737488351232) (P : PL) (hP : P.ok M) (fr : Nat → Ob) (m1 : fr 1 = .cells (Pc P)) (f : Fr) (b : Bool) (h1 : f 1 = .ptr 0 1 0) (h3 : f 3 = .bool b) (Q : Exit → St → Prop)
include hM hP m1 h1 h3

theorem argi (j : Nat) (x : PE) (hj : P.enums[j]? = some x) (ha : f 4 = .int .i64 (j : Nat)) (hc : f 5 = .int .i64 0) (hx : ∀ f,f 1 = .ptr 0 1 0 → f 3 = .bool (b && x.items.all nte) → f 4 = .int .i64 (j : Nat) → Q (.exit 2) (⟨f,[fr],[]⟩ : St)) : awp Tryz.prog (.loop l36_0) ⟨f,[fr],[]⟩ Q:=by
 let I : Nat → St → Prop:=fun k st => ∃ f i,st = ⟨f,[fr],[]⟩ ∧ k = x.items.length - i ∧ i ≤ x.items.length ∧ f 1 = .ptr 0 1 0 ∧ f 3 = .bool (b && (x.items.take i).all nte) ∧ f 4 = .int .i64 (j : Nat) ∧ f 5 = .int .i64 (i : Nat)
 have hjm : (P.enums.map eav)[j]? = some (.agg x.cells):=by simp [hj,eav]
 have hxo:=hP.enums x (List.mem_of_getElem? hj)
 have z0 : (0 ≤ (0 : Int)) = True:=by simp
 have z1 : Int.toNat 0 = 0:=rfl
 refine awp_loop I _ ⟨f,0,rfl,rfl,Nat.zero_le _,h1,by rw [h3]; simp,ha,hc⟩ ?_
 clear h1 h3 ha hc
 simp only [Pc] at m1
 simp only [PE.cells] at hjm
 rintro _ st ⟨f,i,rfl,rfl,hi,h1,h3,ha,hc⟩
 simp only [nneg,Int.toNat_natCast,aiaddr,hjm,List.length_map,h1,m1,ha,hc,eES,eEX,seval]
 by_cases hlt : i < x.items.length
 ·obtain ⟨o,hg⟩ : ∃ o,x.items[i]? = some o:=⟨x.items[i],List.getElem?_eq_getElem hlt⟩
  have hgm : (x.items.map fun o => AV.agg o.cells)[i]? = some (.agg o.cells):=by simp [hg]
  have e1:=wi64_s i _ hlt hxo.len1
  have ho:=hxo.items o (List.mem_of_getElem? hg)
  have ht:=take_all (q:=nte) hg
  have fin : ∀ f' : Fr,f' 1 = .ptr 0 1 0 → f' 3 = .bool ((b && (x.items.take i).all nte) && nte o) → f' 4 = .int .i64 (j : Nat) → f' 5 = .int .i64 ((i + 1 : Nat) : Int) → ∃ k,k < x.items.length - i ∧ I k ⟨f',[fr],[]⟩:=by
   intro f' a1 a3 a4 a5
   exact ⟨x.items.length - (i + 1),by omega,f',i + 1,rfl,rfl,by omega,a1,by rw [a3,ht,Bool.and_assoc],a4,a5⟩
  simp only [PI.cells] at hgm
  cases hb : (b && (x.items.take i).all nte)
  ·rw [hb] at fin h3
   simp only [lt_t hlt,nneg,Int.toNat_natCast,aiaddr,hjm,hgm,PI.cells,h1,m1,h3,ha,hc,e1,eES,eEX,seval]
   exact fin _ (by exact h1) (by rfl) (by exact ha) (by rfl)
  ·rw [hb,Bool.true_and] at fin
   rw [hb] at h3
   rcases hn : o.notes with _ | ⟨n,_ | ⟨n2,ns⟩⟩
   ·have c0 : (((0 : Nat) : Int) == 0) = true:=rfl
    have e : nte o = true:=by unfold nte; rw [hn]
    rw [e] at fin
    rw [hn] at hgm
    simp only [lt_t hlt,nneg,Int.toNat_natCast,aiaddr,hjm,hgm,PI.cells,List.map_nil,List.length_nil,h1,m1,h3,ha,hc,e1,eES,eEX,seval]
    exact fin _ (by exact h1) (by rfl) (by exact ha) (by rfl)
   ·obtain ⟨kd,b',t,l,p,s,r,hv,htl,h3',h4',h5',h6'⟩:=v0_of (ho.notes n (by rw [hn]; simp)) hM
    have c0 : (((1 : Nat) : Int) == 0) = false:=rfl
    have c1 : (((1 : Nat) : Int) == 1) = true:=rfl
    have e : nte o = (n.name == alias && fitv 7 kd b' t l p s r):=by
     unfold nte
     rw [hn]
     show (n.name == alias && nok n.val) = _
     rw [hv]
     rfl
    have en : elemV n.cells = .agg [.str n.name,.int .i64 kd,.int .u64 ((b' : Nat) : Int),.str t,.list l,.list p,.list s,.list r]:=by
     rw [PN.cells,hv]; rfl
    have hne : (n.name == [97,108,105,97,115]) = (n.name == alias):=rfl
    have hck:=z73 kd b' t l p s r (by simp only [maxLen]; omega)
    simp only [nv] at hck
    rw [e] at fin
    rw [hn] at hgm
    simp only [List.map_cons,List.map_nil,en] at hgm
    simp only [lt_t hlt,nneg,Int.toNat_natCast,aiaddr,hjm,hgm,PI.cells,List.length_cons,List.length_nil,Nat.zero_add,z0,z1,List.getElem?_cons_zero,astr,hne,h1,m1,h3,ha,hc,eES,eEX,seval]
    by_cases hal : n.name = alias
    ·have b0 : (n.name == alias) = true:=by simp [hal]
     rw [← hal] at hck
     rw [b0,Bool.true_and] at fin
     simp only [b0,eES,seval]
     refine aops_call hck rfl rfl rfl (.inl rfl) ?_
     cases hfv : fitv 7 kd b' t l p s r
     ·rw [hfv] at fin
      have d0 : ((12 : Int) == 0) = false:=rfl
      simp only [Bool.false_eq_true,d0,hc,e1,eES,seval]
      exact fin _ (by exact h1) (by rfl) (by exact ha) (by rfl)
     ·rw [hfv] at fin
      have d0 : ((0 : Int) == 0) = true:=rfl
      simp only [d0,hc,e1,eES,seval]
      exact fin _ (by exact h1) (by rfl) (by exact ha) (by rfl)
    ·have b0 : (n.name == alias) = false:=by simp [hal]
     rw [b0,Bool.false_and] at fin
     simp only [b0,hc,e1,eES,seval]
     exact fin _ (by exact h1) (by rfl) (by exact ha) (by rfl)
   ·have c0 : ((((ns.length + 1 + 1 : Nat)) : Int) == 0) = false:=by rw [beq_eq_false_iff_ne]; omega
    have c1 : ((((ns.length + 1 + 1 : Nat)) : Int) == 1) = false:=by rw [beq_eq_false_iff_ne]; omega
    have e : nte o = false:=by unfold nte; rw [hn]
    rw [e] at fin
    rw [hn] at hgm
    simp only [List.map_cons] at hgm
    simp only [lt_t hlt,nneg,Int.toNat_natCast,aiaddr,hjm,hgm,PI.cells,List.length_cons,List.length_map,c0,c1,h1,m1,h3,ha,hc,e1,eES,eEX,seval]
    exact fin _ (by exact h1) (by rfl) (by exact ha) (by rfl)
 ·have hf : (x.items.take i).all nte = x.items.all nte:=by rw [List.take_of_length_le (by omega)]
  rw [hf] at h3
  simp only [lt_f hlt,eES,seval]
  exact hx _ (by exact h1) (by exact h3) (by exact ha)

theorem argo (ha : f 4 = .int .i64 0) (hx : ∀ f,f 1 = .ptr 0 1 0 → f 3 = .bool (b && P.enums.all argE) → Q (.exit 0) (⟨f,[fr],[]⟩ : St)) : awp Tryz.prog (.loop l36_1) ⟨f,[fr],[]⟩ Q:=by
 let I : Nat → St → Prop:=fun k st => ∃ f i,st = ⟨f,[fr],[]⟩ ∧ k = P.enums.length - i ∧ i ≤ P.enums.length ∧ f 1 = .ptr 0 1 0 ∧ f 3 = .bool (b && (P.enums.take i).all argE) ∧ f 4 = .int .i64 (i : Nat)
 have m1':=m1
 refine awp_loop I _ ⟨f,0,rfl,rfl,Nat.zero_le _,h1,by rw [h3]; simp,ha⟩ ?_
 clear h1 h3 ha
 simp only [Pc] at m1
 rintro _ st ⟨f,i,rfl,rfl,hi,h1,h3,ha⟩
 simp only [List.length_map,h1,m1,ha,eES,eEX,seval]
 by_cases hlt : i < P.enums.length
 ·obtain ⟨x,hg⟩ : ∃ x,P.enums[i]? = some x:=⟨P.enums[i],List.getElem?_eq_getElem hlt⟩
  have hgm : (P.enums.map eav)[i]? = some (.agg x.cells):=by simp [hg,eav]
  have e1:=wi64_s i _ hlt hP.len2
  have ht:=take_all (q:=argE) hg
  have hq : argE x = (x.notes.isEmpty && x.items.all nte):=rfl
  have hie : ((x.notes.length : Int) == 0) = x.notes.isEmpty:=by
   cases x.notes with
   | nil => rfl
   | cons a l => simp; omega
  have fin : ∀ f' : Fr,f' 1 = .ptr 0 1 0 → f' 3 = .bool (((b && (P.enums.take i).all argE) && x.notes.isEmpty) && x.items.all nte) → f' 4 = .int .i64 ((i + 1 : Nat) : Int) → ∃ k,k < P.enums.length - i ∧ I k ⟨f',[fr],[]⟩:=by
   intro f' a1 a3 a4
   exact ⟨P.enums.length - (i + 1),by omega,f',i + 1,rfl,rfl,by omega,a1,by rw [a3,ht,hq,Bool.and_assoc,Bool.and_assoc],a4⟩
  simp only [PE.cells] at hgm
  cases hb : (b && (P.enums.take i).all argE)
  ·rw [hb,Bool.false_and] at fin
   rw [hb] at h3
   simp only [lt_t hlt,h3,eES,seval]
   refine argi hM P hP fr m1' _ false (by exact h1) (by rfl) _ i x hg (by exact ha) (by rfl) (fun f h1 h3 ha => ?_)
   simp only [ha,e1,eES,seval]
   exact fin _ (by exact h1) (by exact h3) (by rfl)
  ·rw [hb,Bool.true_and] at fin
   rw [hb] at h3
   simp only [lt_t hlt,nneg,Int.toNat_natCast,aiaddr,hgm,List.length_map,hie,h1,m1,h3,ha,eES,eEX,seval]
   refine argi hM P hP fr m1' _ x.notes.isEmpty (by exact h1) (by rfl) _ i x hg (by exact ha) (by rfl) (fun f h1 h3 ha => ?_)
   simp only [ha,e1,eES,seval]
   exact fin _ (by exact h1) (by exact h3) (by rfl)
 ·have hf : (P.enums.take i).all argE = P.enums.all argE:=by rw [List.take_of_length_le (by omega)]
  rw [hf] at h3
  simp only [lt_f hlt,eES,seval]
  exact hx _ (by exact h1) (by exact h3)

theorem argp (j : Nat) (x : PG) (hj : P.progs[j]? = some x) (ha : f 7 = .int .i64 (j : Nat)) (hc : f 8 = .int .i64 0) (hx : ∀ f,f 1 = .ptr 0 1 0 → f 3 = .bool (b && x.ops.all fun o => arg1 P o && uok o) → f 7 = .int .i64 (j : Nat) → Q (.exit 6) (⟨f,[fr],[]⟩ : St)) : awp Tryz.prog (.loop l36_2) ⟨f,[fr],[]⟩ Q:=by
 let I : Nat → St → Prop:=fun k st => ∃ f i,st = ⟨f,[fr],[]⟩ ∧ k = x.ops.length - i ∧ i ≤ x.ops.length ∧ f 1 = .ptr 0 1 0 ∧ f 3 = .bool (b && (x.ops.take i).all fun o => arg1 P o && uok o) ∧ f 7 = .int .i64 (j : Nat) ∧ f 8 = .int .i64 (i : Nat)
 have hjm : (P.progs.map gav)[j]? = some (.agg x.cells):=by simp [hj,gav]
 have hxo:=hP.progs x (List.mem_of_getElem? hj)
 refine awp_loop I _ ⟨f,0,rfl,rfl,Nat.zero_le _,h1,by rw [h3]; simp,ha,hc⟩ ?_
 clear h1 h3 ha hc
 simp only [Pc] at m1
 simp only [PG.cells] at hjm
 rintro _ st ⟨f,i,rfl,rfl,hi,h1,h3,ha,hc⟩
 simp only [nneg,Int.toNat_natCast,aiaddr,hjm,List.length_map,h1,m1,ha,hc,eES,eEX,seval]
 by_cases hlt : i < x.ops.length
 ·obtain ⟨o,hg⟩ : ∃ o,x.ops[i]? = some o:=⟨x.ops[i],List.getElem?_eq_getElem hlt⟩
  have hgm : (x.ops.map fun o => AV.agg o.cells)[i]? = some (.agg o.cells):=by simp [hg]
  have e1:=wi64_s i _ hlt hxo.len
  have hal : o.alias.length + 8 ≤ maxLen:=by have:=(hxo.ops o (List.mem_of_getElem? hg)).alias; simp only [maxLen]; omega
  have hop : Fn1 Tryz.prog 75 [.agg [.list (P.progs.map gav),.list (P.enums.map eav)],oav o] (.bool (arg1 P o && uok o)):=z75 P o hal
  have ht:=take_all (q:=fun o => arg1 P o && uok o) hg
  have fin : ∀ f' : Fr,f' 1 = .ptr 0 1 0 → f' 3 = .bool ((b && (x.ops.take i).all fun o => arg1 P o && uok o) && (arg1 P o && uok o)) → f' 7 = .int .i64 (j : Nat) → f' 8 = .int .i64 ((i + 1 : Nat) : Int) → ∃ k,k < x.ops.length - i ∧ I k ⟨f',[fr],[]⟩:=by
   intro f' a1 a3 a4 a5
   exact ⟨x.ops.length - (i + 1),by omega,f',i + 1,rfl,rfl,by omega,a1,by rw [a3,ht,Bool.and_assoc],a4,a5⟩
  simp only [oav,PO.cells] at hgm hop
  cases hb : (b && (x.ops.take i).all fun o => arg1 P o && uok o)
  ·rw [hb] at fin h3
   simp only [lt_t hlt,PO.cells,h3,hc,e1,eES,seval]
   exact fin _ (by exact h1) (by rfl) (by exact ha) (by rfl)
  ·rw [hb,Bool.true_and] at fin
   rw [hb] at h3
   simp only [lt_t hlt,nneg,Int.toNat_natCast,aiaddr,hjm,hgm,PO.cells,h1,m1,h3,ha,hc,eES,eEX,seval]
   refine aops_call hop rfl rfl rfl (.inl rfl) ?_
   simp only [hc,e1,eES,seval]
   exact fin _ (by exact h1) (by rfl) (by exact ha) (by rfl)
 ·have hf : (x.ops.take i).all (fun o => arg1 P o && uok o) = x.ops.all fun o => arg1 P o && uok o:=by rw [List.take_of_length_le (by omega)]
  rw [hf] at h3
  simp only [lt_f hlt,eES,seval]
  exact hx _ (by exact h1) (by exact h3) (by exact ha)

theorem argP (hl : ∀ g ∈ P.progs,g.ops.length ≤ 64) (ha : f 7 = .int .i64 0) (hx : ∀ f,f 1 = .ptr 0 1 0 → f 3 = .bool (b && P.progs.all (argG P)) → Q (.exit 4) (⟨f,[fr],[]⟩ : St)) : awp Tryz.prog (.loop l36_3) ⟨f,[fr],[]⟩ Q:=by
 let I : Nat → St → Prop:=fun k st => ∃ f i,st = ⟨f,[fr],[]⟩ ∧ k = P.progs.length - i ∧ i ≤ P.progs.length ∧ f 1 = .ptr 0 1 0 ∧ f 3 = .bool (b && (P.progs.take i).all (argG P)) ∧ f 7 = .int .i64 (i : Nat)
 have m1':=m1
 refine awp_loop I _ ⟨f,0,rfl,rfl,Nat.zero_le _,h1,by rw [h3]; simp,ha⟩ ?_
 clear h1 h3 ha
 simp only [Pc] at m1
 rintro _ st ⟨f,i,rfl,rfl,hi,h1,h3,ha⟩
 simp only [List.length_map,h1,m1,ha,eES,eEX,seval]
 by_cases hlt : i < P.progs.length
 ·obtain ⟨x,hg⟩ : ∃ x,P.progs[i]? = some x:=⟨P.progs[i],List.getElem?_eq_getElem hlt⟩
  have hgm : (P.progs.map gav)[i]? = some (.agg x.cells):=by simp [hg,gav]
  have e1:=wi64_s i _ hlt hP.len1
  have ht:=take_all (q:=argG P) hg
  have hq : argG P x = (uniB x && x.ops.all fun o => arg1 P o && uok o):=rfl
  have hjo:=z74 x (Nat.le_trans (hl x (List.mem_of_getElem? hg)) (by decide))
  have fin : ∀ f' : Fr,f' 1 = .ptr 0 1 0 → f' 3 = .bool (((b && (P.progs.take i).all (argG P)) && uniB x) && x.ops.all fun o => arg1 P o && uok o) → f' 7 = .int .i64 ((i + 1 : Nat) : Int) → ∃ k,k < P.progs.length - i ∧ I k ⟨f',[fr],[]⟩:=by
   intro f' a1 a3 a4
   exact ⟨P.progs.length - (i + 1),by omega,f',i + 1,rfl,rfl,by omega,a1,by rw [a3,ht,hq,Bool.and_assoc,Bool.and_assoc],a4⟩
  simp only [gav,PG.cells] at hgm hjo
  cases hb : (b && (P.progs.take i).all (argG P))
  ·rw [hb,Bool.false_and] at fin
   rw [hb] at h3
   simp only [lt_t hlt,h3,eES,seval]
   refine argp hM P hP fr m1' _ false (by exact h1) (by rfl) _ i x hg (by exact ha) (by rfl) (fun f h1 h3 ha => ?_)
   simp only [ha,e1,eES,seval]
   exact fin _ (by exact h1) (by exact h3) (by rfl)
  ·rw [hb,Bool.true_and] at fin
   rw [hb] at h3
   simp only [lt_t hlt,nneg,Int.toNat_natCast,aiaddr,hgm,h1,m1,h3,ha,eES,eEX,seval]
   refine aops_call hjo rfl rfl rfl (.inl rfl) ?_
   simp only [eES,seval]
   refine argp hM P hP fr m1' _ (uniB x) (by exact h1) (by rfl) _ i x hg (by exact ha) (by rfl) (fun f h1 h3 ha => ?_)
   simp only [ha,e1,eES,seval]
   exact fin _ (by exact h1) (by exact h3) (by rfl)
 ·have hf : (P.progs.take i).all (argG P) = P.progs.all (argG P):=by rw [List.take_of_length_le (by omega)]
  rw [hf] at h3
  simp only [lt_f hlt,eES,seval]
  exact hx _ (by exact h1) (by exact h3)

end

theorem z36 {M : Nat} (hM : M ≤ 140737488351232) (P : PL) (hP : P.ok M) (hl : ∀ g ∈ P.progs,g.ops.length ≤ 64) : Fn1 Tryz.prog 36 [P.av] (.bool (args P)):=by
 have e0 : P.av = .agg [.list (P.progs.map gav),.list (P.enums.map eav)]:=rfl
 have e : args P = (P.enums.all argE && P.progs.all (argG P)):=Bool.and_comm _ _
 refine k36.fn (by simp) ?_
 simp only [e0,eES,eEX,seval]
 refine argo hM P hP _ (by rfl) _ true (by rfl) (by rfl) _ (by rfl) (fun f h1 h3 => ?_)
 simp only [eES,seval]
 refine argP hM P hP _ (by rfl) _ _ (by exact h1) (by exact h3) _ hl (by rfl) (fun f h1 h3 => ?_)
 simp only [h3,e,Bool.true_and,eES,seval]


section
variable {M : Nat} (P : PL) (hP : P.ok M) (fr : Nat → Ob) (m1 : fr 1 = .cells (Pc P)) (f : Fr) (b : Bool) (h1 : f 1 = .ptr 0 1 0) (h3 : f 3 = .bool b) (Q : Exit → St → Prop)
include hP m1 h1 h3

theorem rngi (j : Nat) (x : PG) (hj : P.progs[j]? = some x) (ha : f 4 = .int .i64 (j : Nat)) (hc : f 5 = .int .i64 0) (hx : ∀ f,f 1 = .ptr 0 1 0 → f 3 = .bool (b && x.ops.all rngO) → f 4 = .int .i64 (j : Nat) → Q (.exit 2) (⟨f,[fr],[]⟩ : St)) : awp Tryz.prog (.loop l35_0) ⟨f,[fr],[]⟩ Q:=by
 let I : Nat → St → Prop:=fun k st => ∃ f i,st = ⟨f,[fr],[]⟩ ∧ k = x.ops.length - i ∧ i ≤ x.ops.length ∧ f 1 = .ptr 0 1 0 ∧ f 3 = .bool (b && (x.ops.take i).all rngO) ∧ f 4 = .int .i64 (j : Nat) ∧ f 5 = .int .i64 (i : Nat)
 have hjm : (P.progs.map gav)[j]? = some (.agg x.cells):=by simp [hj,gav]
 have hxo:=hP.progs x (List.mem_of_getElem? hj)
 refine awp_loop I _ ⟨f,0,rfl,rfl,Nat.zero_le _,h1,by rw [h3]; simp,ha,hc⟩ ?_
 clear h1 h3 ha hc
 simp only [Pc] at m1
 simp only [PG.cells] at hjm
 rintro _ st ⟨f,i,rfl,rfl,hi,h1,h3,ha,hc⟩
 simp only [nneg,Int.toNat_natCast,aiaddr,hjm,List.length_map,h1,m1,ha,hc,eES,eEX,seval]
 by_cases hlt : i < x.ops.length
 ·obtain ⟨o,hg⟩ : ∃ o,x.ops[i]? = some o:=⟨x.ops[i],List.getElem?_eq_getElem hlt⟩
  have hgm : (x.ops.map fun o => AV.agg o.cells)[i]? = some (.agg o.cells):=by simp [hg]
  have e1:=wi64_s i _ hlt hxo.len
  have ht:=take_all (q:=rngO) hg
  have hq : rngO o = (decide (o.num ≥ 1) && decide (o.num ≤ 65535)):=rfl
  have fin : ∀ f' : Fr,f' 1 = .ptr 0 1 0 → f' 3 = .bool ((b && (x.ops.take i).all rngO) && rngO o) → f' 4 = .int .i64 (j : Nat) → f' 5 = .int .i64 ((i + 1 : Nat) : Int) → ∃ k,k < x.ops.length - i ∧ I k ⟨f',[fr],[]⟩:=by
   intro f' a1 a3 a4 a5
   exact ⟨x.ops.length - (i + 1),by omega,f',i + 1,rfl,rfl,by omega,a1,by rw [a3,ht,Bool.and_assoc],a4,a5⟩
  simp only [PO.cells] at hgm
  cases hb : (b && (x.ops.take i).all rngO)
  ·rw [hb] at fin h3
   simp only [lt_t hlt,nneg,Int.toNat_natCast,aiaddr,hjm,hgm,PO.cells,h1,m1,h3,ha,hc,e1,eES,eEX,seval]
   exact fin _ (by exact h1) (by rfl) (by exact ha) (by rfl)
  ·rw [hb,Bool.true_and,hq] at fin
   rw [hb] at h3
   cases a1 : decide (o.num ≥ 1)
   ·rw [a1] at fin
    simp only [lt_t hlt,nneg,Int.toNat_natCast,aiaddr,hjm,hgm,PO.cells,a1,h1,m1,h3,ha,hc,e1,eES,eEX,seval]
    exact fin _ (by exact h1) (by rfl) (by exact ha) (by rfl)
   ·rw [a1,Bool.true_and] at fin
    simp only [lt_t hlt,nneg,Int.toNat_natCast,aiaddr,hjm,hgm,PO.cells,a1,h1,m1,h3,ha,hc,e1,eES,eEX,seval]
    exact fin _ (by exact h1) (by rfl) (by exact ha) (by rfl)
 ·have hf : (x.ops.take i).all rngO = x.ops.all rngO:=by rw [List.take_of_length_le (by omega)]
  rw [hf] at h3
  simp only [lt_f hlt,eES,seval]
  exact hx _ (by exact h1) (by exact h3) (by exact ha)

theorem rngo (ha : f 4 = .int .i64 0) (hx : ∀ f,f 1 = .ptr 0 1 0 → f 3 = .bool (b && P.progs.all fun g => g.ops.all rngO) → Q (.exit 0) (⟨f,[fr],[]⟩ : St)) : awp Tryz.prog (.loop l35_1) ⟨f,[fr],[]⟩ Q:=by
 let I : Nat → St → Prop:=fun k st => ∃ f i,st = ⟨f,[fr],[]⟩ ∧ k = P.progs.length - i ∧ i ≤ P.progs.length ∧ f 1 = .ptr 0 1 0 ∧ f 3 = .bool (b && (P.progs.take i).all fun g => g.ops.all rngO) ∧ f 4 = .int .i64 (i : Nat)
 have m1':=m1
 refine awp_loop I _ ⟨f,0,rfl,rfl,Nat.zero_le _,h1,by rw [h3]; simp,ha⟩ ?_
 clear h1 h3 ha
 simp only [Pc] at m1
 rintro _ st ⟨f,i,rfl,rfl,hi,h1,h3,ha⟩
 simp only [List.length_map,h1,m1,ha,eES,eEX,seval]
 by_cases hlt : i < P.progs.length
 ·obtain ⟨x,hg⟩ : ∃ x,P.progs[i]? = some x:=⟨P.progs[i],List.getElem?_eq_getElem hlt⟩
  have e1:=wi64_s i _ hlt hP.len1
  have ht:=take_all (q:=fun g : PG => g.ops.all rngO) hg
  simp only [lt_t hlt,eES,seval]
  refine rngi P hP fr m1' _ (b && (P.progs.take i).all fun g => g.ops.all rngO) (by exact h1) (by exact h3) _ i x hg (by exact ha) (by rfl) (fun f h1 h3 ha => ?_)
  simp only [ha,e1,eES,seval]
  exact ⟨P.progs.length - (i + 1),by omega,_,i + 1,rfl,rfl,by omega,(by exact h1),by rw [ht,← Bool.and_assoc] <;> first | exact h3 | simp only [h3,eES,eEX,seval],(by rfl)⟩
 ·have hf : (P.progs.take i).all (fun g => g.ops.all rngO) = P.progs.all fun g => g.ops.all rngO:=by rw [List.take_of_length_le (by omega)]
  rw [hf] at h3
  simp only [lt_f hlt,eES,seval]
  exact hx _ (by exact h1) (by exact h3)

end

def rqi (x : PE) (i : Nat) : Bool:=match x.items[i]? with
 | some o => (i != 0 || o.num == 0) && rngI x o
 | none => true

theorem rqi_all (x : PE) : allU (rqi x) x.items.length = (frst x && x.items.all (rngI x)):=by
 rw [Bool.eq_iff_iff,Bool.and_eq_true,allU_iff,List.all_eq_true]
 constructor
 ·intro h
  refine ⟨?_,fun o ho => ?_⟩
  ·unfold frst
   cases hi : x.items with
   | nil => rfl
   | cons a l =>
    have:=h 0 (by rw [hi]; simp)
    unfold rqi at this
    rw [hi] at this
    simp only [List.getElem?_cons_zero,Bool.and_eq_true] at this
    simpa using this.1
  ·obtain ⟨i,hi⟩:=List.mem_iff_getElem?.1 ho
   have:=h i (List.getElem?_eq_some_iff.1 hi).1
   unfold rqi at this
   rw [hi] at this
   simp only [Bool.and_eq_true] at this
   exact this.2
 ·rintro ⟨h1,h2⟩ i _
  unfold rqi
  cases hg : x.items[i]? with
  | none => rfl
  | some o =>
   simp only [Bool.and_eq_true]
   refine ⟨?_,h2 o (List.mem_of_getElem? hg)⟩
   cases i with
   | zero =>
    unfold frst at h1
    cases hx : x.items with
    | nil => rw [hx] at hg; cases hg
    | cons a l =>
     rw [hx] at h1 hg
     cases hg
     simpa using h1
   | succ k => rfl

section
variable (x : PE) (hl1 : x.items.length ≤ maxLen) (hl : x.free.length ≤ maxLen) (P : PL) (f : Fr) (b : Bool) (j : Nat) (fr : Nat → Ob) (h1 : f 1 = .ptr 0 1 0) (h3 : f 3 = .bool b) (h7 : f 7 = .int .i64 (j : Nat)) (h8 : f 8 = .ptr 0 8 0) (m1 : fr 1 = .cells (Pc P)) (m8 : fr 8 = .cells x.cells) (Q : Exit → St → Prop)
include hl1 hl h1 h3 h7 h8 m8

theorem rngI_loop (hc : f 9 = .int .i64 0) (hx : ∀ f,f 1 = .ptr 0 1 0 → f 3 = .bool (b && (frst x && x.items.all (rngI x))) → f 7 = .int .i64 (j : Nat) → f 8 = .ptr 0 8 0 → Q (.exit 6) (⟨f,[fr],[]⟩ : St)) : awp Tryz.prog (.loop l35_2) ⟨f,[fr],[]⟩ Q:=by
 let I : Nat → St → Prop:=fun k st => ∃ f i,st = ⟨f,[fr],[]⟩ ∧ k = x.items.length - i ∧ i ≤ x.items.length ∧ f 1 = .ptr 0 1 0 ∧ f 3 = .bool (b && allU (rqi x) i) ∧ f 7 = .int .i64 (j : Nat) ∧ f 8 = .ptr 0 8 0 ∧ f 9 = .int .i64 (i : Nat)
 refine awp_loop I _ ⟨f,0,rfl,rfl,Nat.zero_le _,h1,by rw [h3]; simp [allU],h7,h8,hc⟩ ?_
 clear h1 h3 h7 h8 hc
 simp only [PE.cells] at m8
 rintro _ st ⟨f,i,rfl,rfl,hi,h1,h3,h7,h8,hc⟩
 simp only [List.length_map,m8,h8,hc,eES,eEX,seval]
 by_cases hlt : i < x.items.length
 ·obtain ⟨o,hg⟩ : ∃ o,x.items[i]? = some o:=⟨x.items[i],List.getElem?_eq_getElem hlt⟩
  have hgm : (x.items.map fun o => AV.agg o.cells)[i]? = some (.agg o.cells):=by simp [hg]
  have e1:=wi64_s i _ hlt hl1
  have ht:=acc_step b (rqi x) i
  have hr : Fn1 Tryz.prog 72 [.list (x.free.map fun n => AV.agg n.cells),.int .i64 o.num] (.bool (kept x.free o.num)):=z72 x.free hl o.num
  have hq : rqi x i = ((i != 0 || o.num == 0) && (decide (o.num ≤ 2147483647) && !kept x.free o.num)):=by unfold rqi; rw [hg]; rfl
  rw [hq] at ht
  have fin : ∀ (f' : Fr) (v : Bool),((b && allU (rqi x) i) && ((i != 0 || o.num == 0) && (decide (o.num ≤ 2147483647) && !kept x.free o.num))) = v → f' 1 = .ptr 0 1 0 → f' 3 = .bool v → f' 7 = .int .i64 (j : Nat) → f' 8 = .ptr 0 8 0 → f' 9 = .int .i64 ((i + 1 : Nat) : Int) → ∃ k,k < x.items.length - i ∧ I k ⟨f',[fr],[]⟩:=by
   intro f' v hv a1 a3 a4 a5 a6
   exact ⟨x.items.length - (i + 1),by omega,f',i + 1,rfl,rfl,by omega,a1,by rw [a3,ht,hv],a4,a5,a6⟩
  simp only [PI.cells] at hgm
  cases hb : (b && allU (rqi x) i)
  ·rw [hb] at fin h3
   simp only [Bool.false_and] at fin
   simp only [lt_t hlt,nneg,Int.toNat_natCast,aiaddr,hgm,PI.cells,m8,h3,h8,hc,e1,eES,eEX,seval]
   exact fin _ _ rfl (by exact h1) (by rfl) (by exact h7) (by exact h8) (by rfl)
  ·rw [hb] at fin h3
   simp only [Bool.true_and] at fin
   cases a1 : decide (o.num ≤ 2147483647)
   ·simp only [a1,Bool.false_and,Bool.and_false] at fin
    simp only [lt_t hlt,nneg,Int.toNat_natCast,aiaddr,hgm,PI.cells,a1,m8,h3,h8,hc,e1,eES,eEX,seval]
    exact fin _ _ rfl (by exact h1) (by rfl) (by exact h7) (by exact h8) (by rfl)
   simp only [a1,Bool.true_and] at fin
   have gt : ∀ (q : Bool),(i != 0 || o.num == 0) = q → (decide ((i : Int) > 0) = true ∧ q = true) ∨ (decide ((i : Int) > 0) = false ∧ (o.num == 0) = q):=by
    intro q hq
    cases i with
    | zero => exact .inr ⟨rfl,hq⟩
    | succ k => exact .inl ⟨decide_eq_true (by omega),hq.symm⟩
   cases a2 : (i != 0 || o.num == 0)
   ·rw [a2] at fin
    simp only [Bool.false_and] at fin
    rcases gt _ a2 with ⟨g1,g2⟩ | ⟨g1,g2⟩
    ·cases g2
    ·simp only [lt_t hlt,nneg,Int.toNat_natCast,aiaddr,hgm,PI.cells,a1,g1,g2,m8,h3,h8,hc,e1,eES,eEX,seval]
     exact fin _ _ rfl (by exact h1) (by rfl) (by exact h7) (by exact h8) (by rfl)
   ·rw [a2] at fin
    simp only [Bool.true_and] at fin
    rcases gt _ a2 with ⟨g1,g2⟩ | ⟨g1,g2⟩
    all_goals
     simp only [lt_t hlt,nneg,Int.toNat_natCast,aiaddr,hgm,PI.cells,a1,g1,g2,m8,h3,h8,hc,eES,eEX,seval]
     refine aops_call hr rfl rfl rfl (.inl rfl) ?_
     simp only [hc,e1,eES,seval]
     exact fin _ _ rfl (by exact h1) (by rfl) (by exact h7) (by exact h8) (by rfl)
 ·rw [show i = x.items.length by omega,rqi_all] at h3
  simp only [lt_f hlt,eES,seval]
  exact hx _ (by exact h1) (by exact h3) (by exact h7) (by exact h8)

omit hl1 in
include m1 in
theorem rngS_loop (hc : f 11 = .int .i64 0) (hrow : ∀ s ∈ [12],(fr s).isRow = false) (hx : ∀ f fr,f 1 = .ptr 0 1 0 → f 3 = .bool (b && (x.free.all spn && adj x.free spt)) → f 7 = .int .i64 (j : Nat) → fr 1 = .cells (Pc P) → (∀ s ∈ [12,8],(fr s).isRow = false) → Q (.exit 8) (⟨f,[fr],[]⟩ : St)) : awp Tryz.prog (.loop l35_3) ⟨f,[fr],[]⟩ Q:=by
 let I : Nat → St → Prop:=fun k st => ∃ f fr i,st = ⟨f,[fr],[]⟩ ∧ k = x.free.length - i ∧ i ≤ x.free.length ∧ f 1 = .ptr 0 1 0 ∧ f 3 = .bool (b && allU (spq x.free) i) ∧ f 7 = .int .i64 (j : Nat) ∧ f 8 = .ptr 0 8 0 ∧ f 11 = .int .i64 (i : Nat) ∧ fr 1 = .cells (Pc P) ∧ fr 8 = .cells x.cells ∧ ∀ s ∈ [12],(fr s).isRow = false
 refine awp_loop I _ ⟨f,fr,0,rfl,rfl,Nat.zero_le _,h1,by rw [h3]; simp [allU],h7,h8,hc,m1,m8,hrow⟩ ?_
 clear h1 h3 h7 h8 hc m1 m8 hrow
 rintro _ st ⟨f0,fr0,i,rfl,rfl,hi,h10,h30,h70,h80,hc0,m10,m80,r12⟩
 refine awp_drops (a:=_) [12] r12 ?_
 intro f fr hf hm hn
 have h1 : f 1 = .ptr 0 1 0:=by rw [hf,h10] <;> rfl
 have h3 : f 3 = .bool (b && allU (spq x.free) i):=by rw [hf,h30] <;> rfl
 have h7 : f 7 = .int .i64 (j : Nat):=by rw [hf,h70] <;> rfl
 have h8 : f 8 = .ptr 0 8 0:=by rw [hf,h80] <;> rfl
 have hc : f 11 = .int .i64 (i : Nat):=by rw [hf,hc0] <;> rfl
 have m1 : fr 1 = .cells (Pc P):=by rw [hm 1 (by decide),m10] <;> rfl
 have m8 : fr 8 = .cells x.cells:=by rw [hm 8 (by decide),m80] <;> rfl
 have n12:=hn 12 (by decide)
 clear hf hm hn h10 h30 h70 h80 hc0 m10 m80 r12
 have m8':=m8
 simp only [PE.cells] at m8
 simp only [List.length_map,m8,h8,hc,eES,eEX,seval]
 by_cases hlt : i < x.free.length
 ·obtain ⟨y,hg⟩ : ∃ y,x.free[i]? = some y:=⟨x.free[i],List.getElem?_eq_getElem hlt⟩
  have hgm : (x.free.map fun o => AV.agg o.cells)[i]? = some (.agg y.cells):=by simp [hg]
  have e1:=wi64_s i _ hlt hl
  have ht:=acc_step b (spq x.free) i
  have hq : spq x.free i = ((decide (y.lo ≥ 0) && decide (y.hi ≤ 2147483647) && decide (y.lo ≤ y.hi)) && two x.free spt i):=by unfold spq; rw [ask_at hg]; rfl
  rw [hq] at ht
  have fin : ∀ (f' : Fr) (fr' : Nat → Ob) (v : Bool),((b && allU (spq x.free) i) && ((decide (y.lo ≥ 0) && decide (y.hi ≤ 2147483647) && decide (y.lo ≤ y.hi)) && two x.free spt i)) = v → f' 1 = .ptr 0 1 0 → f' 3 = .bool v → f' 7 = .int .i64 (j : Nat) → f' 8 = .ptr 0 8 0 → f' 11 = .int .i64 ((i + 1 : Nat) : Int) → fr' 1 = .cells (Pc P) → fr' 8 = .cells x.cells → (∀ s ∈ [12],(fr' s).isRow = false) → ∃ k,k < x.free.length - i ∧ I k ⟨f',[fr'],[]⟩:=by
   intro f' fr' v hv a1 a3 a4 a5 a6 a7 a8 a9
   exact ⟨x.free.length - (i + 1),by omega,f',fr',i + 1,rfl,rfl,by omega,a1,by rw [a3,ht,hv],a4,a5,a6,a7,a8,a9⟩
  simp only [PS.cells] at hgm
  cases hb : (b && allU (spq x.free) i)
  ·rw [hb] at fin h3
   simp only [Bool.false_and] at fin
   simp only [lt_t hlt,nneg,Int.toNat_natCast,aiaddr,hgm,PS.cells,n12,splice,List.take_succ_cons,List.take_zero,List.drop_succ_cons,List.drop_zero,List.drop_nil,List.append_nil,List.nil_append,List.length_cons,List.length_nil,m8,h3,h8,hc,e1,eES,eEX,seval]
   exact fin _ _ _ rfl (by exact h1) (by rfl) (by exact h7) (by exact h8) (by rfl) (by exact m1) (by exact m8') (by simp <;> rfl)
  rw [hb] at fin h3
  simp only [Bool.true_and] at fin
  cases a1 : decide (y.lo ≥ 0)
  ·simp only [a1,Bool.false_and] at fin
   simp only [lt_t hlt,nneg,Int.toNat_natCast,aiaddr,hgm,PS.cells,n12,splice,List.take_succ_cons,List.take_zero,List.drop_succ_cons,List.drop_zero,List.drop_nil,List.append_nil,List.nil_append,List.length_cons,List.length_nil,a1,m8,h3,h8,hc,e1,eES,eEX,seval]
   exact fin _ _ _ rfl (by exact h1) (by rfl) (by exact h7) (by exact h8) (by rfl) (by exact m1) (by exact m8') (by simp <;> rfl)
  cases a2 : decide (y.hi ≤ 2147483647)
  ·simp only [a1,a2,Bool.false_and,Bool.and_false] at fin
   simp only [lt_t hlt,nneg,Int.toNat_natCast,aiaddr,hgm,PS.cells,n12,splice,List.take_succ_cons,List.take_zero,List.drop_succ_cons,List.drop_zero,List.drop_nil,List.append_nil,List.nil_append,List.length_cons,List.length_nil,a1,a2,m8,h3,h8,hc,e1,eES,eEX,seval]
   exact fin _ _ _ rfl (by exact h1) (by rfl) (by exact h7) (by exact h8) (by rfl) (by exact m1) (by exact m8') (by simp <;> rfl)
  cases a3 : decide (y.lo ≤ y.hi)
  ·simp only [a1,a2,a3,Bool.false_and,Bool.and_false] at fin
   simp only [lt_t hlt,nneg,Int.toNat_natCast,aiaddr,hgm,PS.cells,n12,splice,List.take_succ_cons,List.take_zero,List.drop_succ_cons,List.drop_zero,List.drop_nil,List.append_nil,List.nil_append,List.length_cons,List.length_nil,a1,a2,a3,m8,h3,h8,hc,e1,eES,eEX,seval]
   exact fin _ _ _ rfl (by exact h1) (by rfl) (by exact h7) (by exact h8) (by rfl) (by exact m1) (by exact m8') (by simp <;> rfl)
  simp only [a1,a2,a3,Bool.true_and,Bool.and_true] at fin
  cases i with
  | zero =>
   have d0 : (((0 : Nat) : Int) == 0) = true:=rfl
   rw [two_zero] at fin
   simp only [lt_t hlt,nneg,Int.toNat_natCast,aiaddr,hgm,PS.cells,n12,splice,List.take_succ_cons,List.take_zero,List.drop_succ_cons,List.drop_zero,List.drop_nil,List.append_nil,List.nil_append,List.length_cons,List.length_nil,a1,a2,a3,d0,m8,h3,h8,hc,e1,eES,eEX,Nat.reduceBEq,↓reduceIte,Nat.reduceAdd,Nat.reduceLeDiff]
   exact fin _ _ _ rfl (by exact h1) (by rfl) (by exact h7) (by exact h8) (by rfl) (by exact m1) (by exact m8') (by simp <;> rfl)
  | succ k =>
   have d0 : (((k + 1 : Nat) : Int) == 0) = false:=by rw [beq_eq_false_iff_ne]; omega
   obtain ⟨z,hgz⟩ : ∃ z,x.free[k]? = some z:=⟨x.free[k]'(by omega),List.getElem?_eq_getElem (by omega)⟩
   have hgzm : (x.free.map fun o => AV.agg o.cells)[k]? = some (.agg z.cells):=by simp [hgz]
   have w:=wp64 k _ hlt hl
   have hs : spt z y = decide (y.lo > z.hi):=rfl
   rw [two_at hgz hg,hs] at fin
   simp only [PS.cells] at hgzm
   simp only [lt_t hlt,nneg,Int.toNat_natCast,aiaddr,hgm,hgzm,w,PS.cells,n12,splice,List.take_succ_cons,List.take_zero,List.drop_succ_cons,List.drop_zero,List.drop_nil,List.append_nil,List.nil_append,List.length_cons,List.length_nil,a1,a2,a3,d0,m8,h3,h8,hc,e1,eES,eEX,seval]
   exact fin _ _ _ rfl (by exact h1) (by rfl) (by exact h7) (by exact h8) (by rfl) (by exact m1) (by exact m8') (by simp <;> rfl)
 ·rw [show i = x.free.length by omega,spq_all] at h3
  simp only [lt_f hlt,eES,seval]
  refine hx _ _ (by exact h1) (by exact h3) (by exact h7) (by exact m1) (fun s hs => ?_)
  simp at hs
  rcases hs with rfl | rfl
  ·rw [n12]; rfl
  ·rw [m8]; rfl

end

section
variable {M : Nat} (P : PL) (hP : P.ok M) (fr : Nat → Ob) (m1 : fr 1 = .cells (Pc P)) (f : Fr) (b : Bool) (h1 : f 1 = .ptr 0 1 0) (h3 : f 3 = .bool b) (Q : Exit → St → Prop)
include hP m1 h1 h3

theorem rnge (ha : f 7 = .int .i64 0) (hrow : ∀ s ∈ [12,8],(fr s).isRow = false) (hx : ∀ f fr,f 1 = .ptr 0 1 0 → f 3 = .bool (b && P.enums.all rng2) → Q (.exit 4) (⟨f,[fr],[]⟩ : St)) : awp Tryz.prog (.loop l35_4) ⟨f,[fr],[]⟩ Q:=by
 let I : Nat → St → Prop:=fun k st => ∃ f fr i,st = ⟨f,[fr],[]⟩ ∧ k = P.enums.length - i ∧ i ≤ P.enums.length ∧ f 1 = .ptr 0 1 0 ∧ f 3 = .bool (b && (P.enums.take i).all rng2) ∧ f 7 = .int .i64 (i : Nat) ∧ fr 1 = .cells (Pc P) ∧ ∀ s ∈ [12,8],(fr s).isRow = false
 refine awp_loop I _ ⟨f,fr,0,rfl,rfl,Nat.zero_le _,h1,by rw [h3]; simp,ha,m1,hrow⟩ ?_
 clear h1 h3 ha m1 hrow
 rintro _ st ⟨f0,fr0,i,rfl,rfl,hi,h10,h30,ha0,m10,hr⟩
 refine awp_drops (a:=_) [12,8] hr ?_
 intro f fr hf hm hn
 have h1 : f 1 = .ptr 0 1 0:=by rw [hf,h10] <;> rfl
 have h3 : f 3 = .bool (b && (P.enums.take i).all rng2):=by rw [hf,h30] <;> rfl
 have ha : f 7 = .int .i64 (i : Nat):=by rw [hf,ha0] <;> rfl
 have m1 : fr 1 = .cells (Pc P):=by rw [hm 1 (by decide),m10] <;> rfl
 have n12:=hn 12 (by decide)
 have n8:=hn 8 (by decide)
 clear hf hm hn h10 h30 ha0 m10 hr
 have m1':=m1
 simp only [Pc] at m1
 simp only [List.length_map,h1,m1,ha,eES,eEX,seval]
 by_cases hlt : i < P.enums.length
 ·obtain ⟨x,hg⟩ : ∃ x,P.enums[i]? = some x:=⟨P.enums[i],List.getElem?_eq_getElem hlt⟩
  have hgm : (P.enums.map eav)[i]? = some (.agg x.cells):=by simp [hg,eav]
  have e1:=wi64_s i _ hlt hP.len2
  have ht:=take_all (q:=rng2) hg
  have hq : (b && (P.enums.take (i + 1)).all rng2) = ((b && (P.enums.take i).all rng2 && (frst x && x.items.all (rngI x))) && (x.free.all spn && adj x.free spt)):=by
   rw [ht]
   unfold rng2
   cases b <;> cases (P.enums.take i).all _ <;> cases x.free.all spn <;> cases adj x.free spt <;> cases frst x <;> cases x.items.all (rngI x) <;> rfl
  have hxo:=hP.enums x (List.mem_of_getElem? hg)
  simp only [PE.cells] at hgm
  simp only [lt_t hlt,nneg,Int.toNat_natCast,aiaddr,hgm,n8,splice,List.take_succ_cons,List.take_zero,List.drop_succ_cons,List.drop_zero,List.drop_nil,List.append_nil,List.nil_append,List.length_cons,List.length_nil,h1,m1,ha,eES,eEX,seval]
  refine rngI_loop x hxo.len1 hxo.len2 _ (b && (P.enums.take i).all rng2) i _ (by exact h1) (by exact h3) (by exact ha) (by rfl) (by rfl) _ (by rfl) (fun f h1 h3 ha h8 => ?_)
  simp only [eES,seval]
  refine rngS_loop x hxo.len2 P _ _ i _ (by exact h1) (by exact h3) (by exact ha) (by exact h8) (by exact m1') (by rfl) _ (by rfl) (fun s hs => by simp at hs; subst hs; rw [upd_ne _ _ (by decide)]; first | rw [n12]; rfl | (rw [upd_ne _ _ (by decide),n12]; rfl)) (fun f fr h1 h3 ha m1 hr => ?_)
  simp only [ha,e1,eES,seval]
  exact ⟨P.enums.length - (i + 1),by omega,_,fr,i + 1,rfl,rfl,by omega,(by exact h1),by rw [hq] <;> first | exact h3 | simp only [h3,eES,eEX,seval],(by rfl),m1,hr⟩
 ·have hf : (P.enums.take i).all rng2 = P.enums.all rng2:=by rw [List.take_of_length_le (by omega)]
  rw [hf] at h3
  simp only [lt_f hlt,eES,seval]
  exact hx _ _ (by exact h1) (by exact h3)

end

theorem z35 {M : Nat} (P : PL) (hP : P.ok M) : Fn1 Tryz.prog 35 [P.av] (.bool (rng P)):=by
 have e0 : P.av = .agg [.list (P.progs.map gav),.list (P.enums.map eav)]:=rfl
 refine k35.fn (by simp) ?_
 simp only [e0,eES,eEX,seval]
 refine rngo P hP _ (by rfl) _ true (by rfl) (by rfl) _ (by rfl) (fun f h1 h3 => ?_)
 simp only [eES,seval]
 refine rnge P hP _ (by rfl) _ _ (by exact h1) (by exact h3) _ (by rfl) (fun s hs => by simp at hs; rcases hs with rfl | rfl <;> rfl) (fun f fr h1 h3 => ?_)
 simp only [h3,rng,Bool.true_and,eES,seval]



structure Fi (P : PL) (c : Nat) (B : List Bool) (a : Bool) (f : Fr) (fr : Nat → Ob) : Prop where
 h1 : f 1 = .ptr 0 1 0
 m1 : fr 1 = .cells (Pc P)
 h3 : f 3 = .vec 0 12 1 0 P.progs.length false
 m12 : fr 12 = .vec 1 1 (B.map AV.bool)
 h4 : f 4 = .bool a
 h19 : f 19 = .int .i64 (P.progs.length : Nat)
 h20 : f 20 = .int .i64 (c : Nat)
 r8 : ∀ s ∈ [8],(fr s).isRow = false

theorem Fi.drop {P : PL} {c : Nat} {B : List Bool} {a : Bool} {f f' : Fr} {fr fr' : Nat → Ob} (h : Fi P c B a f fr) (hf : ∀ i,f' i = scrs [8] (f i)) (hm : ∀ i,i ∉ [8] → fr' i = oscrs [8] (fr i)) (hn : ∀ i ∈ [8],fr' i = .none) : Fi P c B a f' fr' where
 h1:=by rw [hf,h.h1] <;> rfl
 m1:=by rw [hm 1 (by decide),h.m1] <;> rfl
 h3:=by rw [hf,h.h3] <;> rfl
 m12:=by rw [hm 12 (by decide),h.m12] <;> rfl
 h4:=by rw [hf,h.h4] <;> rfl
 h19:=by rw [hf,h.h19] <;> rfl
 h20:=by rw [hf,h.h20] <;> rfl
 r8:=fun s hs => by rw [hn s hs] <;> rfl

section
variable {M : Nat} (P : PL) (hP : P.ok M) (hl : P.progs.length ≤ 64) (hT : Tgt P) (c : Nat) (B : List Bool) (hB : B.length = P.progs.length) (a : Bool)
include hP hT hB

theorem fini (i : Nat) (g : PG) (hg : P.progs[i]? = some g) (f : Fr) (fr : Nat → Ob) (H : Fi P c B a f fr) (h5 : f 5 = .int .i64 (i : Nat)) (h6 : f 6 = .bool true) (h7 : f 7 = .int .i64 0) (Q : Exit → St → Prop)
  (hx : ∀ f fr,Fi P c B a f fr → f 5 = .int .i64 (i : Nat) → f 6 = .bool (!g.ops.any (need B)) → Q (.exit 4) (⟨f,[fr],[]⟩ : St)) : awp Tryz.prog (.loop l37_0) ⟨f,[fr],[]⟩ Q:=by
 let I : Nat → St → Prop:=fun k st => ∃ f fr j,st = ⟨f,[fr],[]⟩ ∧ k = g.ops.length - j ∧ j ≤ g.ops.length ∧ Fi P c B a f fr ∧ f 5 = .int .i64 (i : Nat) ∧ f 6 = .bool (!(g.ops.take j).any (need B)) ∧ f 7 = .int .i64 (j : Nat)
 have hgm : (P.progs.map gav)[i]? = some (.agg g.cells):=by simp [hg,gav]
 have hgo:=hP.progs g (List.mem_of_getElem? hg)
 refine awp_loop I _ ⟨f,fr,0,rfl,rfl,Nat.zero_le _,H,h5,by rw [h6]; simp,h7⟩ ?_
 clear H h5 h6 h7
 simp only [PG.cells] at hgm
 rintro _ st ⟨f0,fr0,j,rfl,rfl,hj,H0,h50,h60,h70⟩
 refine awp_drops (a:=_) [8] H0.r8 ?_
 intro f fr hf hm hn
 have H:=H0.drop hf hm hn
 have h5 : f 5 = .int .i64 (i : Nat):=by rw [hf,h50] <;> rfl
 have h6 : f 6 = .bool (!(g.ops.take j).any (need B)):=by rw [hf,h60] <;> rfl
 have h7 : f 7 = .int .i64 (j : Nat):=by rw [hf,h70] <;> rfl
 have n8:=hn 8 (by decide)
 clear hf hm hn H0 h50 h60 h70
 obtain ⟨h1,m1,h3,m12,h4,h19,h20,r8⟩:=id H
 simp only [Pc] at m1
 simp only [nneg,Int.toNat_natCast,aiaddr,hgm,List.length_map,h1,m1,h5,h7,eES,eEX,seval]
 by_cases hlt : j < g.ops.length
 ·obtain ⟨o,ho⟩ : ∃ o,g.ops[j]? = some o:=⟨g.ops[j],List.getElem?_eq_getElem hlt⟩
  have hom : (g.ops.map fun o => AV.agg o.cells)[j]? = some (.agg o.cells):=by simp [ho]
  have e1:=wi64_s j _ hlt hgo.len
  have htg:=hT g (List.mem_of_getElem? hg) o (List.mem_of_getElem? ho)
  have ht:=take_any (q:=need B) ho
  have fin2 : ∀ (f' : Fr) (fr' : Nat → Ob) (v : Bool),(!(g.ops.take j).any (need B) && !need B o) = v → Fi P c B a f' fr' → f' 5 = .int .i64 (i : Nat) → f' 6 = .bool v → f' 7 = .int .i64 ((j + 1 : Nat) : Int) → ∃ k,k < g.ops.length - j ∧ I k ⟨f',[fr'],[]⟩:=by
   intro f' fr' v hv b1 b2 b3 b4
   exact ⟨g.ops.length - (j + 1),by omega,f',fr',j + 1,rfl,rfl,by omega,b1,b2,by rw [b3,ht,Bool.not_or,hv],b4⟩
  simp only [PO.cells] at hom
  have m1' : fr 1 = .cells (Pc P):=by rw [m1] <;> rfl
  cases hb : !(g.ops.take j).any (need B)
  ·rw [hb] at fin2 h6
   simp only [Bool.false_and] at fin2
   simp only [lt_t hlt,nneg,Int.toNat_natCast,aiaddr,hgm,hom,PO.cells,n8,splice,List.take_succ_cons,List.take_zero,List.drop_succ_cons,List.drop_zero,List.drop_nil,List.append_nil,List.nil_append,List.length_cons,List.length_nil,h1,m1,h5,h6,h7,e1,eES,eEX,seval]
   exact fin2 _ _ _ rfl ⟨(by exact h1),(by exact m1'),(by exact h3),(by exact m12),(by exact h4),(by exact h19),(by exact h20),by simp <;> rfl⟩ (by exact h5) (by rfl) (by rfl)
  rw [hb] at fin2 h6
  simp only [Bool.true_and] at fin2
  cases c1 : (o.card == 1)
  ·have c1' : (o.card != 1) = true:=by rw [bne,c1]; rfl
   have hne : (!need B o) = true:=by unfold need; rw [c1]; rfl
   rw [hne] at fin2
   simp only [lt_t hlt,nneg,Int.toNat_natCast,aiaddr,hgm,hom,PO.cells,n8,splice,List.take_succ_cons,List.take_zero,List.drop_succ_cons,List.drop_zero,List.drop_nil,List.append_nil,List.nil_append,List.length_cons,List.length_nil,c1',h1,m1,h5,h6,h7,e1,eES,eEX,seval]
   exact fin2 _ _ _ rfl ⟨(by exact h1),(by exact m1'),(by exact h3),(by exact m12),(by exact h4),(by exact h19),(by exact h20),by simp <;> rfl⟩ (by exact h5) (by rfl) (by rfl)
  have c1' : (o.card != 1) = false:=by rw [bne,c1]; rfl
  cases c2 : (o.kind == 10)
  ·have c2' : (o.kind != 10) = true:=by rw [bne,c2]; rfl
   have hne : (!need B o) = true:=by unfold need; rw [c1,c2]; rfl
   rw [hne] at fin2
   simp only [lt_t hlt,nneg,Int.toNat_natCast,aiaddr,hgm,hom,PO.cells,n8,splice,List.take_succ_cons,List.take_zero,List.drop_succ_cons,List.drop_zero,List.drop_nil,List.append_nil,List.nil_append,List.length_cons,List.length_nil,c1',c2',h1,m1,h5,h6,h7,e1,eES,eEX,seval]
   exact fin2 _ _ _ rfl ⟨(by exact h1),(by exact m1'),(by exact h3),(by exact m12),(by exact h4),(by exact h19),(by exact h20),by simp <;> rfl⟩ (by exact h5) (by rfl) (by rfl)
  have c2' : (o.kind != 10) = false:=by rw [bne,c2]; rfl
  obtain ⟨t1,t2⟩:=htg (by simpa using c2)
  obtain ⟨t,hte⟩:=Int.eq_ofNat_of_zero_le t1
  obtain ⟨y,hy⟩ : ∃ y,B[t]? = some y:=⟨B[t]'(by omega),List.getElem?_eq_getElem (by omega)⟩
  have hym : (B.map AV.bool)[t]? = some (.bool y):=by simp [hy]
  have hlt2 : (t < P.progs.length) = True:=eq_true (by omega)
  have hne : (!need B o) = y:=by unfold need; rw [c1,c2,hte,Int.toNat_natCast,hy]; cases y <;> rfl
  rw [hne] at fin2
  simp only [lt_t hlt,nneg,Int.toNat_natCast,aiaddr,hgm,hom,PO.cells,n8,splice,List.take_succ_cons,List.take_zero,List.drop_succ_cons,List.drop_zero,List.drop_nil,List.append_nil,List.nil_append,List.length_cons,List.length_nil,c1',c2',hte,hym,hlt2,m12,Nat.zero_add,h1,m1,h3,h5,h6,h7,e1,eES,eEX,seval]
  exact fin2 _ _ _ rfl ⟨(by exact h1),(by exact m1'),(by exact h3),(by exact m12),(by exact h4),(by exact h19),(by exact h20),by simp <;> rfl⟩ (by exact h5) (by rfl) (by rfl)
 ·have hf : (g.ops.take j).any (need B) = g.ops.any (need B):=by rw [List.take_of_length_le (by omega)]
  rw [hf] at h6
  simp only [lt_f hlt,eES,seval]
  refine hx _ _ ⟨(by exact h1),by rw [m1] <;> rfl,(by exact h3),(by exact m12),(by exact h4),(by exact h19),(by exact h20),r8⟩ (by exact h5) (by exact h6)

end

theorem set_take {B : List Bool} {i : Nat} (h : i < B.length) (v : Bool) : ((B.set i v).take (i + 1)).all id = ((B.take i).all id && v):=by
 have h1 : (B.set i v)[i]? = some v:=List.getElem?_set_self h
 rw [take_all h1,List.take_set_of_le (Nat.le_refl _)]
 rfl

section
variable {M : Nat} (P : PL) (hP : P.ok M) (hl : P.progs.length ≤ 64) (hT : Tgt P) (c : Nat)
include hP hl hT

theorem finm (f : Fr) (fr : Nat → Ob) (H : Fi P c (its P.progs c) true f fr) (h5 : f 5 = .int .i64 0) (Q : Exit → St → Prop) (hx : ∀ f fr,Fi P c (its P.progs (c + 1)) ((its P.progs (c + 1)).all id) f fr → Q (.exit 2) (⟨f,[fr],[]⟩ : St)) : awp Tryz.prog (.loop l37_1) ⟨f,[fr],[]⟩ Q:=by
 let I : Nat → St → Prop:=fun k st => ∃ f fr i,st = ⟨f,[fr],[]⟩ ∧ k = P.progs.length - i ∧ i ≤ P.progs.length ∧ Fi P c (rnd P.progs (its P.progs c) i) (((rnd P.progs (its P.progs c) i).take i).all id) f fr ∧ f 5 = .int .i64 (i : Nat)
 refine awp_loop I _ ⟨f,fr,0,rfl,rfl,Nat.zero_le _,H,h5⟩ ?_
 clear H h5
 rintro _ st ⟨f0,fr0,i,rfl,rfl,hi,H0,h50⟩
 refine awp_drops (a:=_) [8] H0.r8 ?_
 intro f fr hf hm hn
 have H:=H0.drop hf hm hn
 have h5 : f 5 = .int .i64 (i : Nat):=by rw [hf,h50] <;> rfl
 clear hf hm hn H0 h50
 have hBl : (rnd P.progs (its P.progs c) i).length = P.progs.length:=by rw [rnd_len,its_len]
 obtain ⟨h1,m1,h3,m12,h4,h19,h20,r8⟩:=id H
 have m1':=m1
 simp only [Pc] at m1
 simp only [List.length_map,h1,m1,h5,eES,eEX,seval]
 by_cases hlt : i < P.progs.length
 ·obtain ⟨g,hg⟩ : ∃ g,P.progs[i]? = some g:=⟨P.progs[i],List.getElem?_eq_getElem hlt⟩
  have e1:=wi64_s i _ hlt (by simp only [maxLen]; omega)
  have hst : rnd P.progs (its P.progs c) (i + 1) = (rnd P.progs (its P.progs c) i).set i (!g.ops.any (need (rnd P.progs (its P.progs c) i))):=by
   rw [rnd]
   conv => lhs; unfold stp
   rw [hg]
  have htk:=set_take (B:=rnd P.progs (its P.progs c) i) (i:=i) (by omega) (!g.ops.any (need (rnd P.progs (its P.progs c) i)))
  rw [← hst] at htk
  simp only [lt_t hlt,eES,seval]
  refine fini P hP hT c _ hBl _ i g hg _ fr ⟨(by exact h1),m1',(by exact h3),m12,(by exact h4),(by exact h19),(by exact h20),r8⟩ (by exact h5) (by rfl) (by rfl) _ (fun f fr H h5 h6 => ?_)
  generalize hBB : rnd P.progs (its P.progs c) i = B at *
  generalize hv : (!g.ops.any (need B)) = v at *
  obtain ⟨h1,m1,h3,m12,h4,h19,h20,r8⟩:=H
  obtain ⟨y,hy⟩ : ∃ y,B[i]? = some y:=⟨B[i]'(by omega),List.getElem?_eq_getElem (by omega)⟩
  have hym : (B.map AV.bool)[i]? = some (.bool y):=by simp [hy]
  have ia : aiaddr [fr] 1 none (.vec 0 12 1 0 P.progs.length false) (i : Int) = some (.vptr 0 12 1 i 0):=by
   have e : Am.look [fr] 0 12 = .vec 1 1 (B.map AV.bool):=m12
   simp only [aiaddr,e,nneg,if_true,Int.toNat_natCast]
   simp; omega
  have ist : astore [fr] (.vptr 0 12 1 i 0) [.bool v] = some [upd fr 12 (.vec 1 1 ((B.map AV.bool).set i (.bool v)))]:=by
   have e : Am.look [fr] 0 12 = .vec 1 1 (B.map AV.bool):=m12
   simp only [astore,e,hym]
   simp [AV.cells,AV.rfL,AV.rf,Am.put,newElem]
  have hset : (B.map AV.bool).set i (.bool v) = (rnd P.progs (its P.progs c) (i + 1)).map AV.bool:=by rw [hst,List.map_set]
  rw [hset] at ist
  cases hal : (B.take i).all id
  ·rw [hal] at h4 htk
   simp only [ia,ist,h3,h4,h5,h6,e1,eES,eEX,seval]
   exact ⟨P.progs.length - (i + 1),by omega,_,_,i + 1,rfl,rfl,by omega,⟨(by exact h1),(by exact m1),(by exact h3),(by rfl),by rw [htk] <;> first | exact h4 | simp only [h4,Bool.false_and,eES,seval],(by exact h19),(by exact h20),fun s hs => by simp at hs; subst hs; rw [upd_ne _ _ (by decide)]; exact r8 8 (by simp)⟩,(by rfl)⟩
  ·rw [hal] at h4 htk
   simp only [ia,ist,h3,h4,h5,h6,e1,eES,eEX,seval]
   exact ⟨P.progs.length - (i + 1),by omega,_,_,i + 1,rfl,rfl,by omega,⟨(by exact h1),(by exact m1),(by exact h3),(by rfl),by rw [htk,Bool.true_and] <;> first | rfl | simp only [eES,eEX,seval],(by exact h19),(by exact h20),fun s hs => by simp at hs; subst hs; rw [upd_ne _ _ (by decide)]; exact r8 8 (by simp)⟩,(by rfl)⟩
 ·have hii : i = P.progs.length:=by omega
  subst hii
  have hits : rnd P.progs (its P.progs c) P.progs.length = its P.progs (c + 1):=rfl
  rw [hits] at H hBl m12 h4
  rw [List.take_of_length_le (by omega)] at h4
  simp only [lt_f hlt,eES,seval]
  exact hx _ _ ⟨(by exact h1),m1',(by exact h3),m12,(by exact h4),(by exact h19),(by exact h20),r8⟩

end

theorem z37 {M : Nat} (P : PL) (hP : P.ok M) (hl : P.progs.length ≤ 64) (hT : Tgt P) : Fn1 Tryz.prog 37 [P.av] (.bool (fin P)):=by
 have e0 : P.av = .agg [.list (P.progs.map gav),.list (P.enums.map eav)]:=rfl
 have hmx : P.progs.length ≤ maxLen:=by simp only [maxLen]; omega
 have hz : zeroE 1 [AV.bool false] = .bool false:=rfl
 have hr0 : (List.replicate P.progs.length (AV.bool false)) = (its P.progs 0).map AV.bool:=by simp [its]
 let A : Nat → Bool:=fun c => if c = 0 then (P.progs.length : Int) == 0 else (its P.progs c).all id
 have hA : A P.progs.length = fin P:=by
  show (if P.progs.length = 0 then (P.progs.length : Int) == 0 else (its P.progs P.progs.length).all id) = (its P.progs P.progs.length).all id
  split
  ·rename_i h
   rw [h]
   simp [its,h]
  ·rfl
 let I : Nat → St → Prop:=fun k st => ∃ f fr c,st = ⟨f,[fr],[]⟩ ∧ k = P.progs.length - c ∧ c ≤ P.progs.length ∧ Fi P c (its P.progs c) (A c) f fr
 refine k37.fn (by simp) ?_
 simp only [e0,List.length_map,eES,eEX,seval]
 refine aops_mk (n:=P.progs.length) (k:=P.progs.length) rfl rfl (Nat.le_refl _) (by omega) (by omega) rfl ?_
 simp only [hz,hr0,List.length_map,eES,eEX,seval]
 refine awp_loop I _ ⟨_,_,0,rfl,rfl,Nat.zero_le _,⟨(by rfl),(by rfl),(by rfl),(by rfl),(by rfl),(by rfl),(by rfl),by simp <;> rfl⟩⟩ ?_
 rintro _ st ⟨f0,fr0,c,rfl,rfl,hc,H0⟩
 refine awp_drops (a:=_) [8] H0.r8 ?_
 intro f fr hf hm hn
 have H:=H0.drop hf hm hn
 clear hf hm hn H0
 obtain ⟨h1,m1,h3,m12,h4,h19,h20,r8⟩:=id H
 simp only [h19,h20,eES,seval]
 by_cases hlt : c < P.progs.length
 ·have e1:=wi64_s c _ hlt hmx
  simp only [lt_t hlt,eES,seval]
  refine finm P hP hl hT c _ fr ⟨(by exact h1),m1,(by exact h3),m12,(by rfl),(by exact h19),(by exact h20),r8⟩ (by rfl) _ (fun f fr H => ?_)
  obtain ⟨h1,m1,h3,m12,h4,h19,h20,r8⟩:=H
  simp only [h20,e1,eES,seval]
  exact ⟨P.progs.length - (c + 1),by omega,_,fr,c + 1,rfl,rfl,by omega,⟨(by exact h1),m1,(by exact h3),m12,(by exact h4),(by exact h19),(by rfl),r8⟩⟩
 ·have hcc : c = P.progs.length:=by omega
  subst hcc
  rw [hA] at h4
  simp only [lt_f hlt,h4,eES,seval]

theorem z12 {M : Nat} (P : PL) (hP : P.ok M) (hM : M ≤ 140737488351232) : Fn1 Tryz.prog 12 [P.av] (.int .i64 (ck P)):=by
 have e0 : P.av = .agg [.list (P.progs.map gav),.list (P.enums.map eav)]:=rfl
 have c1:=z31 P hP
 have c2:=z32 P hP
 have c3:=z33 P hP
 have c4:=z34 P hP
 have c5:=z35 P hP
 refine k12.fn (by simp) ?_
 simp only [e0,ck,eES,eEX,seval]
 refine aops_call c1 rfl rfl rfl (.inl rfl) ?_
 cases hl : lim P
 ·simp only [Bool.not_false,eES,seval]
 obtain ⟨l1,l2,l3,l4⟩:=lim_progs hl
 have c6:=z36 hM P hP l3
 simp only [Bool.not_true,Bool.true_eq_false,eES,eEX,seval]
 refine aops_call c2 rfl rfl rfl (.inl rfl) ?_
 cases nam P
 ·simp only [Bool.not_false,eES,seval]
 simp only [Bool.not_true,Bool.true_eq_false,eES,eEX,seval]
 refine aops_call c3 rfl rfl rfl (.inl rfl) ?_
 cases ord P
 ·simp only [Bool.not_false,eES,seval]
 simp only [Bool.not_true,Bool.true_eq_false,eES,eEX,seval]
 refine aops_call c4 rfl rfl rfl (.inl rfl) ?_
 cases sin P
 ·simp only [Bool.not_false,eES,seval]
 simp only [Bool.not_true,Bool.true_eq_false,eES,eEX,seval]
 refine aops_call c5 rfl rfl rfl (.inl rfl) ?_
 cases rng P
 ·simp only [Bool.not_false,eES,seval]
 simp only [Bool.not_true,Bool.true_eq_false,eES,eEX,seval]
 refine aops_call c6 rfl rfl rfl (.inl rfl) ?_
 cases ha : args P
 ·simp only [Bool.not_false,eES,seval]
 have c7:=z37 P hP l1 (args_tgt ha)
 simp only [Bool.not_true,Bool.true_eq_false,eES,eEX,seval]
 refine aops_call c7 rfl rfl rfl (.inl rfl) ?_
 cases fin P
 ·simp only [Bool.not_false,eES,seval]
 ·simp only [Bool.not_true,Bool.true_eq_false,eES,seval]

end Go.Proofs.YtgannjophilbiaaGreatDoor.Va

namespace Go.Proofs.YtgannjophilbiaaGreatDoor.Cp
open Go Am Bt Vp

structure C where
 d : List UInt8
 a : Int
 e : Int
 dp : Int
 nd : Int
 tx : Int

def C.av (c : C) : AV:=.agg [.str c.d,.int .i64 c.a,.int .i64 c.e,.int .i64 c.dp,.int .i64 c.nd,.int .i64 c.tx]
def zc : C:=⟨[],0,0,0,0,0⟩

structure L where
 b : Int
 dp : Int
 nd : Int
 tx : Int
def L.av (l : L) : AV:=.agg [.int .i64 l.b,.int .i64 l.dp,.int .i64 l.nd,.int .i64 l.tx]

def C.sound (c : C) : Bool:=decide (0 ≤ c.a) && decide (c.a ≤ c.e) && decide (c.e ≤ (c.d.length : Int))
def C.rest (c : C) : List UInt8:=bif c.sound then (c.d.drop c.a.toNat).take (c.e.toNat - c.a.toNat) else []
def C.left (c : C) : Int:=(c.rest.length : Int)
def C.ahead (c : C) (n : Int) : C:={ c with a:=IntKind.i64.wrap (c.a + n) }

def opn (s : List UInt8) (l : L) : C × Nat :=
 if l.b < 0 ∨ l.dp < 0 ∨ l.nd < 0 ∨ l.tx < 0 then (zc,1) else if l.b < (s.length : Int) then (zc,3) else (⟨s,0,s.length,l.dp,l.nd,l.tx⟩,0)

def C.varint (c : C) : Nat × C × Nat :=
 let r:=Vp.take c.rest
 if r.2.2 = 0 then (r.1,c.ahead r.2.1,0) else (0,c,r.2.2)

end Go.Proofs.YtgannjophilbiaaGreatDoor.Cp

namespace Go.Proofs.YtgannjophilbiaaGreatDoor.Up
open Go Am Bt Vp Cp

structure R where
 num : Int
 wire : Int
 bits : Nat
 data : List UInt8
 deriving DecidableEq

def R.av (f : R) : AV:=.agg [.int .i64 f.num,.int .i64 f.wire,.int .u64 (f.bits : Nat),.str f.data]
def dat (c : C) (wire : Int) : List UInt8 × C × Nat :=
 let r:=c.varint
 if r.2.2 = 0 then
  if r.2.1.left < (r.1 : Int) then ([],c,4)
  else if (if wire = 3 then c.tx else 65536) < (r.1 : Int) then ([],c,3)
  else ((r.2.1.d.drop r.2.1.a.toNat).take r.1,r.2.1.ahead r.1,0)
 else ([],c,r.2.2)
end Go.Proofs.YtgannjophilbiaaGreatDoor.Up

namespace Go.Proofs.YtgannjophilbiaaGreatDoor.Br
open Go Am Up

theorem has_raw {M k : Nat} {cs : List AV} (h : Has Tryz.prog M k 46 cs) : ∃ f : R,((Lit.int .i64 f.num).wf = true ∧ (Lit.int .i64 f.wire).wf = true ∧ (Lit.int .u64 (f.bits : Int)).wf = true ∧ f.data.length ≤ M) ∧ .agg cs = f.av:=by
 obtain ⟨k,h⟩:=has_struct Tryz.underlying46 h
 simp only [Has.HasL] at h
 obtain ⟨_,_,rfl,h0,_,_,rfl,h1,_,_,rfl,h2,_,_,rfl,h3,rfl⟩:=h
 obtain ⟨a0,rfl,w0⟩:=has_int Tryz.underlying3 h0
 obtain ⟨a1,rfl,w1⟩:=has_int Tryz.underlying3 h1
 obtain ⟨a2,rfl,w2⟩:=has_int Tryz.underlying26 h2
 obtain ⟨a3,rfl,w3⟩:=has_str Tryz.underlying9 h3
 have hn : 0 ≤ a2:=u64_lo w2
 obtain ⟨n,rfl⟩:=Int.eq_ofNat_of_zero_le hn
 exact ⟨⟨a0,a1,n,a3⟩,⟨w0,w1,w2,w3⟩,rfl⟩


inductive V where
 | mk (k : Int) (b : Nat) (t : List UInt8) (l : List V) (p : List (V × V)) (s : List (Int × V)) (r : List R)
 deriving Inhabited

mutual
def V.cells : V → List AV
 | .mk k b t l p s r => [.int .i64 k,.int .u64 (b : Nat),.str t,.list (V.cl l),.list (V.cp p),.list (V.cs s),.list (r.map R.av)]
def V.cl : List V → List AV
 | [] => []
 | x :: l => .agg x.cells :: V.cl l
def V.cp : List (V × V) → List AV
 | [] => []
 | (a,b) :: l => .agg (a.cells ++ b.cells) :: V.cp l
def V.cs : List (Int × V) → List AV
 | [] => []
 | (n,a) :: l => .agg (.int .i64 n :: a.cells) :: V.cs l
end

def V.kd : V → Int | .mk k _ _ _ _ _ _ => k
def V.bits : V → Nat | .mk _ b _ _ _ _ _ => b
def V.text : V → List UInt8 | .mk _ _ t _ _ _ _ => t
def V.list : V → List V | .mk _ _ _ l _ _ _ => l
def V.pairs : V → List (V × V) | .mk _ _ _ _ p _ _ => p
def V.slots : V → List (Int × V) | .mk _ _ _ _ _ s _ => s
def V.raws : V → List R | .mk _ _ _ _ _ _ r => r

def V.av (v : V) : AV:=.agg v.cells
def V.pav (p : V × V) : AV:=.agg (p.1.cells ++ p.2.cells)
def V.sav (s : Int × V) : AV:=.agg (.int .i64 s.1 :: s.2.cells)

theorem V.cl_eq : ∀ l : List V,V.cl l = l.map V.av
 | [] => rfl
 | x :: l => by rw [V.cl,V.cl_eq l]; rfl
theorem V.cp_eq : ∀ l : List (V × V),V.cp l = l.map V.pav
 | [] => rfl
 | (a,b) :: l => by rw [V.cp,V.cp_eq l]; rfl
theorem V.cs_eq : ∀ l : List (Int × V),V.cs l = l.map V.sav
 | [] => rfl
 | (n,a) :: l => by rw [V.cs,V.cs_eq l]; rfl

theorem V.eta : ∀ v : V,v.cells = [.int .i64 v.kd,.int .u64 (v.bits : Nat),.str v.text,.list (v.list.map V.av),.list (v.pairs.map V.pav),.list (v.slots.map V.sav),.list (v.raws.map R.av)]
 | .mk k b t l p s r => by rw [V.cells,V.cl_eq,V.cp_eq,V.cs_eq]; rfl

theorem V.ind {P : V → Prop} (h : ∀ v : V,(∀ x ∈ v.list,P x) → (∀ x ∈ v.pairs,P x.1 ∧ P x.2) → (∀ x ∈ v.slots,P x.2) → P v) (v : V) : P v :=
 V.rec (motive_1:=P) (motive_2:=fun l => ∀ x ∈ l,P x) (motive_3:=fun p => ∀ x ∈ p,P x.1 ∧ P x.2) (motive_4:=fun s => ∀ x ∈ s,P x.2) (motive_5:=fun q => P q.1 ∧ P q.2) (motive_6:=fun q => P q.2)
  (fun k b t l p s r hl hp hs => h (.mk k b t l p s r) hl hp hs)
  (by simp) (fun a l ha hl => by simpa using ⟨ha,hl⟩)
  (by simp) (fun a l ha hl => by simp only [List.mem_cons,forall_eq_or_imp]; exact ⟨ha,hl⟩)
  (by simp) (fun a l ha hl => by simp only [List.mem_cons,forall_eq_or_imp]; exact ⟨ha,hl⟩)
  (fun a b ha hb => ⟨ha,hb⟩) (fun n a ha => ha) v

structure _root_.Go.Proofs.YtgannjophilbiaaGreatDoor.Up.R.ok (M : Nat) (f : R) : Prop where
 num : (Lit.int .i64 f.num).wf = true
 wire : (Lit.int .i64 f.wire).wf = true
 bits : (Lit.int .u64 (f.bits : Int)).wf = true
 data : f.data.length ≤ M

inductive V.ok (M : Nat) : V → Prop
 | mk {v : V} (kd : (Lit.int .i64 v.kd).wf = true) (bits : (Lit.int .u64 (v.bits : Int)).wf = true) (text : v.text.length ≤ M) (nl : v.list.length ≤ 1099511627776) (np : v.pairs.length ≤ 549755813888) (ns : v.slots.length ≤ 1099511627776) (nr : v.raws.length ≤ 70368744177664)
   (list : ∀ x ∈ v.list,V.ok M x) (keys : ∀ x ∈ v.pairs,V.ok M x.1) (vals : ∀ x ∈ v.pairs,V.ok M x.2) (nums : ∀ x ∈ v.slots,(Lit.int .i64 x.1).wf = true) (slots : ∀ x ∈ v.slots,V.ok M x.2) (raws : ∀ x ∈ v.raws,x.ok M) : V.ok M v

section
variable {M : Nat} {v : V} (h : v.ok M)
include h
theorem V.ok.kd : (Lit.int .i64 v.kd).wf = true:=by cases h; assumption
theorem V.ok.bits : (Lit.int .u64 (v.bits : Int)).wf = true:=by cases h; assumption
theorem V.ok.text : v.text.length ≤ M:=by cases h; assumption
theorem V.ok.nl : v.list.length ≤ 1099511627776:=by cases h; assumption
theorem V.ok.np : v.pairs.length ≤ 549755813888:=by cases h; assumption
theorem V.ok.ns : v.slots.length ≤ 1099511627776:=by cases h; assumption
theorem V.ok.nr : v.raws.length ≤ 70368744177664:=by cases h; assumption
theorem V.ok.list : ∀ x ∈ v.list,x.ok M:=by cases h; assumption
theorem V.ok.keys : ∀ x ∈ v.pairs,x.1.ok M:=by cases h; assumption
theorem V.ok.vals : ∀ x ∈ v.pairs,x.2.ok M:=by cases h; assumption
theorem V.ok.nums : ∀ x ∈ v.slots,(Lit.int .i64 x.1).wf = true:=by cases h; assumption
theorem V.ok.slots : ∀ x ∈ v.slots,x.2.ok M:=by cases h; assumption
theorem V.ok.raws : ∀ x ∈ v.raws,x.ok M:=by cases h; assumption
end

theorem V.cells_length (v : V) : v.cells.length = 7:=by rw [V.eta]; rfl

theorem elemV_2 {c : List AV} (h : 2 ≤ c.length) : elemV c = .agg c:=by
 match c,h with
 | _ :: _ :: _,_ => rfl

theorem has_v {M : Nat} (hM : M = reachBytes ∨ M ≤ 1048576) : ∀ {k : Nat} {cs : List AV},Has Tryz.prog M k 32 cs → ∃ v : V,v.ok M ∧ cs = v.cells:=by
 intro k
 induction k using Nat.strongRecOn with
 | ind k ih =>
 intro cs h
 cases k with
 | zero => cases h
 | succ k =>
 simp only [Has,Tryz.underlying32,Has.HasL] at h
 obtain ⟨_,_,rfl,h0,_,_,rfl,h1,_,_,rfl,h2,_,_,rfl,h3,_,_,rfl,h4,_,_,rfl,h5,_,_,rfl,h6,rfl⟩:=h
 obtain ⟨a0,rfl,w0⟩:=has_int Tryz.underlying3 h0
 obtain ⟨a1,rfl,w1⟩:=has_int Tryz.underlying26 h1
 obtain ⟨a2,rfl,w2⟩:=has_str Tryz.underlying9 h2
 have hb : 0 ≤ a1:=u64_lo w1
 obtain ⟨b,rfl⟩:=Int.eq_ofNat_of_zero_le hb
 have sl : ∀ {k0 : Nat} {t e : TypeId} {cs : List AV},k0 ≤ k → Tryz.prog.underlying t = some (.slice e) → Has Tryz.prog M k0 t cs → ∃ (k' : Nat) (l : List (List AV)),k' < k ∧ cs = [.list (l.map elemV)] ∧ (l.length ≤ M ∧ (M = reachBytes → l.length * Tryz.prog.bytesOf e ≤ M)) ∧ ∀ c ∈ l,Has Tryz.prog M k' e c:=by
  intro k0 t e cs hk hu h
  cases k0 with
  | zero => cases h
  | succ k0 =>
   simp only [Has,hu] at h
   obtain ⟨l,h1,h4,h3,h2⟩:=h
   exact ⟨k0,l,by omega,h1,⟨h2,h4.2⟩,h3⟩
 have nb : ∀ {n b : Nat} (c : Nat),(n ≤ M ∧ (M = reachBytes → n * b ≤ M)) → 1048576 ≤ c → (n * b ≤ 140737488351232 → n ≤ c) → n ≤ c:=fun c h1 h2 h3 => by
  rcases hM with e | e
  ·refine h3 (Nat.le_trans (h1.2 e) ?_)
   rw [e]
   exact Nat.le_refl _
  ·exact Nat.le_trans h1.1 (Nat.le_trans e h2)
 have y1 : Tryz.prog.bytesOf 32 = 128:=by decide +kernel
 have y2 : Tryz.prog.bytesOf 82 = 256:=by decide +kernel
 have y3 : Tryz.prog.bytesOf 49 = 136:=by decide +kernel
 have y4 : Tryz.prog.bytesOf 46 = 40:=by decide +kernel
 obtain ⟨k3,l3,b3,rfl,w3,hl3⟩:=sl (Nat.le_refl _) Tryz.underlying27 h3
 obtain ⟨k4,l4,b4,rfl,w4,hl4⟩:=sl (Nat.le_refl _) Tryz.underlying28 h4
 obtain ⟨k5,l5,b5,rfl,w5,hl5⟩:=sl (Nat.le_refl _) Tryz.underlying29 h5
 obtain ⟨k6,l6,b6,rfl,w6,hl6⟩:=sl (Nat.le_refl _) Tryz.underlying30 h6
 obtain ⟨vs,rfl,hvs⟩:=list_of (f:=V.cells) (ok:=V.ok M) fun c hc => ih k3 (by omega) (hl3 c hc)
 obtain ⟨ps,rfl,hps⟩:=list_of (l:=l4) (f:=fun p : V × V => p.1.cells ++ p.2.cells) (ok:=fun p => p.1.ok M ∧ p.2.ok M) fun c hc => by
  have h:=hl4 c hc
  cases k4 with
  | zero => cases h
  | succ k4 =>
  simp only [Has,Tryz.underlying82,Has.HasL] at h
  obtain ⟨a,_,rfl,h0,b,_,rfl,h1,rfl⟩:=h
  obtain ⟨x,hx,rfl⟩:=ih k4 (by omega) h0
  obtain ⟨y,hy,rfl⟩:=ih k4 (by omega) h1
  exact ⟨(x,y),⟨hx,hy⟩,by simp⟩
 obtain ⟨ss,rfl,hss⟩:=list_of (l:=l5) (f:=fun s : Int × V => .int .i64 s.1 :: s.2.cells) (ok:=fun s => (Lit.int .i64 s.1).wf = true ∧ s.2.ok M) fun c hc => by
  have h:=hl5 c hc
  cases k5 with
  | zero => cases h
  | succ k5 =>
  simp only [Has,Tryz.underlying49,Has.HasL] at h
  obtain ⟨_,_,rfl,h0,b,_,rfl,h1,rfl⟩:=h
  obtain ⟨a0,rfl,w0⟩:=has_int Tryz.underlying3 h0
  obtain ⟨y,hy,rfl⟩:=ih k5 (by omega) h1
  exact ⟨(a0,y),⟨w0,hy⟩,by simp⟩
 obtain ⟨rs,rfl,hrs⟩:=list_of (l:=l6) (f:=fun r : R => r.av.cells) (ok:=R.ok M) fun c hc => by
  obtain ⟨f,⟨g1,g2,g3,g4⟩,e⟩:=has_raw (hl6 c hc)
  refine ⟨f,⟨g1,g2,g3,g4⟩,?_⟩
  rw [← e]
  rfl
 refine ⟨.mk a0 b a2 vs ps ss rs,.mk w0 w1 w2 (by rw [List.length_map,y1] at w3; exact nb _ w3 (by decide) (by omega)) (by rw [List.length_map,y2] at w4; exact nb _ w4 (by decide) (by omega)) (by rw [List.length_map,y3] at w5; exact nb _ w5 (by decide) (by omega)) (by rw [List.length_map,y4] at w6; exact nb _ w6 (by decide) (by omega)) hvs (fun x hx => (hps x hx).1) (fun x hx => (hps x hx).2) (fun x hx => (hss x hx).1) (fun x hx => (hss x hx).2) hrs,?_⟩
 rw [V.eta]
 have e3 : (vs.map V.cells).map elemV = vs.map V.av:=by
  rw [List.map_map]
  exact List.map_congr_left fun c _ => elemV_2 (by rw [V.cells_length]; omega)
 have e4 : (ps.map (fun p => p.1.cells ++ p.2.cells)).map elemV = ps.map V.pav:=by
  rw [List.map_map]
  exact List.map_congr_left fun p _ => elemV_2 (by rw [List.length_append,V.cells_length]; omega)
 have e5 : (ss.map (fun s => AV.int .i64 s.1 :: s.2.cells)).map elemV = ss.map V.sav:=by
  rw [List.map_map]
  exact List.map_congr_left fun p _ => elemV_2 (by rw [List.length_cons,V.cells_length]; omega)
 have e6 : (rs.map (fun r => r.av.cells)).map elemV = rs.map R.av:=by
  rw [List.map_map]
  exact List.map_congr_left fun r _ => rfl
 rw [e3,e4,e5,e6]
 rfl

end Go.Proofs.YtgannjophilbiaaGreatDoor.Br

namespace Go.Proofs.YtgannjophilbiaaGreatDoor.Va
open Go Am Rc Bt Br

def oth (k : Int) (b : Nat) (t : List UInt8) (l p s r : List AV) : Bool :=
 (k != 11 && decide ((l.length : Int) > 0)) || (k != 12 && decide ((p.length : Int) > 0)) || (k != 10 && decide (((s.length + r.length : Nat) : Int) > 0)) || ((b : Int) != 0 && (txk k || k == 10 || k == 11 || k == 12)) || (!(t == []) && !txk k)

section
variable (k : Int) (b : Nat) (t : List UInt8) (l p s r : List AV) (hs : s.length ≤ 140737488351232) (hr : r.length ≤ 140737488351232)

set_option maxHeartbeats 2000000 in
include hs hr in
theorem z60 : Fn1 Tryz.prog 60 [vo k b t l p s r] (.bool (oth k b t l p s r)):=by
 have w : IntKind.i64.wrap ((s.length : Int) + (r.length : Int)) = ((s.length + r.length : Nat) : Int):=by simp only [wi64]; omega
 have n4 : ((b : Int) != 0) = !((b : Int) == 0):=rfl
 have n5 : (t != []) = !(t == []):=rfl
 refine k60.fn (by simp) ?_
 simp only [vo,oth,txk,n4,eES,eEX,seval]
 rcases (by omega : k = 7 ∨ k = 8 ∨ k = 10 ∨ k = 11 ∨ k = 12 ∨ (k ≠ 7 ∧ k ≠ 8 ∧ k ≠ 10 ∧ k ≠ 11 ∧ k ≠ 12)) with rfl | rfl | rfl | rfl | rfl | ⟨h7,h8,h10,h11,h12⟩
 ·have b7 : ((7 : Int) == 7) = true:=by decide
  have b8 : ((7 : Int) == 8) = false:=by decide
  have b10 : ((7 : Int) == 10) = false:=by decide
  have b11 : ((7 : Int) == 11) = false:=by decide
  have b12 : ((7 : Int) == 12) = false:=by decide
  have c10 : ((7 : Int) != 10) = true:=by decide
  have c11 : ((7 : Int) != 11) = true:=by decide
  have c12 : ((7 : Int) != 12) = true:=by decide
  have g1 : decide ((7 : Int) ≥ 10) = false:=by decide
  have g2 : decide ((7 : Int) ≤ 12) = true:=by decide
  simp only [b7,b8,b10,b11,b12,c10,c11,c12,Bool.true_and,Bool.or_false,Bool.and_false,Bool.and_true,Bool.not_true,eES,eEX,seval]
  cases a1 : decide ((l.length : Int) > 0) <;> try simp only [c12,Bool.false_or,Bool.true_or,eES,eEX,seval]
  all_goals (cases a2 : decide ((p.length : Int) > 0) <;> try simp only [c10,Bool.false_or,Bool.true_or,w,eES,eEX,seval])
  all_goals (cases a3 : decide (((s.length + r.length : Nat) : Int) > 0) <;> try simp only [Bool.false_or,Bool.true_or,eES,eEX,seval])
  all_goals (cases a4 : ((b : Int) == 0) <;> try simp only [a4,n4,Bool.not_false,Bool.not_true,astr,eES,eEX,seval])
  all_goals (cases a5 : (t == []) <;> try simp only [Bool.not_false,Bool.not_true,eES,seval])

 ·have b7 : ((8 : Int) == 7) = false:=by decide
  have b8 : ((8 : Int) == 8) = true:=by decide
  have b10 : ((8 : Int) == 10) = false:=by decide
  have b11 : ((8 : Int) == 11) = false:=by decide
  have b12 : ((8 : Int) == 12) = false:=by decide
  have c10 : ((8 : Int) != 10) = true:=by decide
  have c11 : ((8 : Int) != 11) = true:=by decide
  have c12 : ((8 : Int) != 12) = true:=by decide
  have g1 : decide ((8 : Int) ≥ 10) = false:=by decide
  have g2 : decide ((8 : Int) ≤ 12) = true:=by decide
  simp only [b7,b8,b10,b11,b12,c10,c11,c12,Bool.true_and,Bool.or_false,Bool.or_true,Bool.and_false,Bool.and_true,Bool.not_true,eES,eEX,seval]
  cases a1 : decide ((l.length : Int) > 0) <;> try simp only [c12,Bool.false_or,Bool.true_or,eES,eEX,seval]
  all_goals (cases a2 : decide ((p.length : Int) > 0) <;> try simp only [c10,Bool.false_or,Bool.true_or,w,eES,eEX,seval])
  all_goals (cases a3 : decide (((s.length + r.length : Nat) : Int) > 0) <;> try simp only [Bool.false_or,Bool.true_or,eES,eEX,seval])
  all_goals (cases a4 : ((b : Int) == 0) <;> try simp only [a4,n4,Bool.not_false,Bool.not_true,astr,eES,eEX,seval])
  all_goals (cases a5 : (t == []) <;> try simp only [Bool.not_false,Bool.not_true,eES,seval])

 ·have b7 : ((10 : Int) == 7) = false:=by decide
  have b8 : ((10 : Int) == 8) = false:=by decide
  have b10 : ((10 : Int) == 10) = true:=by decide
  have b11 : ((10 : Int) == 11) = false:=by decide
  have b12 : ((10 : Int) == 12) = false:=by decide
  have c10 : ((10 : Int) != 10) = false:=by decide
  have c11 : ((10 : Int) != 11) = true:=by decide
  have c12 : ((10 : Int) != 12) = true:=by decide
  have g1 : decide ((10 : Int) ≥ 10) = true:=by decide
  have g2 : decide ((10 : Int) ≤ 12) = true:=by decide
  simp only [b7,b8,b10,b11,b12,c10,c11,c12,Bool.true_and,Bool.false_and,Bool.or_false,Bool.or_true,Bool.and_true,Bool.not_false,eES,eEX,seval]
  cases a1 : decide ((l.length : Int) > 0) <;> try simp only [c12,Bool.false_or,Bool.true_or,eES,eEX,seval]
  all_goals (cases a2 : decide ((p.length : Int) > 0) <;> try simp only [c10,Bool.false_or,Bool.true_or,eES,eEX,seval])
  all_goals (cases a3 : decide (((s.length + r.length : Nat) : Int) > 0) <;> try simp only [a3,g1,g2,b7,b8,b10,b11,b12,c10,c11,c12,Bool.true_and,Bool.false_and,Bool.or_false,Bool.or_true,Bool.false_or,Bool.true_or,Bool.and_false,Bool.and_true,Bool.not_false,Bool.not_true,w,astr,eES,eEX,seval])
  all_goals (cases a4 : ((b : Int) == 0) <;> try simp only [a4,n4,Bool.false_or,Bool.true_or,Bool.not_false,Bool.not_true,astr,eES,eEX,seval])
  all_goals (cases a5 : (t == []) <;> try simp only [Bool.not_false,Bool.not_true,eES,seval])

 ·have b7 : ((11 : Int) == 7) = false:=by decide
  have b8 : ((11 : Int) == 8) = false:=by decide
  have b10 : ((11 : Int) == 10) = false:=by decide
  have b11 : ((11 : Int) == 11) = true:=by decide
  have b12 : ((11 : Int) == 12) = false:=by decide
  have c10 : ((11 : Int) != 10) = true:=by decide
  have c11 : ((11 : Int) != 11) = false:=by decide
  have c12 : ((11 : Int) != 12) = true:=by decide
  have g1 : decide ((11 : Int) ≥ 10) = true:=by decide
  have g2 : decide ((11 : Int) ≤ 12) = true:=by decide
  simp only [b7,b8,b10,b11,b12,c10,c11,c12,Bool.true_and,Bool.false_and,Bool.or_false,Bool.or_true,Bool.false_or,Bool.and_true,Bool.not_false,eES,eEX,seval]
  cases a1 : decide ((l.length : Int) > 0) <;> try simp only [a1,g1,g2,b7,b8,b10,b11,b12,c10,c11,c12,Bool.true_and,Bool.false_and,Bool.or_false,Bool.or_true,Bool.false_or,Bool.true_or,Bool.and_false,Bool.and_true,Bool.not_false,Bool.not_true,w,astr,eES,eEX,seval]
  all_goals (cases a2 : decide ((p.length : Int) > 0) <;> try simp only [c10,Bool.false_or,Bool.true_or,w,eES,eEX,seval])
  all_goals (cases a3 : decide (((s.length + r.length : Nat) : Int) > 0) <;> try simp only [Bool.false_or,Bool.true_or,eES,eEX,seval])
  all_goals (cases a4 : ((b : Int) == 0) <;> try simp only [a4,n4,Bool.false_or,Bool.true_or,Bool.not_false,Bool.not_true,astr,eES,eEX,seval])
  all_goals (cases a5 : (t == []) <;> try simp only [Bool.not_false,Bool.not_true,eES,seval])

 ·have b7 : ((12 : Int) == 7) = false:=by decide
  have b8 : ((12 : Int) == 8) = false:=by decide
  have b10 : ((12 : Int) == 10) = false:=by decide
  have b11 : ((12 : Int) == 11) = false:=by decide
  have b12 : ((12 : Int) == 12) = true:=by decide
  have c10 : ((12 : Int) != 10) = true:=by decide
  have c11 : ((12 : Int) != 11) = true:=by decide
  have c12 : ((12 : Int) != 12) = false:=by decide
  have g1 : decide ((12 : Int) ≥ 10) = true:=by decide
  have g2 : decide ((12 : Int) ≤ 12) = true:=by decide
  simp only [b7,b8,b10,b11,b12,c10,c11,c12,Bool.true_and,Bool.false_and,Bool.or_false,Bool.or_true,Bool.and_true,Bool.not_false,eES,eEX,seval]
  cases a1 : decide ((l.length : Int) > 0) <;> try simp only [c10,c12,Bool.false_or,Bool.true_or,w,eES,eEX,seval]
  all_goals (cases a2 : decide ((p.length : Int) > 0) <;> try simp only [a2,g1,g2,b7,b8,b10,b11,b12,c10,c11,c12,Bool.true_and,Bool.false_and,Bool.or_false,Bool.or_true,Bool.false_or,Bool.true_or,Bool.and_false,Bool.and_true,Bool.not_false,Bool.not_true,w,astr,eES,eEX,seval])
  all_goals (cases a3 : decide (((s.length + r.length : Nat) : Int) > 0) <;> try simp only [Bool.false_or,Bool.true_or,eES,eEX,seval])
  all_goals (cases a4 : ((b : Int) == 0) <;> try simp only [a4,n4,Bool.false_or,Bool.true_or,Bool.not_false,Bool.not_true,astr,eES,eEX,seval])
  all_goals (cases a5 : (t == []) <;> try simp only [Bool.not_false,Bool.not_true,eES,seval])
 ·have b7 : (k == 7) = false:=by simp [h7]
  have b8 : (k == 8) = false:=by simp [h8]
  have b10 : (k == 10) = false:=by simp [h10]
  have b11 : (k == 11) = false:=by simp [h11]
  have b12 : (k == 12) = false:=by simp [h12]
  have c10 : (k != 10) = true:=by simp [h10]
  have c11 : (k != 11) = true:=by simp [h11]
  have c12 : (k != 12) = true:=by simp [h12]
  rcases (by omega : (k ≥ 10 ∧ ¬ k ≤ 12) ∨ ¬ k ≥ 10) with ⟨q1,q2⟩ | q1
  ·have g1 : decide (k ≥ 10) = true:=decide_eq_true q1
   have g2 : decide (k ≤ 12) = false:=decide_eq_false q2
   simp only [b7,b8,b10,b11,b12,c10,c11,c12,Bool.true_and,Bool.or_false,Bool.and_false,Bool.and_true,Bool.not_false,eES,eEX,seval]
   cases a1 : decide ((l.length : Int) > 0) <;> try simp only [c12,Bool.false_or,Bool.true_or,eES,eEX,seval]
   all_goals (cases a2 : decide ((p.length : Int) > 0) <;> try simp only [c10,Bool.false_or,Bool.true_or,w,eES,eEX,seval])
   all_goals (cases a3 : decide (((s.length + r.length : Nat) : Int) > 0) <;> try simp only [Bool.false_or,Bool.true_or,eES,eEX,seval])
   all_goals (cases a4 : ((b : Int) == 0) <;> try simp only [a4,n4,g1,g2,Bool.not_false,Bool.not_true,astr,eES,eEX,seval])
   all_goals (cases a5 : (t == []) <;> try simp only [Bool.not_false,Bool.not_true,eES,seval])
  ·have g1 : decide (k ≥ 10) = false:=decide_eq_false q1
   simp only [b7,b8,b10,b11,b12,c10,c11,c12,Bool.true_and,Bool.or_false,Bool.and_false,Bool.and_true,Bool.not_false,eES,eEX,seval]
   cases a1 : decide ((l.length : Int) > 0) <;> try simp only [c12,Bool.false_or,Bool.true_or,eES,eEX,seval]
   all_goals (cases a2 : decide ((p.length : Int) > 0) <;> try simp only [c10,Bool.false_or,Bool.true_or,w,eES,eEX,seval])
   all_goals (cases a3 : decide (((s.length + r.length : Nat) : Int) > 0) <;> try simp only [Bool.false_or,Bool.true_or,eES,eEX,seval])
   all_goals (cases a4 : ((b : Int) == 0) <;> try simp only [a4,n4,g1,Bool.not_false,Bool.not_true,astr,eES,eEX,seval])
   all_goals (cases a5 : (t == []) <;> try simp only [Bool.not_false,Bool.not_true,eES,seval])

end

section
variable (k : Int) (b : Nat) (t : List UInt8) (l p s r : List AV) (hs : s.length ≤ 140737488351232) (hr : r.length ≤ 140737488351232)

set_option maxHeartbeats 2000000 in
include hs hr in
theorem z38 : Fn1 Tryz.prog 38 [vo k b t l p s r] (.bool (oth k b t l p s r)):=by
 have w : IntKind.i64.wrap ((s.length : Int) + (r.length : Int)) = ((s.length + r.length : Nat) : Int):=by simp only [wi64]; omega
 have n4 : ((b : Int) != 0) = !((b : Int) == 0):=rfl
 have n5 : (t != []) = !(t == []):=rfl
 refine k38.fn (by simp) ?_
 simp only [vo,oth,txk,n4,eES,eEX,seval]
 rcases (by omega : k = 7 ∨ k = 8 ∨ k = 10 ∨ k = 11 ∨ k = 12 ∨ (k ≠ 7 ∧ k ≠ 8 ∧ k ≠ 10 ∧ k ≠ 11 ∧ k ≠ 12)) with rfl | rfl | rfl | rfl | rfl | ⟨h7,h8,h10,h11,h12⟩
 ·have b7 : ((7 : Int) == 7) = true:=by decide
  have b8 : ((7 : Int) == 8) = false:=by decide
  have b10 : ((7 : Int) == 10) = false:=by decide
  have b11 : ((7 : Int) == 11) = false:=by decide
  have b12 : ((7 : Int) == 12) = false:=by decide
  have c10 : ((7 : Int) != 10) = true:=by decide
  have c11 : ((7 : Int) != 11) = true:=by decide
  have c12 : ((7 : Int) != 12) = true:=by decide
  have g1 : decide ((7 : Int) ≥ 10) = false:=by decide
  have g2 : decide ((7 : Int) ≤ 12) = true:=by decide
  simp only [b7,b8,b10,b11,b12,c10,c11,c12,Bool.true_and,Bool.or_false,Bool.and_false,Bool.and_true,Bool.not_true,eES,eEX,seval]
  cases a1 : decide ((l.length : Int) > 0) <;> try simp only [c11,Bool.false_or,Bool.true_or,eES,eEX,seval]
  all_goals (cases a2 : decide ((p.length : Int) > 0) <;> try simp only [c12,Bool.false_or,Bool.true_or,w,eES,eEX,seval])
  all_goals (cases a3 : decide (((s.length + r.length : Nat) : Int) > 0) <;> try simp only [Bool.false_or,Bool.true_or,Bool.not_false,eES,eEX,seval])
  all_goals (cases a4 : ((b : Int) == 0) <;> try simp only [a4,n4,Bool.not_false,Bool.not_true,astr,eES,eEX,seval])
  all_goals (cases a5 : (t == []) <;> try simp only [Bool.not_false,Bool.not_true,eES,seval])

 ·have b7 : ((8 : Int) == 7) = false:=by decide
  have b8 : ((8 : Int) == 8) = true:=by decide
  have b10 : ((8 : Int) == 10) = false:=by decide
  have b11 : ((8 : Int) == 11) = false:=by decide
  have b12 : ((8 : Int) == 12) = false:=by decide
  have c10 : ((8 : Int) != 10) = true:=by decide
  have c11 : ((8 : Int) != 11) = true:=by decide
  have c12 : ((8 : Int) != 12) = true:=by decide
  have g1 : decide ((8 : Int) ≥ 10) = false:=by decide
  have g2 : decide ((8 : Int) ≤ 12) = true:=by decide
  simp only [b7,b8,b10,b11,b12,c10,c11,c12,Bool.true_and,Bool.or_false,Bool.or_true,Bool.and_false,Bool.and_true,Bool.not_true,eES,eEX,seval]
  cases a1 : decide ((l.length : Int) > 0) <;> try simp only [c11,Bool.false_or,Bool.true_or,eES,eEX,seval]
  all_goals (cases a2 : decide ((p.length : Int) > 0) <;> try simp only [c12,Bool.false_or,Bool.true_or,w,eES,eEX,seval])
  all_goals (cases a3 : decide (((s.length + r.length : Nat) : Int) > 0) <;> try simp only [Bool.false_or,Bool.true_or,Bool.not_false,eES,eEX,seval])
  all_goals (cases a4 : ((b : Int) == 0) <;> try simp only [a4,n4,Bool.not_false,Bool.not_true,astr,eES,eEX,seval])
  all_goals (cases a5 : (t == []) <;> try simp only [Bool.not_false,Bool.not_true,eES,seval])

 ·have b7 : ((10 : Int) == 7) = false:=by decide
  have b8 : ((10 : Int) == 8) = false:=by decide
  have b10 : ((10 : Int) == 10) = true:=by decide
  have b11 : ((10 : Int) == 11) = false:=by decide
  have b12 : ((10 : Int) == 12) = false:=by decide
  have c10 : ((10 : Int) != 10) = false:=by decide
  have c11 : ((10 : Int) != 11) = true:=by decide
  have c12 : ((10 : Int) != 12) = true:=by decide
  have g1 : decide ((10 : Int) ≥ 10) = true:=by decide
  have g2 : decide ((10 : Int) ≤ 12) = true:=by decide
  simp only [b7,b8,b10,b11,b12,c10,c11,c12,Bool.true_and,Bool.false_and,Bool.or_false,Bool.or_true,Bool.and_true,Bool.not_false,eES,eEX,seval]
  cases a1 : decide ((l.length : Int) > 0) <;> try simp only [c11,Bool.false_or,Bool.true_or,eES,eEX,seval]
  all_goals (cases a2 : decide ((p.length : Int) > 0) <;> try simp only [c12,Bool.false_or,Bool.true_or,w,eES,eEX,seval])
  all_goals (cases a3 : decide (((s.length + r.length : Nat) : Int) > 0) <;> try simp only [Bool.not_true,eES,eEX,seval])
  all_goals (cases a4 : ((b : Int) == 0) <;> try simp only [a4,n4,b11,b12,Bool.false_or,Bool.true_or,Bool.not_false,Bool.not_true,astr,eES,eEX,seval])
  all_goals (cases a5 : (t == []) <;> try simp only [Bool.not_false,Bool.not_true,eES,seval])

 ·have b7 : ((11 : Int) == 7) = false:=by decide
  have b8 : ((11 : Int) == 8) = false:=by decide
  have b10 : ((11 : Int) == 10) = false:=by decide
  have b11 : ((11 : Int) == 11) = true:=by decide
  have b12 : ((11 : Int) == 12) = false:=by decide
  have c10 : ((11 : Int) != 10) = true:=by decide
  have c11 : ((11 : Int) != 11) = false:=by decide
  have c12 : ((11 : Int) != 12) = true:=by decide
  have g1 : decide ((11 : Int) ≥ 10) = true:=by decide
  have g2 : decide ((11 : Int) ≤ 12) = true:=by decide
  simp only [b7,b8,b10,b11,b12,c10,c11,c12,Bool.true_and,Bool.false_and,Bool.or_false,Bool.or_true,Bool.false_or,Bool.and_true,Bool.not_false,eES,eEX,seval]
  cases a1 : decide ((l.length : Int) > 0) <;> try simp only [c11,eES,eEX,seval]
  all_goals (cases a2 : decide ((p.length : Int) > 0) <;> try simp only [c12,Bool.false_or,Bool.true_or,w,eES,eEX,seval])
  all_goals (cases a3 : decide (((s.length + r.length : Nat) : Int) > 0) <;> try simp only [Bool.false_or,Bool.true_or,Bool.not_false,eES,eEX,seval])
  all_goals (cases a4 : ((b : Int) == 0) <;> try simp only [a4,n4,b11,Bool.false_or,Bool.true_or,Bool.not_false,Bool.not_true,astr,eES,eEX,seval])
  all_goals (cases a5 : (t == []) <;> try simp only [Bool.not_false,Bool.not_true,eES,seval])

 ·have b7 : ((12 : Int) == 7) = false:=by decide
  have b8 : ((12 : Int) == 8) = false:=by decide
  have b10 : ((12 : Int) == 10) = false:=by decide
  have b11 : ((12 : Int) == 11) = false:=by decide
  have b12 : ((12 : Int) == 12) = true:=by decide
  have c10 : ((12 : Int) != 10) = true:=by decide
  have c11 : ((12 : Int) != 11) = true:=by decide
  have c12 : ((12 : Int) != 12) = false:=by decide
  have g1 : decide ((12 : Int) ≥ 10) = true:=by decide
  have g2 : decide ((12 : Int) ≤ 12) = true:=by decide
  simp only [b7,b8,b10,b11,b12,c10,c11,c12,Bool.true_and,Bool.false_and,Bool.or_false,Bool.or_true,Bool.and_true,Bool.not_false,eES,eEX,seval]
  cases a1 : decide ((l.length : Int) > 0) <;> try simp only [c11,Bool.false_or,Bool.true_or,eES,eEX,seval]
  all_goals (cases a2 : decide ((p.length : Int) > 0) <;> try simp only [c12,w,eES,eEX,seval])
  all_goals (cases a3 : decide (((s.length + r.length : Nat) : Int) > 0) <;> try simp only [Bool.false_or,Bool.true_or,Bool.not_false,eES,eEX,seval])
  all_goals (cases a4 : ((b : Int) == 0) <;> try simp only [a4,n4,b11,b12,Bool.false_or,Bool.true_or,Bool.not_false,Bool.not_true,astr,eES,eEX,seval])
  all_goals (cases a5 : (t == []) <;> try simp only [Bool.not_false,Bool.not_true,eES,seval])
 ·have b7 : (k == 7) = false:=by simp [h7]
  have b8 : (k == 8) = false:=by simp [h8]
  have b10 : (k == 10) = false:=by simp [h10]
  have b11 : (k == 11) = false:=by simp [h11]
  have b12 : (k == 12) = false:=by simp [h12]
  have c10 : (k != 10) = true:=by simp [h10]
  have c11 : (k != 11) = true:=by simp [h11]
  have c12 : (k != 12) = true:=by simp [h12]
  rcases (by omega : (k ≥ 10 ∧ ¬ k ≤ 12) ∨ ¬ k ≥ 10) with ⟨q1,q2⟩ | q1
  ·have g1 : decide (k ≥ 10) = true:=decide_eq_true q1
   have g2 : decide (k ≤ 12) = false:=decide_eq_false q2
   simp only [b7,b8,b10,b11,b12,c10,c11,c12,Bool.true_and,Bool.or_false,Bool.and_false,Bool.and_true,Bool.not_false,eES,eEX,seval]
   cases a1 : decide ((l.length : Int) > 0) <;> try simp only [c11,Bool.false_or,Bool.true_or,eES,eEX,seval]
   all_goals (cases a2 : decide ((p.length : Int) > 0) <;> try simp only [c12,Bool.false_or,Bool.true_or,w,eES,eEX,seval])
   all_goals (cases a3 : decide (((s.length + r.length : Nat) : Int) > 0) <;> try simp only [Bool.false_or,Bool.true_or,Bool.not_false,eES,eEX,seval])
   all_goals (cases a4 : ((b : Int) == 0) <;> try simp only [a4,n4,b11,b12,Bool.not_false,Bool.not_true,astr,eES,eEX,seval])
   all_goals (cases a5 : (t == []) <;> try simp only [Bool.not_false,Bool.not_true,eES,seval])
  ·have g1 : decide (k ≥ 10) = false:=decide_eq_false q1
   simp only [b7,b8,b10,b11,b12,c10,c11,c12,Bool.true_and,Bool.or_false,Bool.and_false,Bool.and_true,Bool.not_false,eES,eEX,seval]
   cases a1 : decide ((l.length : Int) > 0) <;> try simp only [c11,Bool.false_or,Bool.true_or,eES,eEX,seval]
   all_goals (cases a2 : decide ((p.length : Int) > 0) <;> try simp only [c12,Bool.false_or,Bool.true_or,w,eES,eEX,seval])
   all_goals (cases a3 : decide (((s.length + r.length : Nat) : Int) > 0) <;> try simp only [Bool.false_or,Bool.true_or,Bool.not_false,eES,eEX,seval])
   all_goals (cases a4 : ((b : Int) == 0) <;> try simp only [a4,n4,b11,b12,Bool.not_false,Bool.not_true,astr,eES,eEX,seval])
   all_goals (cases a5 : (t == []) <;> try simp only [Bool.not_false,Bool.not_true,eES,seval])

end

theorem find_drop {α : Type} (p : α → Bool) {l : List α} {i : Nat} {x : α} (hx : l[i]? = some x) : (l.drop i).find? p = if p x = true then some x else (l.drop (i + 1)).find? p:=by
 have hlt : i < l.length:=(List.getElem?_eq_some_iff.1 hx).1
 rw [List.drop_eq_getElem_cons hlt,show l[i] = x from (List.getElem?_eq_some_iff.1 hx).2,List.find?_cons]
 cases p x <;> rfl

def zc : List AV:=[.int .i64 0,.str [],.str [],.int .i64 0,.int .i64 0,.int .i64 0,.int .i64 0,.int .i64 0]

def OpI (g : PG) (n : Int) (k : Nat) (st : St) : Prop :=
 ∃ f fr i,st = ⟨f,[fr],[]⟩ ∧ k = g.ops.length - i ∧ g.ops.find? (fun o => o.num == n) = (g.ops.drop i).find? (fun o => o.num == n) ∧ f 1 = .int .i64 n ∧ f 2 = .ptr 0 2 0 ∧ f 4 = .ptr 0 4 0 ∧ f 6 = .int .i64 (i : Nat) ∧ fr 2 = .cells g.cells ∧ fr 4 = .cells zc

theorem y40 (g : PG) (hl : g.ops.length ≤ maxLen) (n : Int) : Fn1 Tryz.prog 40 [gav g,.int .i64 n] (opr (fun o => o.num == n) g.ops):=by
 refine k40.fn (by simp) ?_
 simp only [gav,PG.cells,eES,eEX,seval]
 refine awp_loop (OpI g n) _ ⟨_,_,0,rfl,rfl,rfl,(by rfl),(by rfl),(by rfl),(by rfl),(by rfl),(by rfl)⟩ ?_
 rintro _ st ⟨f,fr,i,rfl,rfl,hx,h1,h2,h4,h6,m2,m4⟩
 simp only [PG.cells,zc] at m2 m4
 simp only [List.length_map,h2,h6,m2,eES,eEX,seval]
 by_cases hlt : i < g.ops.length
 ·obtain ⟨x,hi⟩ : ∃ x,g.ops[i]? = some x:=⟨g.ops[i],List.getElem?_eq_getElem hlt⟩
  have hg : (g.ops.map fun o => AV.agg o.cells)[i]? = some (.agg x.cells):=by simp [hi]
  have e1:=wi64_s i _ hlt hl
  rw [find_drop _ hi] at hx
  simp only [PO.cells] at hg m2
  simp only [lt_t hlt,nneg,Int.toNat_natCast,aiaddr,hg,PO.cells,h1,h2,h6,m2,eES,eEX,seval]
  cases hp : (x.num == n)
  ·rw [hp] at hx
   simp only [Bool.false_eq_true,if_false] at hx
   simp only [h6,e1,eES,seval]
   exact ⟨g.ops.length - (i + 1),by omega,_,_,i + 1,rfl,rfl,hx,(by exact h1),(by exact h2),(by exact h4),(by rfl),m2,m4⟩
  ·rw [hp] at hx
   simp only [if_true] at hx
   simp only [nneg,Int.toNat_natCast,aiaddr,hg,opr,hx,Option.getD_some,Option.isSome_some,oav,PO.cells,h2,h4,h6,m2,m4,splice,List.take_zero,List.nil_append,List.drop_succ_cons,List.drop_zero,List.drop_nil,List.append_nil,List.length_cons,List.length_nil,List.all_cons,List.all_nil,AV.leaf,eES,eEX,seval]
 ·have hx' : g.ops.find? (fun o => o.num == n) = none:=by rw [hx,List.drop_of_length_le (by omega)]; rfl
  simp only [lt_f hlt,h4,m4,opr,hx',Option.getD_none,Option.isSome_none,PO0,oav,PO.cells,splice,List.take_zero,List.nil_append,List.drop_succ_cons,List.drop_zero,List.drop_nil,List.append_nil,List.length_cons,List.length_nil,List.all_cons,List.all_nil,AV.leaf,eES,eEX,seval]


section progs
variable (L : List PG) (hl : L.length ≤ maxLen) (p : PG → Bool) (c : Nat) (cap : AV) (m : Mem)

end progs

section items
variable (L : List PI) (hl : L.length ≤ maxLen) (p : PI → Bool) (c : Nat) (cap : AV) (m : Mem)

def IxI (k : Nat) (st : St) : Prop :=
 ∃ f i,st = ⟨f,noObs :: m,[]⟩ ∧ k = L.length - i ∧ fxi p L 0 = fxi p (L.drop i) i ∧ f 0 = .list (L.map iav) ∧ f 1 = .fn (.func c) [] [cap.sh] ∧ f 7 = .int .i64 (L.length : Nat) ∧ f 8 = .int .i64 (i : Nat)

include hl in
theorem y172 (hc : ∀ o ∈ L,ACalls Tryz.prog c [iav o,cap.sh] (noObs :: m) fun y m1 => y = .bool (p o) ∧ m1 = noObs :: m) :
  ACalls Tryz.prog 172 [.list (L.map iav),.fn (.func c) [] [cap]] m fun y m1 => y = .int .i64 (fxi p L 0) ∧ m1 = m:=by
 refine k172.go (by simp) ?_
 simp only [List.length_map,eES,seval]
 refine awp_loop (IxI L p c cap m) _ ⟨_,0,rfl,rfl,rfl,(by rfl),(by rfl),(by rfl),(by rfl)⟩ ?_
 rintro _ st ⟨f,i,rfl,rfl,hx,h0,h1,h7,h8⟩
 simp only [h7,h8,eES,seval]
 by_cases hlt : i < L.length
 ·obtain ⟨x,hi⟩ : ∃ x,L[i]? = some x:=⟨L[i],List.getElem?_eq_getElem hlt⟩
  have hcl:=hc x (List.mem_of_getElem? hi)
  have hg : (L.map iav)[i]? = some (iav x):=by simp [hi]
  have e1:=wi64_s i _ hlt hl
  simp only [iav,PI.cells] at hcl
  simp only [lt_t hlt,nneg,Int.toNat_natCast,aiaddr,hg,iav,PI.cells,h0,h1,h8,eES,eEX,seval]
  refine aops_callV (fa:=[]) (fb:=[cap.sh]) (by rfl) hcl (by simp only [List.map_cons,List.map_nil,List.nil_append,List.cons_append,eES,seval]) ?_
  rw [fxi_drop p hi] at hx
  cases hp : p x
  ·rw [hp] at hx
   simp only [Bool.false_eq_true,if_false] at hx
   simp only [h8,e1,eES,seval]
   exact ⟨L.length - (i + 1),by omega,_,i + 1,rfl,rfl,hx,(by exact h0),(by exact h1),(by exact h7),(by rfl)⟩
  ·rw [hp] at hx
   simp only [if_true] at hx
   simp only [hx,eES,seval]
 ·have hx' : fxi p L 0 = -1:=by rw [hx,List.drop_of_length_le (by omega)]; rfl
  simp only [lt_f hlt,hx',eES,seval]

theorem fxi_any {α : Type} (p : α → Bool) (l : List α) : decide (fxi p l 0 ≥ 0) = l.any p:=by
 rcases fxi_spec p l 0 with ⟨h1,h2⟩ | ⟨k,o,h1,_,h3⟩
 ·rw [h1]
  have : l.any p = false:=by
   rw [List.any_eq_false]
   intro x hx
   exact fun h => by have:=List.find?_eq_none.1 h2 x hx; exact this h
  rw [this]; rfl
 ·rw [h1]
  have : l.any p = true:=List.any_eq_true.2 ⟨o,List.mem_of_find?_eq_some h3,List.find?_some h3⟩
  rw [this]
  exact decide_eq_true (by omega)

include hl in
theorem y142 (hc : ∀ o ∈ L,ACalls Tryz.prog c [iav o,cap.sh.sh] (noObs :: noObs :: m) fun y m1 => y = .bool (p o) ∧ m1 = noObs :: noObs :: m) :
  ACalls Tryz.prog 142 [.list (L.map iav),.fn (.func c) [] [cap]] m fun y m1 => y = .bool (L.any p) ∧ m1 = m:=by
 refine k142.go (by simp) ?_
 simp only [eES,seval]
 refine aops_callF (y172 L hl p c cap.sh _ hc) (by simp only [List.map_cons,List.map_nil,eES,seval]) ?_
 simp only [fxi_any,eES,seval]

end items

def pmi (b : Nat) (x : PI) : Bool:=IntKind.u64.wrap x.num == (b : Int)
def pri (b : Nat) (x : PI) : Bool:=x.num == IntKind.i64.wrap (b : Int)

theorem pmi_pri {b : Nat} {x : PI} (hb : b ≤ 2147483647) (hx : (Lit.int .i64 x.num).wf = true) : pri b x = pmi b x:=by
 have h1:=i64_lo hx
 have h2:=i64_hi hx
 unfold pri pmi
 rw [Bool.eq_iff_iff,beq_iff_eq,beq_iff_eq,wi64,wu64]
 omega

theorem y143 (x : PI) (b : Nat) (frO : Nat → Ob) (hf : frO 5 = .cells [.int .u64 (b : Nat)]) : ACalls Tryz.prog 143 [iav x,.ptr 2 5 0] [noObs,noObs,frO] fun y m1 => y = .bool (pmi b x) ∧ m1 = [noObs,noObs,frO]:=by
 refine k143.go (by simp) ?_
 simp only [hf,iav,PI.cells,pmi,eES,eEX,seval]

def acp (E : List PE) (t : Int) (b : Nat) : Bool :=
 if 0 ≤ t ∧ t < E.length ∧ b ≤ 2147483647 then
  match E[t.toNat]? with
  | some x => x.opn || x.items.any (pmi b)
  | none => false
 else false

theorem y103 {M : Nat} (P : PL) (hP : P.ok M) (t : Int) (b : Nat) : Fn1 Tryz.prog 103 [P.av,.int .i64 t,.int .u64 (b : Nat)] (.bool (acp P.enums t b)):=by
 have e0 : P.av = .agg [.list (P.progs.map gav),.list (P.enums.map eav)]:=rfl
 refine k103.fn (by simp) ?_
 simp only [e0,eES,eEX,seval]
 by_cases h1 : 0 ≤ t
 ·have d1 : decide (t < 0) = false:=decide_eq_false (by omega)
  by_cases h2 : t < P.enums.length
  ·have d2 : decide (t ≥ (P.enums.length : Int)) = false:=decide_eq_false (by omega)
   by_cases h3 : b ≤ 2147483647
   ·have d3 : decide ((b : Int) > 2147483647) = false:=decide_eq_false (by omega)
    obtain ⟨n,rfl⟩:=Int.eq_ofNat_of_zero_le h1
    have hn : n < P.enums.length:=by omega
    obtain ⟨x,hi⟩ : ∃ x,P.enums[n]? = some x:=⟨P.enums[n],List.getElem?_eq_getElem hn⟩
    have hx:=hP.enums x (List.mem_of_getElem? hi)
    have hg : (P.enums.map eav)[n]? = some (.agg x.cells):=by simp [hi,eav]
    simp only [PE.cells] at hg
    have ha : acp P.enums (n : Int) b = (x.opn || x.items.any (pmi b)):=by
     unfold acp
     rw [if_pos ⟨h1,h2,h3⟩,Int.toNat_natCast,hi]
    simp only [d1,d2,List.length_map,d3,nneg,Int.toNat_natCast,aiaddr,hg,ha,eES,eEX,seval]
    cases ho : x.opn
    ·simp only [Bool.false_or,eES,eEX,seval]
     refine aops_callF (y142 x.items hx.len1 (pmi b) 143 (.ptr 0 5 0) _ fun y _ => y143 y b _ (by rfl)) (by simp only [List.map_cons,List.map_nil,eES,seval] <;> rfl) ?_
     simp only [eES,seval]
    ·simp only [Bool.true_or,eES,seval]
   ·have d3 : decide ((b : Int) > 2147483647) = true:=decide_eq_true (by omega)
    have ha : acp P.enums t b = false:=by
     unfold acp
     rw [if_neg (by omega)]
    simp only [d1,d2,List.length_map,d3,ha,eES,eEX,seval]
  ·have d2 : decide (t ≥ (P.enums.length : Int)) = true:=decide_eq_true (by omega)
   have ha : acp P.enums t b = false:=by
    unfold acp
    rw [if_neg (by omega)]
   simp only [d1,d2,List.length_map,ha,eES,eEX,seval]
 ·have d1 : decide (t < 0) = true:=decide_eq_true (by omega)
  have ha : acp P.enums t b = false:=by
   unfold acp
   rw [if_neg (by omega)]
  simp only [d1,ha,eES,seval]

def AcI (P : PL) (L : List PI) (eo : Bool) (n b : Nat) (k : Nat) (st : St) : Prop :=
 ∃ f fr i,st = ⟨f,[fr],[]⟩ ∧ k = L.length - i ∧ f 1 = .int .i64 (n : Nat) ∧ f 2 = .int .u64 (b : Nat) ∧ f 3 = .ptr 0 3 0 ∧ fr 3 = .cells [.list (P.progs.map gav),.list (P.enums.map eav)] ∧ f 7 = .bool (eo || (L.take i).any (pri b)) ∧ f 8 = .int .i64 (i : Nat)

theorem y78 {M : Nat} (P : PL) (hP : P.ok M) (t : Int) (b : Nat) : Fn1 Tryz.prog 78 [P.av,.int .i64 t,.int .u64 (b : Nat)] (.bool (acp P.enums t b)):=by
 have e0 : P.av = .agg [.list (P.progs.map gav),.list (P.enums.map eav)]:=rfl
 refine k78.fn (by simp) ?_
 simp only [e0,eES,eEX,seval]
 by_cases h1 : 0 ≤ t
 ·have d1 : decide (t < 0) = false:=decide_eq_false (by omega)
  by_cases h2 : t < P.enums.length
  ·have d2 : decide (t ≥ (P.enums.length : Int)) = false:=decide_eq_false (by omega)
   by_cases h3 : b ≤ 2147483647
   ·have d3 : decide ((b : Int) > 2147483647) = false:=decide_eq_false (by omega)
    obtain ⟨n,rfl⟩:=Int.eq_ofNat_of_zero_le h1
    have hn : n < P.enums.length:=by omega
    obtain ⟨x,hi⟩ : ∃ x,P.enums[n]? = some x:=⟨P.enums[n],List.getElem?_eq_getElem hn⟩
    have hx:=hP.enums x (List.mem_of_getElem? hi)
    have hg : (P.enums.map eav)[n]? = some (.agg x.cells):=by simp [hi,eav]
    simp only [PE.cells] at hg
    have ha : acp P.enums (n : Int) b = (x.opn || x.items.any (pri b)):=by
     unfold acp
     rw [if_pos ⟨h1,h2,h3⟩,Int.toNat_natCast,hi]
     show (x.opn || x.items.any (pmi b)) = _
     congr 1
     rw [Bool.eq_iff_iff,List.any_eq_true,List.any_eq_true]
     constructor
     ·rintro ⟨y,hy,hp⟩
      exact ⟨y,hy,by rw [pmi_pri h3 (hx.items y hy).num]; exact hp⟩
     ·rintro ⟨y,hy,hp⟩
      exact ⟨y,hy,by rw [← pmi_pri h3 (hx.items y hy).num]; exact hp⟩
    simp only [d1,d2,List.length_map,d3,nneg,Int.toNat_natCast,aiaddr,hg,eES,eEX,seval]
    refine awp_loop (AcI P x.items x.opn n b) _ ⟨_,_,0,rfl,rfl,(by rfl),(by rfl),(by rfl),(by rfl),by simp only [List.take_zero,List.any_nil,Bool.or_false] <;> first | rfl | simp only [eES,eEX,seval],(by rfl)⟩ ?_
    rintro _ st ⟨f,fr,i,rfl,rfl,g1,g2,g3,m3,g7,g8⟩
    simp only [List.length_map,nneg,Int.toNat_natCast,aiaddr,hg,g1,g3,m3,g8,eES,eEX,seval]
    by_cases hlt : i < x.items.length
    ·obtain ⟨y,hd⟩ : ∃ y,x.items[i]? = some y:=⟨x.items[i],List.getElem?_eq_getElem hlt⟩
     have hdm : (x.items.map fun n => AV.agg n.cells)[i]? = some (.agg y.cells):=by simp [hd]
     simp only [PI.cells] at hdm
     have e1:=wi64_s i _ hlt hx.len1
     have ht : (x.opn || (x.items.take (i + 1)).any (pri b)) = ((x.opn || (x.items.take i).any (pri b)) || pri b y):=by
      rw [List.take_add_one,hd]
      simp [Bool.or_assoc]
     have hp : pri b y = (y.num == IntKind.i64.wrap (b : Int)):=rfl
     rw [hp] at ht
     simp only [PI.cells] at hg
     cases hq : (x.opn || (x.items.take i).any (pri b))
     ·rw [hq,Bool.false_or] at ht
      simp only [lt_t hlt,nneg,Int.toNat_natCast,aiaddr,hg,hdm,hq,PI.cells,g1,g2,g3,m3,g7,g8,e1,eES,eEX,seval]
      exact ⟨x.items.length - (i + 1),by omega,_,_,i + 1,rfl,rfl,(by exact g1),(by exact g2),(by exact g3),(by exact m3),by rw [ht] <;> first | rfl | simp only [eES,eEX,seval],(by rfl)⟩
     ·rw [hq,Bool.true_or] at ht
      simp only [lt_t hlt,hq,PI.cells,g7,g8,e1,eES,seval]
      exact ⟨x.items.length - (i + 1),by omega,_,_,i + 1,rfl,rfl,(by exact g1),(by exact g2),(by exact g3),(by exact m3),by rw [ht] <;> first | rfl | simp only [eES,eEX,seval],(by rfl)⟩
    ·rw [List.take_of_length_le (by omega)] at g7
     simp only [lt_f hlt,g7,ha,eES,seval]
   ·have d3 : decide ((b : Int) > 2147483647) = true:=decide_eq_true (by omega)
    have ha : acp P.enums t b = false:=by
     unfold acp
     rw [if_neg (by omega)]
    simp only [d1,d2,List.length_map,d3,ha,eES,eEX,seval]
  ·have d2 : decide (t ≥ (P.enums.length : Int)) = true:=decide_eq_true (by omega)
   have ha : acp P.enums t b = false:=by
    unfold acp
    rw [if_neg (by omega)]
   simp only [d1,d2,List.length_map,ha,eES,eEX,seval]
 ·have d1 : decide (t < 0) = true:=decide_eq_true (by omega)
  have ha : acp P.enums t b = false:=by
   unfold acp
   rw [if_neg (by omega)]
  simp only [d1,ha,eES,seval]


def onef (P : PL) (k tg kd : Int) (b : Nat) (t : List UInt8) (l p s r : List AV) : Int :=
 if (kd != k || oth kd b t l p s r) = true then 12 else if decide ((t.length : Int) > 4096) = true then 3 else if (k == 7 && !vld t) = true then 7
 else if (!fitv k kd b t l p s r) = true then 12 else if (k == 9 && !acp P.enums tg b) = true then 16 else 0

section
variable {M : Nat} (P : PL) (hP : P.ok M) (k tg kd : Int) (b : Nat) (t : List UInt8) (l p s r : List AV) (hl : l.length ≤ 140737488351232) (hp : p.length ≤ 140737488351232) (hs : s.length ≤ 140737488351232) (hr : r.length ≤ 140737488351232)

include hP hl hp hs hr in
theorem z169 : Fn1 Tryz.prog 169 [P.av,.int .i64 k,.int .i64 tg,vo kd b t l p s r] (.int .i64 (onef P k tg kd b t l p s r)):=by
 have e0 : P.av = .agg [.list (P.progs.map gav),.list (P.enums.map eav)]:=rfl
 have ho:=z60 kd b t l p s r hs hr
 have hf:=z195 k kd b t l p s r hl hp hs hr
 have ha:=y103 P hP tg b
 simp only [vo] at ho hf
 simp only [e0] at ha
 refine k169.fn (by simp) ?_
 simp only [e0,vo,onef,eES,eEX,seval]
 cases a1 : (kd != k)
 ·simp only [Bool.false_or,eES,eEX,seval]
  refine aops_call ho rfl rfl rfl (.inl rfl) ?_
  cases oth kd b t l p s r
  ·simp only [Bool.false_eq_true,eES,eEX,seval]
   cases a2 : decide ((t.length : Int) > 4096)
   ·simp only [Bool.false_eq_true,eES,seval]
    have fin : ∀ c : Bool,True:=fun _ => trivial
    cases a3 : (k == 7)
    ·simp only [Bool.false_and,Bool.false_eq_true,eES,eEX,seval]
     refine aops_call hf rfl rfl rfl (.inl rfl) ?_
     cases fitv k kd b t l p s r
     ·simp only [Bool.not_false,eES,seval]
     ·simp only [Bool.not_true,Bool.false_eq_true,eES,seval]
      cases a4 : (k == 9)
      ·simp only [Bool.false_and,Bool.false_eq_true,eES,seval]
      ·simp only [Bool.true_and,eES,eEX,seval]
       refine aops_call ha rfl rfl rfl (.inl rfl) ?_
       cases acp P.enums tg b <;> simp only [Bool.not_false,Bool.not_true,Bool.false_eq_true,eES,seval]
    ·simp only [Bool.true_and,eES,eEX,seval]
     refine aops_call (x181 t) rfl rfl rfl (.inl rfl) ?_
     cases vld t
     ·simp only [Bool.not_false,eES,seval]
     ·have a4 : (k == 9) = false:=by
       rw [beq_iff_eq] at a3
       subst a3; rfl
      simp only [Bool.not_true,Bool.false_eq_true,eES,eEX,seval]
      refine aops_call hf rfl rfl rfl (.inl rfl) ?_
      cases fitv k kd b t l p s r
      ·simp only [Bool.not_false,eES,seval]
      ·simp only [Bool.not_true,a4,Bool.false_and,Bool.false_eq_true,eES,seval]
   ·simp only [eES,seval]
  ·simp only [eES,seval]
 ·simp only [Bool.true_or,eES,seval]

end

section
variable (k kd : Int) (b : Nat) (t : List UInt8) (l p s r : List AV) (ht : t.length + 8 ≤ maxLen)

include ht in
theorem v159 : Fn1 Tryz.prog 159 [.int .i64 k,vo kd b t l p s r] (.bool (fitv k kd b t l p s r)):=by
 have hl:=y99 kd b t l p s r
 simp only [vo] at hl
 have n1 : (kd != k) = !(kd == k):=rfl
 have n2 : (t != []) = !(t == []):=rfl
 refine k159.fn (by simp) ?_
 simp only [vo,fitv,eES,eEX,seval]
 refine aops_call (x98 k) rfl rfl rfl (.inl rfl) ?_
 cases hk : isk k
 ·simp only [Bool.not_false,Bool.false_and,eES,seval]
 simp only [n1,Bool.not_true,Bool.true_and,eES,eEX,seval]
 cases a1 : (kd == k)
 ·simp only [Bool.not_false,Bool.false_and,eES,seval]
 have e : kd = k:=by simpa using a1
 subst e
 simp only [Bool.not_true,Bool.true_and,eES,eEX,seval]
 refine aops_call hl rfl rfl rfl (.inl rfl) ?_
 cases lon l p s r
 ·simp only [Bool.not_false,Bool.false_and,eES,seval]
 simp only [Bool.not_true,Bool.true_and,eES,seval]
 refine aops_call (x138 kd) rfl rfl rfl (.inl rfl) ?_
 cases tx : txk kd
 ·simp only [Bool.false_eq_true,astr,eES,eEX,seval]
  cases a2 : (t == [])
  ·simp only [Bool.not_false,Bool.false_and,eES,seval]
  have e : t = []:=by simpa using a2
  subst e
  have k7 : (kd != 7) = true:=by
   simp only [txk,Bool.or_eq_false_iff,beq_eq_false_iff_ne] at tx
   simp [tx.1]
  have d0 : decide (((0 : Nat) : Int) ≤ 4096) = true:=rfl
  simp only [k7,List.length_nil,Bool.not_true,Bool.true_and,Bool.and_true,Bool.true_or,eES,seval]
  unfold fitn
  by_cases h1 : kd = 1
  ·subst h1
   have b1 : ((1 : Int) == 1) = true:=rfl
   simp only [b1,eES,eEX,seval]
  ·have b1 : (kd == 1) = false:=by simp [h1]
   by_cases h2 : kd = 2
   ·subst h2
    have b2 : ((2 : Int) == 2) = true:=rfl
    simp only [b1,b2,h1,eES,eEX,seval]
    cases hd : decide (IntKind.i64.wrap (b : Int) ≥ -2147483648) <;> simp only [Bool.true_and,Bool.false_and,eES,seval]
   ·have b2 : (kd == 2) = false:=by simp [h2]
    by_cases h4 : kd = 4
    ·subst h4
     have b4 : ((4 : Int) == 4) = true:=rfl
     simp only [b1,b2,b4,h1,h2,eES,eEX,seval]
    ·have b4 : (kd == 4) = false:=by simp [h4]
     by_cases h9 : kd = 9
     ·subst h9
      have b9 : ((9 : Int) == 9) = true:=rfl
      simp only [b1,b2,b9,b4,h1,h2,h4,eES,eEX,seval]
     ·have b9 : (kd == 9) = false:=by simp [h9]
      simp only [b1,b2,b9,b4,h1,h2,h4,h9,eES,seval]
 ·simp only [eES,eEX,seval]
  cases a2 : ((b : Int) == 0)
  ·simp only [Bool.false_and,eES,seval]
  have hfn : fitn kd b = true:=by
   simp only [txk,Bool.or_eq_true,beq_iff_eq] at tx
   rcases tx with rfl | rfl <;> rfl
  cases a3 : decide ((t.length : Int) ≤ 4096)
  ·simp only [a3,hfn,Bool.false_and,Bool.and_false,eES,eEX,seval]
  simp only [txk,Bool.or_eq_true,beq_iff_eq] at tx
  rcases tx with rfl | rfl
  ·have c8 : ((7 : Int) == 8) = false:=rfl
   have c7 : ((7 : Int) != 7) = false:=rfl
   simp only [a3,c8,c7,hfn,Bool.true_and,Bool.false_or,eES,eEX,seval]
   refine aops_call (c119 t ht) rfl rfl rfl (.inl rfl) ?_
   simp only [eES,seval]
  ·have c8 : ((8 : Int) == 8) = true:=rfl
   have c7 : ((8 : Int) != 7) = true:=rfl
   simp only [a3,c8,c7,hfn,Bool.true_or,eES,eEX,seval]

end

section
variable {M : Nat} (P : PL) (hP : P.ok M) (k tg kd : Int) (b : Nat) (t : List UInt8) (l p s r : List AV) (ht : t.length + 8 ≤ maxLen) (hs : s.length ≤ 140737488351232) (hr : r.length ≤ 140737488351232)

include hP ht hs hr in
theorem z121 : Fn1 Tryz.prog 121 [P.av,.int .i64 k,.int .i64 tg,vo kd b t l p s r] (.int .i64 (onef P k tg kd b t l p s r)):=by
 have e0 : P.av = .agg [.list (P.progs.map gav),.list (P.enums.map eav)]:=rfl
 have ho:=z38 kd b t l p s r hs hr
 have hf:=v159 k kd b t l p s r ht
 have ha:=y78 P hP tg b
 simp only [vo] at ho hf
 simp only [e0] at ha
 refine k121.fn (by simp) ?_
 simp only [e0,vo,onef,eES,eEX,seval]
 cases a1 : (kd != k)
 ·simp only [Bool.false_or,eES,eEX,seval]
  refine aops_call ho rfl rfl rfl (.inl rfl) ?_
  cases oth kd b t l p s r
  ·simp only [Bool.false_eq_true,eES,eEX,seval]
   cases a2 : decide ((t.length : Int) > 4096)
   ·simp only [Bool.false_eq_true,eES,seval]
    cases a3 : (k == 7)
    ·simp only [Bool.false_and,Bool.false_eq_true,eES,eEX,seval]
     refine aops_call hf rfl rfl rfl (.inl rfl) ?_
     cases fitv k kd b t l p s r
     ·simp only [Bool.not_false,eES,seval]
     ·simp only [Bool.not_true,Bool.false_eq_true,eES,seval]
      cases a4 : (k == 9)
      ·simp only [Bool.false_and,Bool.false_eq_true,eES,seval]
      ·simp only [Bool.true_and,eES,eEX,seval]
       refine aops_call ha rfl rfl rfl (.inl rfl) ?_
       cases acp P.enums tg b <;> simp only [Bool.not_false,Bool.not_true,Bool.false_eq_true,eES,seval]
    ·simp only [Bool.true_and,eES,eEX,seval]
     refine aops_call (c119 t ht) rfl rfl rfl (.inl rfl) ?_
     cases vld t
     ·simp only [Bool.not_false,eES,seval]
     ·have a4 : (k == 9) = false:=by
       rw [beq_iff_eq] at a3
       subst a3; rfl
      simp only [Bool.not_true,Bool.false_eq_true,eES,eEX,seval]
      refine aops_call hf rfl rfl rfl (.inl rfl) ?_
      cases fitv k kd b t l p s r
      ·simp only [Bool.not_false,eES,seval]
      ·simp only [Bool.not_true,a4,Bool.false_and,Bool.false_eq_true,eES,seval]
   ·simp only [eES,seval]
  ·simp only [eES,seval]
 ·simp only [Bool.true_or,eES,seval]

end
open Up

def fei (f : Nat → Int) : Nat → Nat → Int
 | 0,_ => 0
 | k + 1,i => if f i = 0 then fei f k (i + 1) else f i

theorem fei_lt {f : Nat → Int} {n i : Nat} (h : i < n) : fei f (n - i) i = if f i = 0 then fei f (n - (i + 1)) (i + 1) else f i:=by
 rw [show n - i = (n - (i + 1)) + 1 by omega]
 rfl
theorem fei_go {f : Nat → Int} {n i : Nat} (h : i < n) (e : f i = 0) : fei f (n - i) i = fei f (n - (i + 1)) (i + 1):=by
 rw [fei_lt h,if_pos e]
theorem fei_st {f : Nat → Int} {n i : Nat} {v : Int} (h : i < n) (e : f i = v) (hv : v ≠ 0) : fei f (n - i) i = v:=by
 rw [fei_lt h,if_neg (by rw [e]; exact hv),e]
theorem fei_end {f : Nat → Int} {n i : Nat} (h : ¬ i < n) : fei f (n - i) i = 0:=by
 rw [show n - i = 0 by omega]
 rfl
theorem fei_zero {f : Nat → Int} : ∀ {k i : Nat},fei f k i = 0 → ∀ j,i ≤ j → j < i + k → f j = 0
 | 0,_,_,_,h1,h2 => by omega
 | k + 1,i,h,j,h1,h2 => by
  rw [fei] at h
  split at h
  ·rename_i h0
   by_cases e : j = i
   ·rw [e]; exact h0
   ·exact fei_zero h j (by omega) (by omega)
  ·rename_i h0
   exact absurd h h0

def _root_.Go.Proofs.YtgannjophilbiaaGreatDoor.Br.V.oth (v : V) : Bool:=Va.oth v.kd v.bits v.text (v.list.map V.av) (v.pairs.map V.pav) (v.slots.map V.sav) (v.raws.map R.av)
def _root_.Go.Proofs.YtgannjophilbiaaGreatDoor.Br.V.one (P : PL) (k tg : Int) (v : V) : Int:=onef P k tg v.kd v.bits v.text (v.list.map V.av) (v.pairs.map V.pav) (v.slots.map V.sav) (v.raws.map R.av)

theorem vo_av (v : V) : v.av = vo v.kd v.bits v.text (v.list.map V.av) (v.pairs.map V.pav) (v.slots.map V.sav) (v.raws.map R.av):=by
 rw [V.av,V.eta]; rfl

def gat (P : PL) (t : Int) : PG:=P.progs[t.toNat]?.getD ⟨[],[],0⟩
def keq (a b : V) : Bool:=a.bits == b.bits && a.text == b.text
def opq (g : PG) (n : Int) : Option PO:=g.ops.find? fun o => o.num == n

section
variable (m : PG → V → Int) (P : PL)
def elemF (o : PO) (v : V) : Int:=if o.kind = 10 then m (gat P o.target) v else v.one P o.kind o.target
def entF (o : PO) (ps : List (V × V)) (i : Nat) : Int:=match ps[i]? with
 | none => 0
 | some x => if x.1.one P o.key (-1) = 0 then (if (ps.take i).any (fun q => keq q.1 x.1) = true then 9 else elemF m P o x.2) else x.1.one P o.key (-1)
def lstF (o : PO) (l : List V) (i : Nat) : Int:=match l[i]? with
 | none => 0
 | some x => elemF m P o x
def fieldF (o : PO) (v : V) : Int :=
 if o.card = 5 then (if (v.kd != 12 || v.oth) = true then 12 else fei (entF m P o v.pairs) v.pairs.length 0)
 else if o.card = 4 then (if (v.kd != 11 || v.oth) = true then 12 else fei (lstF m P o v.list) v.list.length 0)
 else elemF m P o v
def uniF (g : PG) (o : PO) (y : Int × V) : Bool:=o.union != -1 && (((opq g y.1).getD PO0).union == o.union)
def slotF (g : PG) (sl : List (Int × V)) (i : Nat) : Int:=match sl[i]? with
 | none => 0
 | some x => match opq g x.1 with
  | none => 8
  | some o => if (sl.take i).any (fun y => y.1 == x.1) = true then 9 else if (sl.take i).any (uniF g o) = true then 15 else fieldF m P o x.2
def keptF (g : PG) (f : R) : Bool:=match opq g f.num with
 | none => true
 | some o => o.kind == 9 && o.card != 5 && f.wire == 0 && decide ((f.bits : Int) ≤ 2147483647) && !acp P.enums o.target f.bits
def rawF (g : PG) (f : R) : Int :=
 if (decide (f.num < 1) || decide (f.num > 65535) || decide (f.wire < 0) || decide (f.wire > 6)) = true then 1
 else if (decide (f.wire ≤ 2) && !(f.data == []) || decide (f.wire > 2) && !((f.bits : Int) == 0)) = true then 1
 else if (!keptF P g f) = true then 1
 else if (f.wire == 3 && decide ((f.data.length : Int) > 4096) || decide ((f.data.length : Int) > 65536)) = true then 3 else 0
def rawsF (g : PG) (l : List R) (i : Nat) : Int:=match l[i]? with
 | none => 0
 | some f => rawF P g f
def misF (g : PG) (sl : List (Int × V)) : Bool:=g.ops.any fun o => o.card == 1 && !sl.any fun y => y.1 == o.num
def bodyF (g : PG) (v : V) : Int :=
 if fei (slotF m P g v.slots) v.slots.length 0 = 0 then
  (if misF g v.slots = true then 14 else fei (rawsF P g v.raws) v.raws.length 0)
 else fei (slotF m P g v.slots) v.slots.length 0
end

theorem entF_at {m : PG → V → Int} {P : PL} {o : PO} {ps : List (V × V)} {i : Nat} {x : V × V} (h : ps[i]? = some x) :
  entF m P o ps i = if x.1.one P o.key (-1) = 0 then (if (ps.take i).any (fun q => keq q.1 x.1) = true then 9 else elemF m P o x.2) else x.1.one P o.key (-1):=by
 unfold entF
 rw [h]
theorem lstF_at {m : PG → V → Int} {P : PL} {o : PO} {l : List V} {i : Nat} {x : V} (h : l[i]? = some x) : lstF m P o l i = elemF m P o x:=by
 unfold lstF
 rw [h]
theorem rawsF_at {P : PL} {g : PG} {l : List R} {i : Nat} {x : R} (h : l[i]? = some x) : rawsF P g l i = rawF P g x:=by
 unfold rawsF
 rw [h]

def msgF (P : PL) : Nat → PG → V → Int
 | 0,_,v => if (v.kd != 10 || v.oth) = true then 12 else 17
 | n + 1,g,v => if (v.kd != 10 || v.oth) = true then 12 else bodyF (msgF P n) P g v

mutual
def _root_.Go.Proofs.YtgannjophilbiaaGreatDoor.Br.V.cnt : V → Nat
 | .mk _ _ _ l p s r => 1 + r.length + cntL l + cntP p + cntS s
def cntL : List V → Nat
 | [] => 0
 | x :: l => x.cnt + cntL l
def cntP : List (V × V) → Nat
 | [] => 0
 | (a,b) :: l => a.cnt + b.cnt + cntP l
def cntS : List (Int × V) → Nat
 | [] => 0
 | (_,a) :: l => a.cnt + cntS l
end

theorem cnt_eq : ∀ v : V,v.cnt = 1 + v.raws.length + cntL v.list + cntP v.pairs + cntS v.slots
 | .mk k b t l p s r => by rw [V.cnt]; rfl

theorem cntL_snoc {l : List V} {i : Nat} {x : V} (h : l[i]? = some x) : cntL (l.take (i + 1)) = cntL (l.take i) + x.cnt:=by
 induction l generalizing i with
 | nil => simp at h
 | cons y l ih =>
  cases i with
  | zero => simp at h; subst h; simp [cntL]
  | succ i =>
   simp only [List.take_succ_cons,cntL]
   rw [ih (by simpa using h)]; omega
theorem cntP_snoc {l : List (V × V)} {i : Nat} {x : V × V} (h : l[i]? = some x) : cntP (l.take (i + 1)) = cntP (l.take i) + (x.1.cnt + x.2.cnt):=by
 induction l generalizing i with
 | nil => simp at h
 | cons y l ih =>
  obtain ⟨y1,y2⟩:=y
  cases i with
  | zero => simp at h; subst h; simp [cntP]
  | succ i =>
   simp only [List.take_succ_cons,cntP]
   rw [ih (by simpa using h)]; omega
theorem cntS_snoc {l : List (Int × V)} {i : Nat} {x : Int × V} (h : l[i]? = some x) : cntS (l.take (i + 1)) = cntS (l.take i) + x.2.cnt:=by
 induction l generalizing i with
 | nil => simp at h
 | cons y l ih =>
  obtain ⟨y1,y2⟩:=y
  cases i with
  | zero => simp at h; subst h; simp [cntS]
  | succ i =>
   simp only [List.take_succ_cons,cntS]
   rw [ih (by simpa using h)]; omega

inductive Thin : V → Prop
 | mk {v : V} (n : v.list.length + 2 * v.pairs.length + v.slots.length ≤ 1099511627776) (list : ∀ x ∈ v.list,Thin x) (keys : ∀ x ∈ v.pairs,Thin x.1) (vals : ∀ x ∈ v.pairs,Thin x.2) (slots : ∀ x ∈ v.slots,Thin x.2) : Thin v

theorem oth_nil {v : V} (h : v.oth = false) : (v.kd ≠ 11 → v.list = []) ∧ (v.kd ≠ 12 → v.pairs = []) ∧ (v.kd ≠ 10 → v.slots = []):=by
 unfold V.oth Va.oth at h
 simp only [Bool.or_eq_false_iff,Bool.and_eq_false_iff,bne_eq_false_iff_eq,decide_eq_false_iff_not,List.length_map] at h
 obtain ⟨⟨⟨⟨h1,h2⟩,h3⟩,_⟩,_⟩:=h
 refine ⟨fun h => ?_,fun h => ?_,fun h => ?_⟩
 ·rcases h1 with h1 | h1
  ·exact absurd h1 h
  ·exact List.length_eq_zero_iff.1 (by omega)
 ·rcases h2 with h2 | h2
  ·exact absurd h2 h
  ·exact List.length_eq_zero_iff.1 (by omega)
 ·rcases h3 with h3 | h3
  ·exact absurd h3 h
  ·exact List.length_eq_zero_iff.1 (by omega)

theorem one_kd {P : PL} {k tg : Int} {v : V} (h : v.one P k tg = 0) : v.kd = k ∧ v.oth = false ∧ fitv k v.kd v.bits v.text (v.list.map V.av) (v.pairs.map V.pav) (v.slots.map V.sav) (v.raws.map R.av) = true:=by
 unfold V.one onef at h
 split at h
 ·omega
 ·rename_i h1
  split at h
  ·omega
  ·split at h
   ·omega
   ·split at h
    ·omega
    ·rename_i h2
     simp only [Bool.not_eq_true,Bool.or_eq_false_iff,bne_eq_false_iff_eq] at h1
     exact ⟨h1.1,h1.2,by simpa using h2⟩

theorem fitv_isk {k kd : Int} {b : Nat} {t : List UInt8} {l p s r : List AV} (h : fitv k kd b t l p s r = true) : isk k = true:=by
 unfold fitv at h
 simp only [Bool.and_eq_true] at h
 exact h.1.1.1.1.1.1

theorem isk_ne {k : Int} (h : isk k = true) : k ≠ 10 ∧ k ≠ 11 ∧ k ≠ 12:=by
 unfold isk at h
 simp only [Bool.and_eq_true,decide_eq_true_eq] at h
 omega

theorem thin_one {P : PL} {k tg : Int} {v : V} (h : v.one P k tg = 0) : Thin v:=by
 obtain ⟨h1,h2,h3⟩:=one_kd h
 obtain ⟨i1,i2,i3⟩:=isk_ne (fitv_isk h3)
 obtain ⟨o1,o2,o3⟩:=oth_nil h2
 rw [← h1] at i1 i2 i3
 refine .mk ?_ ?_ ?_ ?_ ?_
 ·rw [o1 i2,o2 i3,o3 i1]; simp
 ·rw [o1 i2]; simp
 ·rw [o2 i3]; simp
 ·rw [o2 i3]; simp
 ·rw [o3 i1]; simp

theorem thin_msg {P : PL} {M : Nat} : ∀ (n : Nat) (g : PG) (v : V),v.ok M → msgF P n g v = 0 → Thin v:=by
 intro n
 induction n with
 | zero =>
  intro g v _ h
  unfold msgF at h
  split at h <;> omega
 | succ n ih =>
  intro g v hv h
  unfold msgF at h
  split at h
  ·omega
  rename_i h0
  simp only [Bool.not_eq_true,Bool.or_eq_false_iff,bne_eq_false_iff_eq] at h0
  obtain ⟨o1,o2,o3⟩:=oth_nil h0.2
  have e1:=o1 (by omega)
  have e2:=o2 (by omega)
  unfold bodyF at h
  have hs : fei (slotF (msgF P n) P g v.slots) v.slots.length 0 = 0:=by
   split at h
   ·assumption
   ·exact h
  refine .mk ?_ (by rw [e1]; simp) (by rw [e2]; simp) (by rw [e2]; simp) ?_
  ·rw [e1,e2]
   have:=hv.ns
   simp; omega
  ·intro x hx
   obtain ⟨i,hi⟩:=List.mem_iff_getElem?.1 hx
   have hlt:=(List.getElem?_eq_some_iff.1 hi).1
   have h1:=fei_zero hs i (Nat.zero_le _) (by omega)
   unfold slotF at h1
   rw [hi] at h1
   dsimp only at h1
   split at h1
   ·omega
   rename_i o _
   split at h1
   ·omega
   split at h1
   ·omega
   have hx2:=hv.slots x hx
   have helem : ∀ y : V,y.ok M → elemF (msgF P n) P o y = 0 → Thin y:=by
    intro y hy he
    unfold elemF at he
    split at he
    ·exact ih _ _ hy he
    ·exact thin_one he
   unfold fieldF at h1
   split at h1
   ·split at h1
    ·omega
    rename_i h2
    simp only [Bool.not_eq_true,Bool.or_eq_false_iff,bne_eq_false_iff_eq] at h2
    obtain ⟨o1,o2,o3⟩:=oth_nil h2.2
    have e1:=o1 (by omega)
    have e3:=o3 (by omega)
    have hp : ∀ y ∈ x.2.pairs,Thin y.1 ∧ Thin y.2:=by
     intro y hy
     obtain ⟨j,hj⟩:=List.mem_iff_getElem?.1 hy
     have hlt:=(List.getElem?_eq_some_iff.1 hj).1
     have h3:=fei_zero h1 j (Nat.zero_le _) (by omega)
     unfold entF at h3
     rw [hj] at h3
     dsimp only at h3
     split at h3
     ·rename_i hk
      split at h3
      ·omega
      ·exact ⟨thin_one hk,helem _ (hx2.vals y hy) h3⟩
     ·rename_i hk
      exact absurd h3 hk
    refine .mk ?_ (by rw [e1]; simp) (fun y hy => (hp y hy).1) (fun y hy => (hp y hy).2) (by rw [e3]; simp)
    rw [e1,e3]
    have:=hx2.np
    simp; omega
   ·split at h1
    ·split at h1
     ·omega
     rename_i h2
     simp only [Bool.not_eq_true,Bool.or_eq_false_iff,bne_eq_false_iff_eq] at h2
     obtain ⟨o1,o2,o3⟩:=oth_nil h2.2
     have e2:=o2 (by omega)
     have e3:=o3 (by omega)
     refine .mk ?_ ?_ (by rw [e2]; simp) (by rw [e2]; simp) (by rw [e3]; simp)
     ·rw [e2,e3]
      have:=hx2.nl
      simp; omega
     ·intro y hy
      obtain ⟨j,hj⟩:=List.mem_iff_getElem?.1 hy
      have hlt:=(List.getElem?_eq_some_iff.1 hj).1
      have h3:=fei_zero h1 j (Nat.zero_le _) (by omega)
      unfold lstF at h3
      rw [hj] at h3
      exact helem _ (hx2.list y hy) h3
    ·exact helem _ hx2 h1

end Go.Proofs.YtgannjophilbiaaGreatDoor.Va

namespace Go.Proofs.YtgannjophilbiaaGreatDoor.Va
open Go Am Rc Bt Br

def kv (k : Int) (b : Nat) (t : List UInt8) : AV:=.agg [.int .i64 k,.int .u64 (b : Nat),.str t,.list [],.list [],.list [],.list []]
def keyk (k : Int) : Prop:=(1 ≤ k ∧ k ≤ 5) ∨ k = 7

theorem keyk.isk {k : Int} (h : keyk k) : isk k = true:=by
 rcases h with h | rfl
 ·simp [Va.isk]; omega
 ·rfl

theorem bless_self : ∀ s : List UInt8,Op.bytesLess s s = false
 | [] => rfl
 | a :: l => by simp [Op.bytesLess,bless_self l]

theorem v54 (a : Int) : Fn1 Tryz.prog 54 [.int .i64 a] (.bool false):=by
 refine k54.fn (by simp) ?_
 simp only [bne_self_eq_false,eES,seval]

theorem v194 (a : Int) : Fn1 Tryz.prog 194 [.int .u64 a] (.bool false):=by
 refine k194.fn (by simp) ?_
 simp only [bne_self_eq_false,eES,seval]

theorem v193 (a : List UInt8) : Fn1 Tryz.prog 193 [.str a] (.bool false):=by
 have e : astr .neq a a = some (.bool false):=by simp [astr]
 refine k193.fn (by simp) ?_
 simp only [e,eES,seval]

def cN (a b : Int) : Int:=if a < b then -1 else if b < a then 1 else 0
theorem cN_zero {a b : Int} : cN a b = 0 ↔ a = b:=by
 unfold cN
 split
 ·omega
 ·split <;> omega

theorem v22 (a b : Int) : Fn1 Tryz.prog 22 [.int .i64 a,.int .i64 b] (.int .i64 (cN a b)):=by
 refine k22.fn (by simp) ?_
 simp only [eES,seval]
 refine aops_call (v54 a) rfl rfl rfl (.inl rfl) ?_
 simp only [eES,seval]
 refine aops_call (v54 b) rfl rfl rfl (.inl rfl) ?_
 simp only [eES,seval]
 by_cases h1 : a < b
 ·have d1 : decide (a < b) = true:=by simpa using h1
  simp only [d1,cN,if_pos h1,eES,seval]
 ·have d1 : decide (a < b) = false:=by simpa using h1
  by_cases h2 : b < a
  ·have d2 : decide (a > b) = true:=by simpa using h2
   simp only [d1,d2,cN,if_neg h1,if_pos h2,eES,seval]
  ·have d2 : decide (a > b) = false:=by simpa using h2
   simp only [d1,d2,cN,if_neg h1,if_neg h2,eES,seval]

theorem v165 (a b : Int) : Fn1 Tryz.prog 165 [.int .u64 a,.int .u64 b] (.int .i64 (cN a b)):=by
 refine k165.fn (by simp) ?_
 simp only [eES,seval]
 refine aops_call (v194 a) rfl rfl rfl (.inl rfl) ?_
 simp only [eES,seval]
 refine aops_call (v194 b) rfl rfl rfl (.inl rfl) ?_
 simp only [eES,seval]
 by_cases h1 : a < b
 ·have d1 : decide (a < b) = true:=by simpa using h1
  simp only [d1,cN,if_pos h1,eES,seval]
 ·have d1 : decide (a < b) = false:=by simpa using h1
  by_cases h2 : b < a
  ·have d2 : decide (a > b) = true:=by simpa using h2
   simp only [d1,d2,cN,if_neg h1,if_pos h2,eES,seval]
  ·have d2 : decide (a > b) = false:=by simpa using h2
   simp only [d1,d2,cN,if_neg h1,if_neg h2,eES,seval]

def cS (a b : List UInt8) : Int:=if Op.bytesLess a b = true then -1 else if a == b then 0 else 1
theorem cS_zero {a b : List UInt8} : cS a b = 0 ↔ a = b:=by
 unfold cS
 constructor
 ·intro h
  split at h
  ·omega
  ·split at h
   ·rename_i h2; simpa using h2
   ·omega
 ·rintro rfl
  simp [bless_self]

theorem v164 (a b : List UInt8) : Fn1 Tryz.prog 164 [.str a,.str b] (.int .i64 (cS a b)):=by
 refine k164.fn (by simp) ?_
 simp only [eES,seval]
 refine aops_call (v193 a) rfl rfl rfl (.inl rfl) ?_
 simp only [eES,seval]
 refine aops_call (v193 b) rfl rfl rfl (.inl rfl) ?_
 simp only [astr,cS,eES,seval]
 cases h1 : Op.bytesLess a b
 ·cases h2 : (a == b) <;> simp only [astr,h1,h2,Bool.false_or,Bool.not_true,Bool.not_false,Bool.false_eq_true,eES,seval]
 ·simp only [eES,seval]

def cmi (k : Int) (a : Nat) (s : List UInt8) (b : Nat) (t : List UInt8) : Int :=
 if txk k = true then cS s t else if (k == 2 || k == 3) = true then cN (IntKind.i64.wrap (a : Int)) (IntKind.i64.wrap (b : Int)) else cN (a : Int) (b : Int)

theorem v126 (k : Int) (hk : keyk k) (a b : Nat) (s t : List UInt8) : Fn1 Tryz.prog 126 [kv k a s,kv k b t] (.int .i64 (cmi k a s b t)):=by
 have hi:=hk.isk
 have k6 : (k == 6) = false:=by
  rcases hk with h | rfl
  ·simp; omega
  ·rfl
 refine k126.fn (by simp) ?_
 simp only [kv,cmi,bne_self_eq_false,eES,eEX,seval]
 refine aops_call (x87 k) rfl rfl rfl (.inl rfl) ?_
 simp only [hi,eES,eEX,seval]
 refine aops_call (x135 k) rfl rfl rfl (.inl rfl) ?_
 cases h1 : txk k
 ·simp only [Bool.false_eq_true,eES,eEX,seval]
  cases h2 : (k == 2)
  ·cases h3 : (k == 3)
   ·simp only [h3,k6,Bool.or_false,Bool.false_eq_true,eES,eEX,seval]
    refine aops_call (v165 _ _) rfl rfl rfl (.inl rfl) ?_
    simp only [eES,seval]
   ·simp only [h3,Bool.false_or,eES,eEX,seval]
    refine aops_call (v22 _ _) rfl rfl rfl (.inl rfl) ?_
    simp only [eES,seval]
  ·simp only [Bool.true_or,eES,eEX,seval]
   refine aops_call (v22 _ _) rfl rfl rfl (.inl rfl) ?_
   simp only [eES,seval]
 ·simp only [eES,eEX,seval]
  refine aops_call (v164 s t) rfl rfl rfl (.inl rfl) ?_
  simp only [eES,seval]

theorem v125 (k : Int) (hk : keyk k) (b : Nat) (t : List UInt8) : Fn1 Tryz.prog 125 [kv k b t] (.iface 156 (kv k b t)):=by
 have hi:=hk.isk
 refine k125.fn (by simp) ?_
 simp only [kv,eES,eEX,seval]
 refine aops_call (x87 k) rfl rfl rfl (.inl rfl) ?_
 simp only [hi,eES,eEX,seval]

theorem v84 (k : Int) (hk : keyk k) (a b : Nat) (s t : List UInt8) : Fn1 Tryz.prog 84 [kv k a s,kv k b t] (.int .i64 (cmi k a s b t)):=by
 have h1:=v125 k hk a s
 have h2:=v125 k hk b t
 have h3:=v126 k hk a b s t
 simp only [kv] at h1 h2 h3
 refine k84.fn (by simp) ?_
 simp only [kv,bne_self_eq_false,eES,eEX,seval]
 refine aops_call h2 rfl rfl rfl (.inl rfl) ?_
 simp only [eES,eEX,seval]
 refine aops_call h1 rfl rfl rfl (.inl rfl) ?_
 simp only [eES,eEX,seval]
 refine aops_call h3 rfl rfl rfl (.inl rfl) ?_
 simp only [eES,seval]

theorem v85 (k : Int) (hk : keyk k) (a b : Nat) (s t : List UInt8) : Fn1 Tryz.prog 85 [kv k a s,kv k b t] (.bool (cmi k a s b t == 0)):=by
 have h1:=v84 k hk a b s t
 simp only [kv] at h1
 refine k85.fn (by simp) ?_
 simp only [kv,eES,eEX,seval]
 refine aops_call h1 rfl rfl rfl (.inl rfl) ?_
 simp only [eES,seval]

def rkk (k : Int) (b : Nat) : Int:=if (k == 2 || k == 3) = true then IntKind.u64.wrap ((b : Int) + 9223372036854775808) else (b : Int)

theorem v168 (k : Int) : Fn1 Tryz.prog 168 [.int .i64 k] (.bool (k == 2 || k == 3)):=by
 refine k168.fn (by simp) ?_
 simp only [eES,seval]
 cases h : (k == 2) <;> simp only [Bool.true_or,Bool.false_or,eES,seval]

theorem v139 (k : Int) (k6 : (k != 6) = true) (b : Nat) (t : List UInt8) : Fn1 Tryz.prog 139 [kv k b t] (.int .u64 (rkk k b)):=by
 refine k139.fn (by simp) ?_
 simp only [kv,eES,eEX,seval]
 refine aops_call (v168 k) rfl rfl rfl (.inl rfl) ?_
 unfold rkk
 cases h1 : (k == 2 || k == 3)
 ·simp only [k6,Bool.false_eq_true,eES,eEX,seval]
 ·simp only [eES,eEX,seval]

def cmr (k : Int) (a : Nat) (s : List UInt8) (b : Nat) (t : List UInt8) : Int:=if txk k = true then cS s t else cN (rkk k a) (rkk k b)

theorem v96 (k : Int) (hk : keyk k) (a b : Nat) (s t : List UInt8) : Fn1 Tryz.prog 96 [kv k a s,kv k b t] (.int .i64 (cmr k a s b t)):=by
 have hi:=hk.isk
 have k6 : (k != 6) = true:=by
  rcases hk with h | rfl
  ·simp; omega
  ·rfl
 have d1 : decide (k < k) = false:=by simp
 have d2 : decide (k > k) = false:=by simp
 have hr:=v139 k k6 a s
 have hq:=v139 k k6 b t
 simp only [kv] at hr hq
 refine k96.fn (by simp) ?_
 simp only [kv,cmr,d1,eES,eEX,seval]
 refine aops_call (x98 k) rfl rfl rfl (.inl rfl) ?_
 simp only [hi,eES,eEX,seval]
 refine aops_call (x138 k) rfl rfl rfl (.inl rfl) ?_
 cases h2 : txk k
 ·simp only [Bool.false_eq_true,eES,eEX,seval]
  refine aops_call (x138 k) rfl rfl rfl (.inl rfl) ?_
  simp only [h2,eES,eEX,seval]
  refine aops_call (x138 k) rfl rfl rfl (.inl rfl) ?_
  simp only [h2,eES,eEX,seval]
  refine aops_call hr rfl rfl rfl (.inl rfl) ?_
  simp only [eES,eEX,seval]
  refine aops_call hq rfl rfl rfl (.inl rfl) ?_
  simp only [eES,seval]
  by_cases c1 : rkk k a < rkk k b
  ·have e1 : decide (rkk k a < rkk k b) = true:=decide_eq_true c1
   simp only [e1,cN,if_pos c1,eES,seval]
  ·have e1 : decide (rkk k a < rkk k b) = false:=decide_eq_false c1
   simp only [e1,cN,if_neg c1,eES,eEX,seval]
   refine aops_call hr rfl rfl rfl (.inl rfl) ?_
   simp only [eES,eEX,seval]
   refine aops_call hq rfl rfl rfl (.inl rfl) ?_
   by_cases c2 : rkk k b < rkk k a
   ·have e2 : decide (rkk k a > rkk k b) = true:=decide_eq_true c2
    simp only [e2,if_pos c2,eES,seval]
   ·have e2 : decide (rkk k a > rkk k b) = false:=decide_eq_false c2
    simp only [e2,if_neg c2,eES,seval]
 ·simp only [astr,cS,eES,eEX,seval]
  cases h1 : Op.bytesLess s t
  ·simp only [Bool.false_eq_true,eES,eEX,seval]
   refine aops_call (x138 k) rfl rfl rfl (.inl rfl) ?_
   cases h3 : (s == t)
   ·simp only [h1,h2,h3,astr,Bool.false_or,Bool.not_false,Bool.false_eq_true,eES,eEX,seval]
   ·simp only [h1,h2,h3,astr,Bool.false_or,Bool.not_true,eES,eEX,seval]
    refine aops_call (x138 k) rfl rfl rfl (.inl rfl) ?_
    simp only [h2,eES,seval]
  ·simp only [eES,seval]

theorem v55 (k : Int) (hk : keyk k) (a b : Nat) (s t : List UInt8) : Fn1 Tryz.prog 55 [kv k a s,kv k b t] (.int .i64 (cmr k a s b t)):=by
 have b1 : (k == 11) = false:=by rcases hk with h | rfl <;> simp <;> omega
 have b2 : (k == 12) = false:=by rcases hk with h | rfl <;> simp <;> omega
 have b3 : (k == 10) = false:=by rcases hk with h | rfl <;> simp <;> omega
 have hr:=v96 k hk a b s t
 simp only [kv] at hr
 refine k55.fn (by simp) ?_
 simp only [kv,bne_self_eq_false,b1,b2,b3,eES,eEX,seval]
 refine aops_call hr rfl rfl rfl (.inl rfl) ?_
 simp only [eES,seval]

theorem v23 (k : Int) (hk : keyk k) (a b : Nat) (s t : List UInt8) : Fn1 Tryz.prog 23 [kv k a s,kv k b t] (.bool (cmr k a s b t == 0)):=by
 have hr:=v55 k hk a b s t
 simp only [kv] at hr
 refine k23.fn (by simp) ?_
 simp only [kv,eES,eEX,seval]
 refine aops_call hr rfl rfl rfl (.inl rfl) ?_
 simp only [eES,seval]

theorem kv_of {v : V} {P : PL} {k tg : Int} (h : v.one P k tg = 0) : v.av = kv k v.bits v.text ∧ (txk k = true → (v.bits : Int) = 0) ∧ (txk k = false → v.text = []):=by
 obtain ⟨h1,_,h3⟩:=one_kd h
 rw [vo_av,h1]
 rw [h1] at h3
 unfold fitv lon at h3
 simp only [Bool.and_eq_true,beq_iff_eq] at h3
 obtain ⟨⟨⟨⟨⟨_,⟨⟨⟨e1,e2⟩,e3⟩,e4⟩⟩,h4⟩,_⟩,_⟩,_⟩:=h3
 have f1:=List.length_eq_zero_iff.1 (Int.ofNat_eq_zero.1 e1)
 have f2:=List.length_eq_zero_iff.1 (Int.ofNat_eq_zero.1 e2)
 have f3:=List.length_eq_zero_iff.1 (Int.ofNat_eq_zero.1 e3)
 have f4:=List.length_eq_zero_iff.1 (Int.ofNat_eq_zero.1 e4)
 rw [f1,f2,f3,f4]
 refine ⟨rfl,fun ht => ?_,fun ht => ?_⟩
 ·rw [if_pos ht] at h4; simpa using h4
 ·rw [if_neg (by simp [ht])] at h4; simpa using h4

theorem cmi_keq {x y : V} {P : PL} {k tg : Int} (_hk : keyk k) (hx : x.one P k tg = 0) (hy : y.one P k tg = 0) (bx : x.bits < 18446744073709551616) (bY : y.bits < 18446744073709551616) : (cmi k x.bits x.text y.bits y.text == 0) = keq x y:=by
 obtain ⟨_,x1,x2⟩:=kv_of hx
 obtain ⟨_,y1,y2⟩:=kv_of hy
 rw [Bool.eq_iff_iff,beq_iff_eq]
 unfold keq cmi
 simp only [Bool.and_eq_true,beq_iff_eq]
 split
 ·rename_i ht
  have:=x1 ht
  have:=y1 ht
  rw [cS_zero]
  exact ⟨fun h => ⟨by omega,h⟩,fun h => h.2⟩
 ·rename_i ht
  have ht : txk k = false:=by simpa using ht
  rw [x2 ht,y2 ht]
  split
  ·rw [cN_zero,wi64,wi64]
   exact ⟨fun h => ⟨by omega,rfl⟩,fun h => by rw [h.1]⟩
  ·rw [cN_zero]
   exact ⟨fun h => ⟨by omega,rfl⟩,fun h => by rw [h.1]⟩

theorem cmr_keq {x y : V} {P : PL} {k tg : Int} (_hk : keyk k) (hx : x.one P k tg = 0) (hy : y.one P k tg = 0) (bx : x.bits < 18446744073709551616) (bY : y.bits < 18446744073709551616) : (cmr k x.bits x.text y.bits y.text == 0) = keq x y:=by
 obtain ⟨_,x1,x2⟩:=kv_of hx
 obtain ⟨_,y1,y2⟩:=kv_of hy
 rw [Bool.eq_iff_iff,beq_iff_eq]
 unfold keq cmr
 simp only [Bool.and_eq_true,beq_iff_eq]
 split
 ·rename_i ht
  have:=x1 ht
  have:=y1 ht
  rw [cS_zero]
  exact ⟨fun h => ⟨by omega,h⟩,fun h => h.2⟩
 ·rename_i ht
  have ht : txk k = false:=by simpa using ht
  rw [x2 ht,y2 ht]
  unfold rkk
  split
  ·rw [cN_zero,wu64,wu64]
   exact ⟨fun h => ⟨by omega,rfl⟩,fun h => by rw [h.1]⟩
  ·rw [cN_zero]
   exact ⟨fun h => ⟨by omega,rfl⟩,fun h => by rw [h.1]⟩

open Up

def vc (x : V) : List AV:=[.int .i64 x.kd,.int .u64 (x.bits : Nat),.str x.text,.list (x.list.map V.av),.list (x.pairs.map V.pav),.list (x.slots.map V.sav),.list (x.raws.map R.av)]
theorem av7 (x : V) : x.av = .agg [.int .i64 x.kd,.int .u64 (x.bits : Nat),.str x.text,.list (x.list.map V.av),.list (x.pairs.map V.pav),.list (x.slots.map V.sav),.list (x.raws.map R.av)]:=by
 rw [V.av,V.eta]
theorem pav14 (p : V × V) : V.pav p = .agg [.int .i64 p.1.kd,.int .u64 (p.1.bits : Nat),.str p.1.text,.list (p.1.list.map V.av),.list (p.1.pairs.map V.pav),.list (p.1.slots.map V.sav),.list (p.1.raws.map R.av),.int .i64 p.2.kd,.int .u64 (p.2.bits : Nat),.str p.2.text,.list (p.2.list.map V.av),.list (p.2.pairs.map V.pav),.list (p.2.slots.map V.sav),.list (p.2.raws.map R.av)]:=by
 rw [V.pav,V.eta,V.eta]; rfl
theorem sav8 (s : Int × V) : V.sav s = .agg [.int .i64 s.1,.int .i64 s.2.kd,.int .u64 (s.2.bits : Nat),.str s.2.text,.list (s.2.list.map V.av),.list (s.2.pairs.map V.pav),.list (s.2.slots.map V.sav),.list (s.2.raws.map R.av)]:=by
 rw [V.sav,V.eta]
theorem getV {l : List V} {i : Nat} {x : V} (h : l[i]? = some x) : (l.map V.av)[i]? = some (.agg [.int .i64 x.kd,.int .u64 (x.bits : Nat),.str x.text,.list (x.list.map V.av),.list (x.pairs.map V.pav),.list (x.slots.map V.sav),.list (x.raws.map R.av)]):=by
 rw [List.getElem?_map,h,Option.map_some,av7]
theorem getP {l : List (V × V)} {i : Nat} {p : V × V} (h : l[i]? = some p) : (l.map V.pav)[i]? = some (.agg [.int .i64 p.1.kd,.int .u64 (p.1.bits : Nat),.str p.1.text,.list (p.1.list.map V.av),.list (p.1.pairs.map V.pav),.list (p.1.slots.map V.sav),.list (p.1.raws.map R.av),.int .i64 p.2.kd,.int .u64 (p.2.bits : Nat),.str p.2.text,.list (p.2.list.map V.av),.list (p.2.pairs.map V.pav),.list (p.2.slots.map V.sav),.list (p.2.raws.map R.av)]):=by
 rw [List.getElem?_map,h,Option.map_some,pav14]
theorem getS {l : List (Int × V)} {i : Nat} {s : Int × V} (h : l[i]? = some s) : (l.map V.sav)[i]? = some (.agg [.int .i64 s.1,.int .i64 s.2.kd,.int .u64 (s.2.bits : Nat),.str s.2.text,.list (s.2.list.map V.av),.list (s.2.pairs.map V.pav),.list (s.2.slots.map V.sav),.list (s.2.raws.map R.av)]):=by
 rw [List.getElem?_map,h,Option.map_some,sav8]

structure UO (P : PL) (o : PO) : Prop where
 tgt : o.kind = 10 → 0 ≤ o.target ∧ o.target < (P.progs.length : Int)
 enm : o.kind = 9 → 0 ≤ o.target ∧ o.target < (P.enums.length : Int)
 key : o.card = 5 → keyk o.key
def Use (P : PL) : Prop:=∀ g ∈ P.progs,∀ o ∈ g.ops,UO P o

theorem use_of {P : PL} (h : ck P = 0) : Use P:=by
 unfold ck at h
 split at h
 ·omega
 split at h
 ·omega
 split at h
 ·omega
 split at h
 ·omega
 split at h
 ·omega
 split at h
 ·omega
 rename_i ha
 have ha : args P = true:=by simpa using ha
 intro g hg o ho
 unfold args at ha
 simp only [Bool.and_eq_true,List.all_eq_true] at ha
 have h1:=ha.1 g hg
 unfold argG at h1
 simp only [Bool.and_eq_true,List.all_eq_true] at h1
 have h2:=(h1.2 o ho).1
 unfold arg1 at h2
 simp only [Bool.and_eq_true,decide_eq_true_eq] at h2
 obtain ⟨⟨_,hk⟩,hm⟩:=h2
 refine ⟨fun h => ?_,fun h => ?_,fun h => ?_⟩
 ·unfold aim at hm
  rw [if_pos h] at hm
  simp only [Bool.and_eq_true,decide_eq_true_eq] at hm
  exact hm.1
 ·unfold aim at hm
  rw [if_neg (by omega),if_pos h] at hm
  simp only [Bool.and_eq_true,decide_eq_true_eq] at hm
  exact hm
 ·unfold Va.key at hk
  rw [if_pos h] at hk
  simp only [Bool.and_eq_true,decide_eq_true_eq,bne_iff_ne] at hk
  unfold keyk
  omega

section
variable {M : Nat} {P : PL} (hP : P.ok M) (hM : M ≤ 140737488351232) {m : PG → V → Int} {lv lv1 : Int} (hw : IntKind.i64.wrap (lv + 1) = lv1)

include hP in
theorem one_i (k tg : Int) {v : V} (hv : v.ok M) : Fn1 Tryz.prog 169 [P.av,.int .i64 k,.int .i64 tg,v.av] (.int .i64 (v.one P k tg)):=by
 rw [vo_av]
 exact z169 P hP k tg _ _ _ _ _ _ _ (by have:=hv.nl; simp; omega) (by have:=hv.np; simp; omega) (by have:=hv.ns; simp; omega) (by have:=hv.nr; simp; omega)

include hP hM in
theorem one_r (k tg : Int) {v : V} (hv : v.ok M) : Fn1 Tryz.prog 121 [P.av,.int .i64 k,.int .i64 tg,v.av] (.int .i64 (v.one P k tg)):=by
 rw [vo_av]
 exact z121 P hP k tg _ _ _ _ _ _ _ (by have:=hv.text; simp only [maxLen]; omega) (by have:=hv.ns; simp; omega) (by have:=hv.nr; simp; omega)

include hP hw in
theorem v140 (hm : ∀ g ∈ P.progs,∀ v : V,v.ok M → Fn1 Tryz.prog 27 [P.av,gav g,v.av,.int .i64 lv1] (.int .i64 (m g v))) (o : PO) (ho : UO P o) (v : V) (hv : v.ok M) :
  Fn1 Tryz.prog 140 [P.av,oav o,v.av,.int .i64 lv] (.int .i64 (elemF m P o v)):=by
 have e0 : P.av = .agg [.list (P.progs.map gav),.list (P.enums.map eav)]:=rfl
 have h1:=one_i hP o.kind o.target hv
 rw [e0,av7] at h1
 rw [av7]
 refine k140.fn (by simp) ?_
 simp only [e0,oav,PO.cells,elemF,eES,eEX,seval]
 by_cases hk : o.kind = 10
 ·have b : (o.kind == 10) = true:=by simp [hk]
  obtain ⟨t0,t1⟩:=ho.tgt hk
  obtain ⟨i,hi⟩:=Int.eq_ofNat_of_zero_le t0
  have hlt : i < P.progs.length:=by omega
  obtain ⟨g,hg⟩ : ∃ g,P.progs[i]? = some g:=⟨P.progs[i],List.getElem?_eq_getElem hlt⟩
  have hga : (P.progs.map gav)[i]? = some (.agg g.cells):=by simp [hg,gav]
  have hq : gat P o.target = g:=by unfold gat; rw [hi,Int.toNat_natCast,hg]; rfl
  have h2:=hm g (List.mem_of_getElem? hg) v hv
  rw [e0,av7] at h2
  simp only [gav,PG.cells] at h2
  simp only [PG.cells] at hga
  rw [if_pos hk,hq]
  simp only [b,hi,nneg,Int.toNat_natCast,aiaddr,hga,hw,eES,eEX,seval]
  refine aops_call h2 rfl rfl rfl (.inl rfl) ?_
  simp only [eES,seval]
 ·have b : (o.kind == 10) = false:=by simp [hk]
  rw [if_neg hk]
  simp only [b,eES,eEX,seval]
  refine aops_call h1 rfl rfl rfl (.inl rfl) ?_
  simp only [eES,seval]

include hP hM hw in
theorem v77 (hm : ∀ (t : Int) (g : PG),P.progs[t.toNat]? = some g → 0 ≤ t → ∀ v : V,v.ok M → Fn1 Tryz.prog 14 [P.av,.int .i64 t,v.av,.int .i64 lv1] (.int .i64 (m g v))) (o : PO) (ho : UO P o) (v : V) (hv : v.ok M) :
  Fn1 Tryz.prog 77 [P.av,oav o,v.av,.int .i64 lv] (.int .i64 (elemF m P o v)):=by
 have e0 : P.av = .agg [.list (P.progs.map gav),.list (P.enums.map eav)]:=rfl
 have h1:=one_r hP hM o.kind o.target hv
 rw [e0,av7] at h1
 rw [av7]
 refine k77.fn (by simp) ?_
 simp only [e0,oav,PO.cells,elemF,eES,eEX,seval]
 by_cases hk : o.kind = 10
 ·have b : (o.kind == 10) = true:=by simp [hk]
  obtain ⟨t0,t1⟩:=ho.tgt hk
  obtain ⟨g,hg⟩ : ∃ g,P.progs[o.target.toNat]? = some g:=⟨P.progs[o.target.toNat]'(by omega),List.getElem?_eq_getElem (by omega)⟩
  have hq : gat P o.target = g:=by unfold gat; rw [hg]; rfl
  have h2:=hm o.target g hg t0 v hv
  rw [e0,av7] at h2
  rw [if_pos hk,hq]
  simp only [b,hw,eES,eEX,seval]
  refine aops_call h2 rfl rfl rfl (.inl rfl) ?_
  simp only [eES,seval]
 ·have b : (o.kind == 10) = false:=by simp [hk]
  rw [if_neg hk]
  simp only [b,eES,eEX,seval]
  refine aops_call h1 rfl rfl rfl (.inl rfl) ?_
  simp only [eES,seval]

end

section pairs
variable (L : List (V × V)) (hl : L.length ≤ maxLen) (p : V × V → Bool) (c : Nat) (cap : AV) (m : Mem)

def IxPr (k : Nat) (st : St) : Prop :=
 ∃ f i,st = ⟨f,noObs :: m,[]⟩ ∧ k = L.length - i ∧ fxi p L 0 = fxi p (L.drop i) i ∧ f 0 = .list (L.map V.pav) ∧ f 1 = .fn (.func c) [] [cap.sh] ∧ f 7 = .int .i64 (L.length : Nat) ∧ f 8 = .int .i64 (i : Nat)

include hl in
theorem v196 (hc : ∀ o ∈ L,ACalls Tryz.prog c [V.pav o,cap.sh] (noObs :: m) fun y m1 => y = .bool (p o) ∧ m1 = noObs :: m) :
  ACalls Tryz.prog 196 [.list (L.map V.pav),.fn (.func c) [] [cap]] m fun y m1 => y = .int .i64 (fxi p L 0) ∧ m1 = m:=by
 refine k196.go (by simp) ?_
 simp only [List.length_map,eES,seval]
 refine awp_loop (IxPr L p c cap m) _ ⟨_,0,rfl,rfl,rfl,(by rfl),(by rfl),(by rfl),(by rfl)⟩ ?_
 rintro _ st ⟨f,i,rfl,rfl,hx,h0,h1,h7,h8⟩
 simp only [h7,h8,eES,seval]
 by_cases hlt : i < L.length
 ·obtain ⟨x,hi⟩ : ∃ x,L[i]? = some x:=⟨L[i],List.getElem?_eq_getElem hlt⟩
  have hcl:=hc x (List.mem_of_getElem? hi)
  have hg:=getP hi
  have e1:=wi64_s i _ hlt hl
  rw [pav14] at hcl
  simp only [lt_t hlt,nneg,Int.toNat_natCast,aiaddr,hg,h0,h1,h8,eES,eEX,seval]
  refine aops_callV (fa:=[]) (fb:=[cap.sh]) (by rfl) hcl (by simp only [List.map_cons,List.map_nil,List.nil_append,List.cons_append,eES,seval]) ?_
  rw [fxi_drop p hi] at hx
  cases hp : p x
  ·rw [hp] at hx
   simp only [Bool.false_eq_true,if_false] at hx
   simp only [h8,e1,eES,seval]
   exact ⟨L.length - (i + 1),by omega,_,i + 1,rfl,rfl,hx,(by exact h0),(by exact h1),(by exact h7),(by rfl)⟩
  ·rw [hp] at hx
   simp only [if_true] at hx
   simp only [hx,eES,seval]
 ·have hx' : fxi p L 0 = -1:=by rw [hx,List.drop_of_length_le (by omega)]; rfl
  simp only [lt_f hlt,hx',eES,seval]

include hl in
theorem v170 (hc : ∀ o ∈ L,ACalls Tryz.prog c [V.pav o,cap.sh.sh] (noObs :: noObs :: m) fun y m1 => y = .bool (p o) ∧ m1 = noObs :: noObs :: m) :
  ACalls Tryz.prog 170 [.list (L.map V.pav),.fn (.func c) [] [cap]] m fun y m1 => y = .bool (L.any p) ∧ m1 = m:=by
 refine k170.go (by simp) ?_
 simp only [eES,seval]
 refine aops_callF (v196 L hl p c cap.sh _ hc) (by simp only [List.map_cons,List.map_nil,eES,seval]) ?_
 simp only [fxi_any,eES,seval]

end pairs

section slots
variable (L : List (Int × V)) (hl : L.length ≤ maxLen) (p : Int × V → Bool) (c : Nat) (cap : AV) (m : Mem)

def IxSl (k : Nat) (st : St) : Prop :=
 ∃ f i,st = ⟨f,noObs :: m,[]⟩ ∧ k = L.length - i ∧ fxi p L 0 = fxi p (L.drop i) i ∧ f 0 = .list (L.map V.sav) ∧ f 1 = .fn (.func c) [] [cap.sh] ∧ f 7 = .int .i64 (L.length : Nat) ∧ f 8 = .int .i64 (i : Nat)

include hl in
theorem v102 (hc : ∀ o ∈ L,ACalls Tryz.prog c [V.sav o,cap.sh] (noObs :: m) fun y m1 => y = .bool (p o) ∧ m1 = noObs :: m) :
  ACalls Tryz.prog 102 [.list (L.map V.sav),.fn (.func c) [] [cap]] m fun y m1 => y = .int .i64 (fxi p L 0) ∧ m1 = m:=by
 refine k102.go (by simp) ?_
 simp only [List.length_map,eES,seval]
 refine awp_loop (IxSl L p c cap m) _ ⟨_,0,rfl,rfl,rfl,(by rfl),(by rfl),(by rfl),(by rfl)⟩ ?_
 rintro _ st ⟨f,i,rfl,rfl,hx,h0,h1,h7,h8⟩
 simp only [h7,h8,eES,seval]
 by_cases hlt : i < L.length
 ·obtain ⟨x,hi⟩ : ∃ x,L[i]? = some x:=⟨L[i],List.getElem?_eq_getElem hlt⟩
  have hcl:=hc x (List.mem_of_getElem? hi)
  have hg:=getS hi
  have e1:=wi64_s i _ hlt hl
  rw [sav8] at hcl
  simp only [lt_t hlt,nneg,Int.toNat_natCast,aiaddr,hg,h0,h1,h8,eES,eEX,seval]
  refine aops_callV (fa:=[]) (fb:=[cap.sh]) (by rfl) hcl (by simp only [List.map_cons,List.map_nil,List.nil_append,List.cons_append,eES,seval]) ?_
  rw [fxi_drop p hi] at hx
  cases hp : p x
  ·rw [hp] at hx
   simp only [Bool.false_eq_true,if_false] at hx
   simp only [h8,e1,eES,seval]
   exact ⟨L.length - (i + 1),by omega,_,i + 1,rfl,rfl,hx,(by exact h0),(by exact h1),(by exact h7),(by rfl)⟩
  ·rw [hp] at hx
   simp only [if_true] at hx
   simp only [hx,eES,seval]
 ·have hx' : fxi p L 0 = -1:=by rw [hx,List.drop_of_length_le (by omega)]; rfl
  simp only [lt_f hlt,hx',eES,seval]

include hl in
theorem v62 (hc : ∀ o ∈ L,ACalls Tryz.prog c [V.sav o,cap.sh.sh] (noObs :: noObs :: m) fun y m1 => y = .bool (p o) ∧ m1 = noObs :: noObs :: m) :
  ACalls Tryz.prog 62 [.list (L.map V.sav),.fn (.func c) [] [cap]] m fun y m1 => y = .bool (L.any p) ∧ m1 = m:=by
 refine k62.go (by simp) ?_
 simp only [eES,seval]
 refine aops_callF (v102 L hl p c cap.sh _ hc) (by simp only [List.map_cons,List.map_nil,eES,seval]) ?_
 simp only [fxi_any,eES,seval]

end slots


theorem bits_lt {M : Nat} {v : V} (h : v.ok M) : v.bits < 18446744073709551616:=by
 have:=u64_hi h.bits
 omega

section
variable {M : Nat} {P : PL} (hP : P.ok M) (hM : M ≤ 140737488351232) {m : PG → V → Int} {lv : Int} (o : PO) (ho : UO P o) (h5 : o.card = 5) (ps : List (V × V)) (hn : ps.length ≤ maxLen) (hk : ∀ x ∈ ps,x.1.ok M) (hv : ∀ x ∈ ps,x.2.ok M)

theorem v171 {k : Int} (kk : keyk k) (q p : V × V) (hq : q.1.one P k (-1) = 0) (hp : p.1.one P k (-1) = 0) (bq : q.1.ok M) (bp : p.1.ok M) (frO : Nat → Ob) (hf : ∀ c,V.pav p = .agg c → frO 10 = .cells c) :
  ACalls Tryz.prog 171 [V.pav q,.ptr 2 10 0] [noObs,noObs,frO] fun y m1 => y = .bool (keq q.1 p.1) ∧ m1 = [noObs,noObs,frO]:=by
 have h:=v85 k kk q.1.bits p.1.bits q.1.text p.1.text
 have hf:=hf _ (pav14 p)
 rw [← (kv_of hq).1,← (kv_of hp).1,cmi_keq kk hq hp (bits_lt bq) (bits_lt bp),av7,av7] at h
 rw [pav14]
 refine k171.go (by simp) ?_
 simp only [hf,eES,eEX,seval]
 refine aops_call h rfl rfl rfl (.inl rfl) ?_
 simp only [eES,seval]

def EnI (m : PG → V → Int) (P : PL) (lv : Int) (o : PO) (ps : List (V × V)) (k : Nat) (st : St) : Prop :=
 ∃ f fr i,st = ⟨f,[fr],[]⟩ ∧ k = ps.length - i ∧ fei (entF m P o ps) ps.length 0 = fei (entF m P o ps) (ps.length - i) i ∧ (∀ j y,j < i → ps[j]? = some y → y.1.one P o.key (-1) = 0) ∧ f 2 = .list (ps.map V.pav) ∧ f 3 = .int .i64 lv ∧ f 4 = .ptr 0 4 0 ∧ f 5 = .ptr 0 5 0 ∧ f 13 = .list (ps.map V.pav) ∧ f 14 = .int .i64 (ps.length : Nat) ∧ f 15 = .int .i64 (i : Nat) ∧ fr 4 = .cells [.list (P.progs.map gav),.list (P.enums.map eav)] ∧ fr 5 = .cells o.cells ∧ ∀ s ∈ [10],(fr s).isRow = false

include hP ho h5 hn hk hv in
theorem v141 (hel : ∀ v : V,v.ok M → Fn1 Tryz.prog 140 [P.av,oav o,v.av,.int .i64 lv] (.int .i64 (elemF m P o v))) :
  Fn1 Tryz.prog 141 [P.av,oav o,.list (ps.map V.pav),.int .i64 lv] (.int .i64 (fei (entF m P o ps) ps.length 0)):=by
 have e0 : P.av = .agg [.list (P.progs.map gav),.list (P.enums.map eav)]:=rfl
 have kk:=ho.key h5
 refine k141.fn (by simp) ?_
 simp only [e0,oav,PO.cells,List.length_map,eES,eEX,seval]
 refine awp_loop (EnI m P lv o ps) _ ⟨_,_,0,rfl,rfl,rfl,(by intro j y h; omega),(by rfl),(by rfl),(by rfl),(by rfl),(by rfl),(by rfl),(by rfl),(by rfl),(by rfl),by simp <;> rfl⟩ ?_
 rintro _ st ⟨f0,fr0,i,rfl,rfl,hx,hks,h20,h30,h40,h50,h130,h140,h150,m40,m50,r10⟩
 refine awp_drops (a:=_) [10] r10 ?_
 intro f fr hf hm hn10
 have h2 : f 2 = .list (ps.map V.pav):=by rw [hf,h20] <;> rfl
 have h3 : f 3 = .int .i64 lv:=by rw [hf,h30] <;> rfl
 have h4 : f 4 = .ptr 0 4 0:=by rw [hf,h40] <;> rfl
 have h5' : f 5 = .ptr 0 5 0:=by rw [hf,h50] <;> rfl
 have h13 : f 13 = .list (ps.map V.pav):=by rw [hf,h130] <;> rfl
 have h14 : f 14 = .int .i64 (ps.length : Nat):=by rw [hf,h140] <;> rfl
 have h15 : f 15 = .int .i64 (i : Nat):=by rw [hf,h150] <;> rfl
 have m4 : fr 4 = .cells [.list (P.progs.map gav),.list (P.enums.map eav)]:=by rw [hm 4 (by decide),m40] <;> rfl
 have m5 : fr 5 = .cells o.cells:=by rw [hm 5 (by decide),m50] <;> rfl
 have n10:=hn10 10 (by decide)
 clear hf hm hn10 h20 h30 h40 h50 h130 h140 h150 m40 m50 r10
 have m5':=m5
 simp only [PO.cells] at m5
 simp only [h14,h15,eES,seval]
 by_cases hlt : i < ps.length
 ·obtain ⟨x,hi⟩ : ∃ x,ps[i]? = some x:=⟨ps[i],List.getElem?_eq_getElem hlt⟩
  have hxm:=List.mem_of_getElem? hi
  have hg:=getP hi
  have e1:=wi64_s i _ hlt hn
  have hle : (i ≤ ps.length) = True:=eq_true (by omega)
  have c1:=one_i hP o.key (-1) (hk x hxm)
  have c2:=hel x.2 (hv x hxm)
  rw [e0,av7] at c1 c2
  simp only [oav,PO.cells] at c2
  simp only [lt_t hlt,nneg,Int.toNat_natCast,aiaddr,hg,n10,splice,List.take_succ_cons,List.take_zero,List.drop_succ_cons,List.drop_zero,List.drop_nil,List.append_nil,List.nil_append,List.length_cons,List.length_nil,h4,h5',h13,h15,m4,m5,eES,eEX,seval]
  refine aops_call c1 rfl rfl rfl (.inl rfl) ?_
  by_cases hz : x.1.one P o.key (-1) = 0
  ·have d0 : ((0 : Int) != 0) = false:=rfl
   have hcl:=fun (fr : Nat → Ob) (h10 : ∀ c,V.pav x = .agg c → fr 10 = .cells c) => v170 (ps.take i) (by rw [List.length_take]; omega) (fun q => keq q.1 x.1) 171 (.ptr 0 10 0) [fr] fun q hq => by
    obtain ⟨j,hj⟩:=List.mem_iff_getElem?.1 hq
    have hlj:=(List.getElem?_eq_some_iff.1 hj).1
    rw [List.length_take] at hlj
    rw [List.getElem?_take,if_pos (by omega)] at hj
    exact v171 kk q x (hks j q (by omega) hj) hz (hk q (List.mem_of_getElem? hj)) (hk x hxm) fr h10
   simp only [hz,d0,h2,bnd,lenA,aslice,Option.getD_none,List.length_map,nneg,Int.toNat_natCast,Nat.zero_le,Nat.le_refl,hle,true_or,Nat.sub_zero,← List.map_take,eES,seval]
   refine aops_callF (hcl _ (fun c hc => by rw [pav14] at hc; cases hc; exact (by rfl))) (by simp only [List.map_cons,List.map_nil,eES,seval] <;> rfl) ?_
   cases ha : (ps.take i).any (fun q => keq q.1 x.1)
   ·have he : entF m P o ps i = elemF m P o x.2:=by rw [entF_at hi,if_pos hz,ha,if_neg (by simp)]
    simp only [h3,h4,h5',m4,m5,eES,eEX,seval]
    refine aops_call c2 rfl rfl rfl (.inl rfl) ?_
    by_cases hy : elemF m P o x.2 = 0
    ·rw [fei_go hlt (he.trans hy)] at hx
     simp only [hy,d0,h15,e1,eES,seval]
     refine ⟨ps.length - (i + 1),by omega,_,_,i + 1,rfl,rfl,hx,?_,(by exact h2),(by exact h3),(by exact h4),(by exact h5'),(by exact h13),(by exact h14),(by rfl),(by exact m4),(by exact m5'),by simp <;> rfl⟩
     intro j y hj hjy
     by_cases e : j = i
     ·subst e
      rw [hi] at hjy
      cases hjy
      exact hz
     ·exact hks j y (by omega) hjy
    ·rw [fei_st hlt he hy] at hx
     have d1 : (elemF m P o x.2 != 0) = true:=by simp [hy]
     simp only [d1,hx,eES,seval]
   ·rw [fei_st hlt (v:=9) (by rw [entF_at hi,if_pos hz,ha,if_pos rfl]) (by decide)] at hx
    simp only [hx,eES,seval]
  ·rw [fei_st hlt ((entF_at hi).trans (if_neg hz)) hz] at hx
   have d1 : (x.1.one P o.key (-1) != 0) = true:=by simp [hz]
   simp only [d1,hx,eES,seval]
 ·rw [fei_end hlt] at hx
  simp only [lt_f hlt,hx,eES,seval]

theorem keys_loop {k : Int} (kk : keyk k) (i : Nat) (x : V × V) (hi : ps[i]? = some x) (hz : x.1.one P k (-1) = 0) (hks : ∀ j y,j < i → ps[j]? = some y → y.1.one P k (-1) = 0) (hn : ps.length ≤ maxLen) (hk : ∀ x ∈ ps,x.1.ok M) (f : Fr) (fr : Nat → Ob) (lv : Int) (h2 : f 2 = .list (ps.map V.pav)) (h3 : f 3 = .int .i64 lv) (h4 : f 4 = .ptr 0 4 0) (h5 : f 5 = .ptr 0 5 0) (h9 : f 9 = .int .i64 (i : Nat)) (h11 : f 11 = .int .i64 0) (Q : Exit → St → Prop)
  (q1 : (ps.take i).any (fun q => keq q.1 x.1) = true → ∀ f,f 8 = .int .i64 9 → Q .ret (⟨f,[fr],[]⟩ : St))
  (q2 : (ps.take i).any (fun q => keq q.1 x.1) = false → ∀ f,f 2 = .list (ps.map V.pav) → f 3 = .int .i64 lv → f 4 = .ptr 0 4 0 → f 5 = .ptr 0 5 0 → f 9 = .int .i64 (i : Nat) → Q (.exit 2) (⟨f,[fr],[]⟩ : St)) :
  awp Tryz.prog (.loop l76_0) ⟨f,[fr],[]⟩ Q:=by
 let I : Nat → St → Prop:=fun k st => ∃ f j,st = ⟨f,[fr],[]⟩ ∧ k = i - j ∧ j ≤ i ∧ (ps.take j).any (fun q => keq q.1 x.1) = false ∧ f 2 = .list (ps.map V.pav) ∧ f 3 = .int .i64 lv ∧ f 4 = .ptr 0 4 0 ∧ f 5 = .ptr 0 5 0 ∧ f 9 = .int .i64 (i : Nat) ∧ f 11 = .int .i64 (j : Nat)
 refine awp_loop I _ ⟨f,0,rfl,rfl,Nat.zero_le _,by simp,h2,h3,h4,h5,h9,h11⟩ ?_
 clear h2 h3 h4 h5 h9 h11
 rintro _ st ⟨f,j,rfl,rfl,hji,ha,h2,h3,h4,h5,h9,h11⟩
 have hil:=(List.getElem?_eq_some_iff.1 hi).1
 simp only [h9,h11,eES,seval]
 by_cases hlt : j < i
 ·obtain ⟨y,hj⟩ : ∃ y,ps[j]? = some y:=⟨ps[j]'(by omega),List.getElem?_eq_getElem (by omega)⟩
  have hg:=getP hj
  have hgi:=getP hi
  have e1:=wi64_s j i hlt (by omega)
  have hy:=hks j y hlt hj
  have h:=v23 k kk y.1.bits x.1.bits y.1.text x.1.text
  rw [← (kv_of hy).1,← (kv_of hz).1,cmr_keq kk hy hz (bits_lt (hk y (List.mem_of_getElem? hj))) (bits_lt (hk x (List.mem_of_getElem? hi))),av7,av7] at h
  have ht : (ps.take (j + 1)).any (fun q => keq q.1 x.1) = keq y.1 x.1:=by
   rw [List.take_add_one,hj,List.any_append,ha]
   simp
  simp only [lt_t hlt,nneg,Int.toNat_natCast,aiaddr,hg,hgi,h2,h9,h11,List.take_succ_cons,List.take_zero,List.drop_zero,eES,eEX,seval]
  refine aops_call h rfl rfl rfl (.inl rfl) ?_
  cases hq : keq y.1 x.1
  ·simp only [h11,e1,eES,seval]
   exact ⟨i - (j + 1),by omega,_,j + 1,rfl,rfl,by omega,by rw [ht,hq],(by exact h2),(by exact h3),(by exact h4),(by exact h5),(by exact h9),(by rfl)⟩
  ·simp only [eES,seval]
   refine q1 ?_ _ (by rfl)
   refine List.any_eq_true.2 ⟨y,?_,hq⟩
   exact List.mem_of_getElem? (i:=j) (by rw [List.getElem?_take,if_pos hlt]; exact hj)
 ·have e : j = i:=by omega
  subst e
  simp only [lt_f hlt,eES,seval]
  exact q2 ha _ (by exact h2) (by exact h3) (by exact h4) (by exact h5) (by exact h9)

def QaI (m : PG → V → Int) (P : PL) (lv : Int) (o : PO) (ps : List (V × V)) (k : Nat) (st : St) : Prop :=
 ∃ f fr i,st = ⟨f,[fr],[]⟩ ∧ k = ps.length - i ∧ fei (entF m P o ps) ps.length 0 = fei (entF m P o ps) (ps.length - i) i ∧ (∀ j y,j < i → ps[j]? = some y → y.1.one P o.key (-1) = 0) ∧ f 2 = .list (ps.map V.pav) ∧ f 3 = .int .i64 lv ∧ f 4 = .ptr 0 4 0 ∧ f 5 = .ptr 0 5 0 ∧ f 9 = .int .i64 (i : Nat) ∧ fr 4 = .cells [.list (P.progs.map gav),.list (P.enums.map eav)] ∧ fr 5 = .cells o.cells

include hP hM ho h5 hn hk hv in
theorem v76 (hel : ∀ v : V,v.ok M → Fn1 Tryz.prog 77 [P.av,oav o,v.av,.int .i64 lv] (.int .i64 (elemF m P o v))) :
  Fn1 Tryz.prog 76 [P.av,oav o,.list (ps.map V.pav),.int .i64 lv] (.int .i64 (fei (entF m P o ps) ps.length 0)):=by
 have e0 : P.av = .agg [.list (P.progs.map gav),.list (P.enums.map eav)]:=rfl
 have kk:=ho.key h5
 refine k76.fn (by simp) ?_
 simp only [e0,oav,PO.cells,eES,eEX,seval]
 refine awp_loop (QaI m P lv o ps) _ ⟨_,_,0,rfl,rfl,rfl,(by intro j y h; omega),(by rfl),(by rfl),(by rfl),(by rfl),(by rfl),(by rfl),(by rfl)⟩ ?_
 rintro _ st ⟨f,fr,i,rfl,rfl,hx,hks,h2,h3,h4,h5',h9,m4,m5⟩
 have m5':=m5
 simp only [PO.cells] at m5
 simp only [List.length_map,h2,h9,eES,seval]
 by_cases hlt : i < ps.length
 ·obtain ⟨x,hi⟩ : ∃ x,ps[i]? = some x:=⟨ps[i],List.getElem?_eq_getElem hlt⟩
  have hxm:=List.mem_of_getElem? hi
  have hg:=getP hi
  have e1:=wi64_s i _ hlt hn
  have c1:=one_r hP hM o.key (-1) (hk x hxm)
  have c2:=hel x.2 (hv x hxm)
  rw [e0,av7] at c1 c2
  simp only [oav,PO.cells] at c2
  simp only [lt_t hlt,nneg,Int.toNat_natCast,aiaddr,hg,List.take_succ_cons,List.take_zero,List.drop_zero,h2,h4,h5',h9,m4,m5,eES,eEX,seval]
  refine aops_call c1 rfl rfl rfl (.inl rfl) ?_
  by_cases hz : x.1.one P o.key (-1) = 0
  ·have d0 : ((0 : Int) != 0) = false:=rfl
   simp only [hz,d0,eES,seval]
   refine keys_loop ps kk i x hi hz hks hn hk _ _ lv (by exact h2) (by exact h3) (by exact h4) (by exact h5') (by exact h9) (by rfl) _ (fun ha f h8 => ?_) (fun ha f h2 h3 h4 h5' h9 => ?_)
   ·rw [fei_st hlt (v:=9) (by rw [entF_at hi,if_pos hz,ha,if_pos rfl]) (by decide)] at hx
    simp only [hx,h8,eES,seval]
   ·have he : entF m P o ps i = elemF m P o x.2:=by rw [entF_at hi,if_pos hz,ha,if_neg (by simp)]
    simp only [nneg,Int.toNat_natCast,aiaddr,hg,List.take_succ_cons,List.drop_succ_cons,List.drop_zero,h2,h3,h4,h5',h9,m4,m5,eES,eEX,seval]
    refine aops_call c2 rfl rfl rfl (.inl rfl) ?_
    by_cases hy : elemF m P o x.2 = 0
    ·rw [fei_go hlt (he.trans hy)] at hx
     simp only [hy,d0,h9,e1,eES,seval]
     refine ⟨ps.length - (i + 1),by omega,_,_,i + 1,rfl,rfl,hx,?_,(by exact h2),(by exact h3),(by exact h4),(by exact h5'),(by rfl),(by exact m4),(by exact m5')⟩
     intro j y hj hjy
     by_cases e : j = i
     ·subst e
      rw [hi] at hjy
      cases hjy
      exact hz
     ·exact hks j y (by omega) hjy
    ·rw [fei_st hlt he hy] at hx
     have d1 : (elemF m P o x.2 != 0) = true:=by simp [hy]
     simp only [d1,hx,eES,seval]
  ·rw [fei_st hlt ((entF_at hi).trans (if_neg hz)) hz] at hx
   have d1 : (x.1.one P o.key (-1) != 0) = true:=by simp [hz]
   simp only [d1,hx,eES,seval]
 ·rw [fei_end hlt] at hx
  simp only [lt_f hlt,hx,eES,seval]

end

section
variable {M : Nat} {P : PL} (hP : P.ok M) (hM : M ≤ 140737488351232) {m : PG → V → Int} {lv : Int} (o : PO) (ho : UO P o) (v : V) (hv : v.ok M)

include hv in
theorem oth_i : Fn1 Tryz.prog 60 [v.av] (.bool v.oth):=by
 rw [vo_av]
 exact z60 _ _ _ _ _ _ _ (by have:=hv.ns; simp; omega) (by have:=hv.nr; simp; omega)
include hv in
theorem oth_r : Fn1 Tryz.prog 38 [v.av] (.bool v.oth):=by
 rw [vo_av]
 exact z38 _ _ _ _ _ _ _ (by have:=hv.ns; simp; omega) (by have:=hv.nr; simp; omega)

def FiI (m : PG → V → Int) (P : PL) (lv : Int) (o : PO) (v : V) (k : Nat) (st : St) : Prop :=
 ∃ f fr i,st = ⟨f,[fr],[]⟩ ∧ k = v.list.length - i ∧ fei (lstF m P o v.list) v.list.length 0 = fei (lstF m P o v.list) (v.list.length - i) i ∧ f 3 = .int .i64 lv ∧ f 4 = .ptr 0 4 0 ∧ f 5 = .ptr 0 5 0 ∧ f 24 = .list (v.list.map V.av) ∧ f 25 = .int .i64 (v.list.length : Nat) ∧ f 26 = .int .i64 (i : Nat) ∧ fr 4 = .cells [.list (P.progs.map gav),.list (P.enums.map eav)] ∧ fr 5 = .cells o.cells ∧ ∀ s ∈ [10],(fr s).isRow = false

include hP ho hv in
theorem v101 (hel : ∀ v : V,v.ok M → Fn1 Tryz.prog 140 [P.av,oav o,v.av,.int .i64 lv] (.int .i64 (elemF m P o v))) :
  Fn1 Tryz.prog 101 [P.av,oav o,v.av,.int .i64 lv] (.int .i64 (fieldF m P o v)):=by
 have e0 : P.av = .agg [.list (P.progs.map gav),.list (P.enums.map eav)]:=rfl
 have co:=oth_i v hv
 have ce:=fun h5 => v141 hP o ho h5 v.pairs (by have:=hv.np; simp only [maxLen]; omega) hv.keys hv.vals hel
 have cv:=hel v hv
 rw [e0,av7] at cv
 rw [av7] at co
 simp only [e0,oav,PO.cells] at ce cv
 rw [av7]
 refine k101.fn (by simp) ?_
 simp only [e0,oav,PO.cells,eES,eEX,seval]
 unfold fieldF
 by_cases h4 : o.card = 4
 ·have b4 : (o.card == 4) = true:=by simp [h4]
  have n5 : ¬ o.card = 5:=by omega
  rw [if_neg n5,if_pos h4]
  simp only [b4,eES,eEX,seval]
  cases a1 : (v.kd != 11)
  ·simp only [Bool.false_or,eES,eEX,seval]
   refine aops_call co rfl rfl rfl (.inl rfl) ?_
   cases a2 : v.oth
   ·simp only [Bool.false_eq_true,List.length_map,eES,eEX,seval]
    refine awp_loop (FiI m P lv o v) _ ⟨_,_,0,rfl,rfl,rfl,(by rfl),(by rfl),(by rfl),(by rfl),(by rfl),(by rfl),(by rfl),(by rfl),by simp <;> rfl⟩ ?_
    rintro _ st ⟨f0,fr0,i,rfl,rfl,hx,h30,h40,h50,h240,h250,h260,m40,m50,r10⟩
    refine awp_drops (a:=_) [10] r10 ?_
    intro f fr hf hm hn10
    have h3 : f 3 = .int .i64 lv:=by rw [hf,h30] <;> rfl
    have h4 : f 4 = .ptr 0 4 0:=by rw [hf,h40] <;> rfl
    have h5 : f 5 = .ptr 0 5 0:=by rw [hf,h50] <;> rfl
    have h24 : f 24 = .list (v.list.map V.av):=by rw [hf,h240] <;> rfl
    have h25 : f 25 = .int .i64 (v.list.length : Nat):=by rw [hf,h250] <;> rfl
    have h26 : f 26 = .int .i64 (i : Nat):=by rw [hf,h260] <;> rfl
    have m4 : fr 4 = .cells [.list (P.progs.map gav),.list (P.enums.map eav)]:=by rw [hm 4 (by decide),m40] <;> rfl
    have m5 : fr 5 = .cells o.cells:=by rw [hm 5 (by decide),m50] <;> rfl
    have n10:=hn10 10 (by decide)
    clear hf hm hn10 h30 h40 h50 h240 h250 h260 m40 m50 r10
    have m5':=m5
    simp only [PO.cells] at m5
    simp only [h25,h26,eES,seval]
    by_cases hlt : i < v.list.length
    ·obtain ⟨x,hi⟩ : ∃ x,v.list[i]? = some x:=⟨v.list[i],List.getElem?_eq_getElem hlt⟩
     have hg:=getV hi
     have e1:=wi64_s i _ hlt (by have:=hv.nl; simp only [maxLen]; omega)
     have c2:=hel x (hv.list x (List.mem_of_getElem? hi))
     rw [e0,av7] at c2
     simp only [oav,PO.cells] at c2
     simp only [lt_t hlt,nneg,Int.toNat_natCast,aiaddr,hg,n10,splice,List.take_succ_cons,List.take_zero,List.drop_succ_cons,List.drop_zero,List.drop_nil,List.append_nil,List.nil_append,List.length_cons,List.length_nil,h3,h4,h5,h24,h26,m4,m5,eES,eEX,seval]
     refine aops_call c2 rfl rfl rfl (.inl rfl) ?_
     by_cases hy : elemF m P o x = 0
     ·rw [fei_go hlt ((lstF_at hi).trans hy)] at hx
      have d0 : ((0 : Int) != 0) = false:=rfl
      simp only [hy,d0,h26,e1,eES,seval]
      exact ⟨v.list.length - (i + 1),by omega,_,_,i + 1,rfl,rfl,hx,(by exact h3),(by exact h4),(by exact h5),(by exact h24),(by exact h25),(by rfl),(by exact m4),(by exact m5'),by simp <;> rfl⟩
     ·rw [fei_st hlt (lstF_at hi) hy] at hx
      have d1 : (elemF m P o x != 0) = true:=by simp [hy]
      simp only [d1,hx,eES,seval]
    ·rw [fei_end hlt] at hx
     simp only [lt_f hlt,hx,eES,seval]
   ·simp only [eES,seval]
  ·simp only [Bool.true_or,eES,seval]
 ·have b4 : (o.card == 4) = false:=by simp [h4]
  by_cases h5 : o.card = 5
  ·have b5 : (o.card == 5) = true:=by simp [h5]
   rw [if_pos h5]
   simp only [b4,b5,eES,eEX,seval]
   cases a1 : (v.kd != 12)
   ·simp only [Bool.false_or,eES,eEX,seval]
    refine aops_call co rfl rfl rfl (.inl rfl) ?_
    cases a2 : v.oth
    ·simp only [Bool.false_eq_true,eES,eEX,seval]
     refine aops_call (ce h5) rfl rfl rfl (.inl rfl) ?_
     simp only [eES,seval]
    ·simp only [eES,seval]
   ·simp only [Bool.true_or,eES,seval]
  ·have b5 : (o.card == 5) = false:=by simp [h5]
   rw [if_neg h5,if_neg h4]
   simp only [b4,b5,eES,eEX,seval]
   refine aops_call cv rfl rfl rfl (.inl rfl) ?_
   simp only [eES,seval]

def CoI (m : PG → V → Int) (P : PL) (lv : Int) (o : PO) (v : V) (k : Nat) (st : St) : Prop :=
 ∃ f fr i,st = ⟨f,[fr],[]⟩ ∧ k = v.list.length - i ∧ fei (lstF m P o v.list) v.list.length 0 = fei (lstF m P o v.list) (v.list.length - i) i ∧ f 3 = .int .i64 lv ∧ f 4 = .ptr 0 4 0 ∧ f 5 = .ptr 0 5 0 ∧ f 6 = .ptr 0 6 0 ∧ f 9 = .int .i64 (i : Nat) ∧ fr 4 = .cells [.list (P.progs.map gav),.list (P.enums.map eav)] ∧ fr 5 = .cells o.cells ∧ fr 6 = .cells (vc v)

include hP hM ho hv in
theorem v41 (hel : ∀ v : V,v.ok M → Fn1 Tryz.prog 77 [P.av,oav o,v.av,.int .i64 lv] (.int .i64 (elemF m P o v))) :
  Fn1 Tryz.prog 41 [P.av,oav o,v.av,.int .i64 lv] (.int .i64 (fieldF m P o v)):=by
 have e0 : P.av = .agg [.list (P.progs.map gav),.list (P.enums.map eav)]:=rfl
 have co:=oth_r v hv
 have ce:=fun h5 => v76 hP hM o ho h5 v.pairs (by have:=hv.np; simp only [maxLen]; omega) hv.keys hv.vals hel
 have cv:=hel v hv
 rw [e0,av7] at cv
 rw [av7] at co
 simp only [e0,oav,PO.cells] at ce cv
 rw [av7]
 refine k41.fn (by simp) ?_
 simp only [e0,oav,PO.cells,eES,eEX,seval]
 unfold fieldF
 by_cases h5 : o.card = 5
 ·have b5 : (o.card == 5) = true:=by simp [h5]
  rw [if_pos h5]
  simp only [b5,eES,eEX,seval]
  cases a1 : (v.kd != 12)
  ·simp only [Bool.false_or,eES,eEX,seval]
   refine aops_call co rfl rfl rfl (.inl rfl) ?_
   cases a2 : v.oth
   ·simp only [Bool.false_eq_true,eES,eEX,seval]
    refine aops_call (ce h5) rfl rfl rfl (.inl rfl) ?_
    simp only [eES,seval]
   ·simp only [eES,seval]
  ·simp only [Bool.true_or,eES,seval]
 ·have b5 : (o.card == 5) = false:=by simp [h5]
  rw [if_neg h5]
  by_cases h4 : o.card = 4
  ·have b4 : (o.card == 4) = true:=by simp [h4]
   rw [if_pos h4]
   simp only [b5,b4,eES,eEX,seval]
   cases a1 : (v.kd != 11)
   ·simp only [Bool.false_or,eES,eEX,seval]
    refine aops_call co rfl rfl rfl (.inl rfl) ?_
    cases a2 : v.oth
    ·simp only [Bool.false_eq_true,eES,seval]
     refine awp_loop (CoI m P lv o v) _ ⟨_,_,0,rfl,rfl,rfl,(by rfl),(by rfl),(by rfl),(by rfl),(by rfl),(by rfl),(by rfl),(by rfl)⟩ ?_
     rintro _ st ⟨f,fr,i,rfl,rfl,hx,h3,h4,h5,h6,h9,m4,m5,m6⟩
     have m5':=m5
     have m6':=m6
     simp only [PO.cells] at m5
     simp only [vc] at m6
     simp only [List.length_map,h6,h9,m6,eES,eEX,seval]
     by_cases hlt : i < v.list.length
     ·obtain ⟨x,hi⟩ : ∃ x,v.list[i]? = some x:=⟨v.list[i],List.getElem?_eq_getElem hlt⟩
      have hg:=getV hi
      have e1:=wi64_s i _ hlt (by have:=hv.nl; simp only [maxLen]; omega)
      have c2:=hel x (hv.list x (List.mem_of_getElem? hi))
      rw [e0,av7] at c2
      simp only [oav,PO.cells] at c2
      simp only [lt_t hlt,nneg,Int.toNat_natCast,aiaddr,hg,List.take_succ_cons,List.drop_zero,h3,h4,h5,h6,h9,m4,m5,m6,eES,eEX,seval]
      refine aops_call c2 rfl rfl rfl (.inl rfl) ?_
      by_cases hy : elemF m P o x = 0
      ·rw [fei_go hlt ((lstF_at hi).trans hy)] at hx
       have d0 : ((0 : Int) != 0) = false:=rfl
       simp only [hy,d0,h9,e1,eES,seval]
       exact ⟨v.list.length - (i + 1),by omega,_,_,i + 1,rfl,rfl,hx,(by exact h3),(by exact h4),(by exact h5),(by exact h6),(by rfl),(by exact m4),(by exact m5'),(by exact m6')⟩
      ·rw [fei_st hlt (lstF_at hi) hy] at hx
       have d1 : (elemF m P o x != 0) = true:=by simp [hy]
       simp only [d1,hx,eES,seval]
     ·rw [fei_end hlt] at hx
      simp only [lt_f hlt,hx,eES,seval]
    ·simp only [eES,seval]
   ·simp only [Bool.true_or,eES,seval]
  ·have b4 : (o.card == 4) = false:=by simp [h4]
   rw [if_neg h4]
   simp only [b5,b4,eES,eEX,seval]
   refine aops_call cv rfl rfl rfl (.inl rfl) ?_
   simp only [eES,seval]

end

def slotR (g : PG) (sl : List (Int × V)) (i : Nat) : Int:=match sl[i]? with
 | none => 0
 | some x => match opq g x.1 with
  | none => 8
  | some o => if (sl.take i).any (fun y => y.1 == x.1) = true then 9 else if (sl.take i).any (uniF g o) = true then 15 else 0

theorem slotF_R {m : PG → V → Int} {P : PL} {g : PG} {sl : List (Int × V)} {i : Nat} {x : Int × V} (h : sl[i]? = some x) :
  (slotR g sl i ≠ 0 → slotF m P g sl i = slotR g sl i) ∧ (slotR g sl i = 0 → ∃ o,opq g x.1 = some o ∧ slotF m P g sl i = fieldF m P o x.2):=by
 unfold slotR slotF
 rw [h]
 dsimp only
 cases ho : opq g x.1 with
 | none => exact ⟨fun _ => rfl,fun h => by simp at h⟩
 | some o =>
  dsimp only
  cases (sl.take i).any (fun y => y.1 == x.1)
  ·cases (sl.take i).any (uniF g o)
   ·simp
   ·simp
  ·simp

theorem row2 {fr : Nat → Ob} {a b : Nat} (h1 : (fr a).isRow = false) (h2 : (fr b).isRow = false) : ∀ s ∈ [a,b],(fr s).isRow = false:=by
 intro s hs
 simp only [List.mem_cons,List.not_mem_nil,or_false] at hs
 rcases hs with rfl | rfl
 ·exact h1
 ·exact h2

theorem opq_mem {g : PG} {n : Int} {o : PO} (h : opq g n = some o) : o ∈ g.ops ∧ o.num = n:=by
 unfold opq at h
 exact ⟨List.mem_of_find?_eq_some h,by simpa using List.find?_some h⟩

theorem opr_opq (g : PG) (n : Int) : opr (fun o => o.num == n) g.ops = .tup [oav ((opq g n).getD PO0),.bool (opq g n).isSome]:=rfl

section
variable {M : Nat} {P : PL} (hP : P.ok M) (hM : M ≤ 140737488351232) {m : PG → V → Int} {lv : Int} (g : PG) (hg : g.ok M) (hu : ∀ o ∈ g.ops,UO P o) (sl : List (Int × V)) (hn : sl.length ≤ maxLen) (i : Nat) (hi : i < sl.length) (hv : ∀ x ∈ sl,x.2.ok M)

theorem v100 (y : Int × V) (o : PO) (frO : Nat → Ob) (hf : frO 11 = .cells o.cells) :
  ACalls Tryz.prog 100 [V.sav y,.ptr 2 11 0] [noObs,noObs,frO] fun v m1 => v = .bool (y.1 == o.num) ∧ m1 = [noObs,noObs,frO]:=by
 simp only [PO.cells] at hf
 rw [sav8]
 refine k100.go (by simp) ?_
 simp only [hf,eES,eEX,seval]

def SlI (P : PL) (lv : Int) (g : PG) (o : PO) (sl : List (Int × V)) (i : Nat) (k : Nat) (st : St) : Prop :=
 ∃ f fr j,st = ⟨f,[fr],[]⟩ ∧ k = i - j ∧ j ≤ i ∧ (sl.take j).any (uniF g o) = false ∧ f 2 = .list (sl.map V.sav) ∧ f 3 = .int .i64 (i : Nat) ∧ f 4 = .int .i64 lv ∧ f 5 = .ptr 0 5 0 ∧ f 6 = .ptr 0 6 0 ∧ f 11 = .ptr 0 11 0 ∧ f 36 = .list ((sl.take i).map V.sav) ∧ f 37 = .int .i64 (i : Nat) ∧ f 38 = .int .i64 (j : Nat) ∧ fr 5 = .cells [.list (P.progs.map gav),.list (P.enums.map eav)] ∧ fr 6 = .cells g.cells ∧ fr 11 = .cells o.cells ∧ ∀ s ∈ [15,14],(fr s).isRow = false

include hg hn hi hv in
theorem v61 (hfi : ∀ o ∈ g.ops,∀ v : V,v.ok M → Fn1 Tryz.prog 101 [P.av,oav o,v.av,.int .i64 lv] (.int .i64 (fieldF m P o v))) :
  Fn1 Tryz.prog 61 [P.av,gav g,.list (sl.map V.sav),.int .i64 (i : Nat),.int .i64 lv] (.int .i64 (slotF m P g sl i)):=by
 have e0 : P.av = .agg [.list (P.progs.map gav),.list (P.enums.map eav)]:=rfl
 obtain ⟨x,hx⟩ : ∃ x,sl[i]? = some x:=⟨sl[i],List.getElem?_eq_getElem hi⟩
 have hxm:=List.mem_of_getElem? hx
 have hgi:=getS hx
 have co:=fun n => y17 g hg.len n
 simp only [opr_opq] at co
 have co1:=co x.1
 have hle : (i ≤ sl.length) = True:=eq_true (by omega)
 have hlen : (sl.take i).length = i:=by rw [List.length_take]; omega
 unfold slotF
 rw [hx]
 dsimp only
 simp only [gav,PG.cells] at co co1
 refine k61.fn (by simp) ?_
 simp only [e0,gav,PG.cells,nneg,Int.toNat_natCast,aiaddr,hgi,List.take_succ_cons,List.drop_zero,eES,eEX,seval]
 refine aops_call co1 rfl rfl rfl (.inl rfl) ?_
 cases ho : opq g x.1 with
 | none =>
  simp only [Option.getD_none,Option.isSome_none,PO0,oav,PO.cells,splice,List.take_zero,List.nil_append,List.drop_succ_cons,List.drop_nil,List.append_nil,List.length_cons,List.length_nil,List.all_cons,List.all_nil,AV.leaf,eES,eEX,seval]
 | some o =>
  obtain ⟨hom,hon⟩:=opq_mem ho
  have hcl:=fun (fr : Nat → Ob) (h11 : fr 11 = .cells o.cells) => v62 (sl.take i) (by omega) (fun y => y.1 == o.num) 100 (.ptr 0 11 0) [fr] fun y _ => v100 y o fr h11
  rw [hon] at hcl
  simp only [PO.cells] at hcl
  simp only [Option.getD_some,Option.isSome_some,oav,PO.cells,splice,List.take_zero,List.nil_append,List.drop_succ_cons,List.drop_zero,List.drop_nil,List.append_nil,List.length_cons,List.length_nil,List.all_cons,List.all_nil,AV.leaf,bnd,lenA,aslice,Option.getD_none,List.length_map,nneg,Int.toNat_natCast,Nat.zero_le,Nat.le_refl,hle,true_or,Nat.sub_zero,← List.map_take,eES,eEX,seval]
  refine aops_callF (hcl _ (by rfl)) (by simp only [List.map_cons,List.map_nil,eES,seval] <;> rfl) ?_
  cases ha : (sl.take i).any (fun y => y.1 == x.1)
  ·simp only [Bool.false_eq_true,bnd,lenA,aslice,Option.getD_none,List.length_map,nneg,Int.toNat_natCast,Nat.zero_le,Nat.le_refl,hle,true_or,Nat.sub_zero,← List.map_take,hlen,eES,seval]
   refine awp_loop (SlI P lv g o sl i) _ ⟨_,_,0,rfl,rfl,Nat.zero_le _,by simp,(by rfl),(by rfl),(by rfl),(by rfl),(by rfl),(by rfl),(by rfl),(by rfl),(by rfl),(by rfl),(by rfl),(by rfl),row2 rfl rfl⟩ ?_
   rintro _ st ⟨f0,fr0,j,rfl,rfl,hji,hq,h20,h30,h40,h50,h60,h110,h360,h370,h380,m50,m60,m110,r15⟩
   refine awp_drops (a:=_) [15,14] r15 ?_
   intro f fr hf hm hn15
   have h2 : f 2 = .list (sl.map V.sav):=by rw [hf,h20] <;> rfl
   have h3 : f 3 = .int .i64 (i : Nat):=by rw [hf,h30] <;> rfl
   have h4 : f 4 = .int .i64 lv:=by rw [hf,h40] <;> rfl
   have h5 : f 5 = .ptr 0 5 0:=by rw [hf,h50] <;> rfl
   have h6 : f 6 = .ptr 0 6 0:=by rw [hf,h60] <;> rfl
   have h11 : f 11 = .ptr 0 11 0:=by rw [hf,h110] <;> rfl
   have h36 : f 36 = .list ((sl.take i).map V.sav):=by rw [hf,h360] <;> rfl
   have h37 : f 37 = .int .i64 (i : Nat):=by rw [hf,h370] <;> rfl
   have h38 : f 38 = .int .i64 (j : Nat):=by rw [hf,h380] <;> rfl
   have m5 : fr 5 = .cells [.list (P.progs.map gav),.list (P.enums.map eav)]:=by rw [hm 5 (by decide),m50] <;> rfl
   have m6 : fr 6 = .cells g.cells:=by rw [hm 6 (by decide),m60] <;> rfl
   have m11 : fr 11 = .cells o.cells:=by rw [hm 11 (by decide),m110] <;> rfl
   have n15:=hn15 15 (by decide)
   have n14:=hn15 14 (by decide)
   clear hf hm hn15 h20 h30 h40 h50 h60 h110 h360 h370 h380 m50 m60 m110 r15
   have m6':=m6
   have m11':=m11
   simp only [PG.cells] at m6
   simp only [PO.cells] at m11
   simp only [h37,h38,eES,seval]
   by_cases hlt : j < i
   ·obtain ⟨y,hj⟩ : ∃ y,sl[j]? = some y:=⟨sl[j]'(by omega),List.getElem?_eq_getElem (by omega)⟩
    have hj' : (sl.take i)[j]? = some y:=by rw [List.getElem?_take,if_pos hlt]; exact hj
    have hgj:=getS hj'
    have e1:=wi64_s j i hlt (by omega)
    have co2:=co y.1
    have ht : (sl.take (j + 1)).any (uniF g o) = uniF g o y:=by
     rw [List.take_add_one,hj,List.any_append,hq]
     simp
    have hun : uniF g o y = (o.union != -1 && (((opq g y.1).getD PO0).union == o.union)):=rfl
    simp only [lt_t hlt,nneg,Int.toNat_natCast,aiaddr,hgj,n14,splice,List.take_succ_cons,List.take_zero,List.drop_succ_cons,List.drop_zero,List.drop_nil,List.append_nil,List.nil_append,List.length_cons,List.length_nil,h6,h36,h38,m6,eES,eEX,seval]
    refine aops_call co2 rfl rfl rfl (.inl rfl) ?_
    generalize (opq g y.1).getD PO0 = q at hun
    generalize (opq g y.1).isSome = qb
    have fin : ∀ (f' : Fr) (fr' : Nat → Ob),uniF g o y = false → f' 2 = .list (sl.map V.sav) → f' 3 = .int .i64 (i : Nat) → f' 4 = .int .i64 lv → f' 5 = .ptr 0 5 0 → f' 6 = .ptr 0 6 0 → f' 11 = .ptr 0 11 0 → f' 36 = .list ((sl.take i).map V.sav) → f' 37 = .int .i64 (i : Nat) → f' 38 = .int .i64 ((j + 1 : Nat) : Int) → fr' 5 = .cells [.list (P.progs.map gav),.list (P.enums.map eav)] → fr' 6 = .cells g.cells → fr' 11 = .cells o.cells → (∀ s ∈ [15,14],(fr' s).isRow = false) → ∃ k,k < i - j ∧ SlI P lv g o sl i k ⟨f',[fr'],[]⟩:=by
     intro f' fr' hu b2 b3 b4 b5 b6 b11 b36 b37 b38 c5 c6 c11 c15
     exact ⟨i - (j + 1),by omega,f',fr',j + 1,rfl,rfl,by omega,by rw [ht,hu],b2,b3,b4,b5,b6,b11,b36,b37,b38,c5,c6,c11,c15⟩
    cases a1 : (o.union != -1)
    ·rw [a1,Bool.false_and] at hun
     simp only [oav,PO.cells,a1,n15,splice,List.take_zero,List.drop_succ_cons,List.drop_nil,List.append_nil,List.nil_append,List.length_cons,List.length_nil,List.all_cons,List.all_nil,AV.leaf,h11,h38,m11,e1,eES,eEX,seval]
     exact fin _ _ hun (by exact h2) (by exact h3) (by exact h4) (by exact h5) (by exact h6) (by exact h11) (by exact h36) (by exact h37) (by rfl) (by exact m5) (by exact m6') (by exact m11') (row2 rfl rfl)
    ·cases a2 : (q.union == o.union)
     ·rw [a1,a2,Bool.true_and] at hun
      simp only [oav,PO.cells,a1,a2,n15,splice,List.take_zero,List.drop_succ_cons,List.drop_nil,List.append_nil,List.nil_append,List.length_cons,List.length_nil,List.all_cons,List.all_nil,AV.leaf,h11,h38,m11,e1,eES,eEX,seval]
      exact fin _ _ hun (by exact h2) (by exact h3) (by exact h4) (by exact h5) (by exact h6) (by exact h11) (by exact h36) (by exact h37) (by rfl) (by exact m5) (by exact m6') (by exact m11') (row2 rfl rfl)
     ·rw [a1,a2,Bool.true_and] at hun
      have hany : (sl.take i).any (uniF g o) = true:=List.any_eq_true.2 ⟨y,List.mem_of_getElem? hj',hun⟩
      rw [hany]
      simp only [oav,PO.cells,a1,a2,n15,splice,List.take_zero,List.drop_succ_cons,List.drop_nil,List.append_nil,List.nil_append,List.length_cons,List.length_nil,List.all_cons,List.all_nil,AV.leaf,h11,m11,eES,eEX,seval]
   ·have e : j = i:=by omega
    subst e
    have cf:=hfi o hom x.2 (hv x hxm)
    rw [e0,av7] at cf
    simp only [oav,PO.cells] at cf
    rw [hq]
    simp only [lt_f hlt,Bool.false_eq_true,nneg,Int.toNat_natCast,aiaddr,hgi,List.take_succ_cons,List.drop_succ_cons,List.drop_zero,h2,h3,h4,h5,h11,m5,m11,eES,eEX,seval]
    refine aops_call cf rfl rfl rfl (.inl rfl) ?_
    simp only [eES,seval]
  ·simp only [eES,seval]

def SrI (g : PG) (o : PO) (sl : List (Int × V)) (i : Nat) (n : Int) (k : Nat) (st : St) : Prop :=
 ∃ f fr j,st = ⟨f,[fr],[]⟩ ∧ k = i - j ∧ j ≤ i ∧ (sl.take j).any (fun y => y.1 == n) = false ∧ f 1 = .list (sl.map V.sav) ∧ f 2 = .int .i64 (i : Nat) ∧ f 3 = .ptr 0 3 0 ∧ f 7 = .ptr 0 7 0 ∧ f 9 = .bool ((sl.take j).any (uniF g o)) ∧ f 10 = .int .i64 (j : Nat) ∧ fr 3 = .cells g.cells ∧ fr 7 = .cells o.cells ∧ ∀ s ∈ [11],(fr s).isRow = false

include hg hn hi in
theorem v39 : Fn1 Tryz.prog 39 [gav g,.list (sl.map V.sav),.int .i64 (i : Nat)] (.int .i64 (slotR g sl i)):=by
 obtain ⟨x,hx⟩ : ∃ x,sl[i]? = some x:=⟨sl[i],List.getElem?_eq_getElem hi⟩
 have hxm:=List.mem_of_getElem? hx
 have hgi:=getS hx
 have co:=fun n => y40 g hg.len n
 simp only [opr_opq] at co
 have co1:=co x.1
 unfold slotR
 rw [hx]
 dsimp only
 simp only [gav,PG.cells] at co co1
 refine k39.fn (by simp) ?_
 simp only [gav,PG.cells,nneg,Int.toNat_natCast,aiaddr,hgi,List.take_succ_cons,List.drop_zero,eES,eEX,seval]
 refine aops_call co1 rfl rfl rfl (.inl rfl) ?_
 cases ho : opq g x.1 with
 | none =>
  simp only [Option.getD_none,Option.isSome_none,PO0,oav,PO.cells,splice,List.take_zero,List.nil_append,List.drop_succ_cons,List.drop_nil,List.append_nil,List.length_cons,List.length_nil,List.all_cons,List.all_nil,AV.leaf,eES,eEX,seval]
 | some o =>
  obtain ⟨hom,hon⟩:=opq_mem ho
  simp only [Option.getD_some,Option.isSome_some,oav,PO.cells,splice,List.take_zero,List.nil_append,List.drop_succ_cons,List.drop_nil,List.append_nil,List.length_cons,List.length_nil,List.all_cons,List.all_nil,AV.leaf,eES,eEX,seval]
  refine awp_loop (SrI g o sl i x.1) _ ⟨_,_,0,rfl,rfl,Nat.zero_le _,by simp,(by rfl),(by rfl),(by rfl),(by rfl),(by rfl),(by rfl),(by rfl),(by rfl),by simp <;> rfl⟩ ?_
  rintro _ st ⟨f0,fr0,j,rfl,rfl,hji,hq,h10,h20,h30,h70,h90,h100,m30,m70,r11⟩
  refine awp_drops (a:=_) [11] r11 ?_
  intro f fr hf hm hn11
  have h1 : f 1 = .list (sl.map V.sav):=by rw [hf,h10] <;> rfl
  have h2 : f 2 = .int .i64 (i : Nat):=by rw [hf,h20] <;> rfl
  have h3 : f 3 = .ptr 0 3 0:=by rw [hf,h30] <;> rfl
  have h7 : f 7 = .ptr 0 7 0:=by rw [hf,h70] <;> rfl
  have h9 : f 9 = .bool ((sl.take j).any (uniF g o)):=by rw [hf,h90] <;> rfl
  have h10' : f 10 = .int .i64 (j : Nat):=by rw [hf,h100] <;> rfl
  have m3 : fr 3 = .cells g.cells:=by rw [hm 3 (by decide),m30] <;> rfl
  have m7 : fr 7 = .cells o.cells:=by rw [hm 7 (by decide),m70] <;> rfl
  have n11:=hn11 11 (by decide)
  clear hf hm hn11 h10 h20 h30 h70 h90 h100 m30 m70 r11
  have m3':=m3
  have m7':=m7
  simp only [PG.cells] at m3
  simp only [PO.cells] at m7
  simp only [h2,h10',eES,seval]
  by_cases hlt : j < i
  ·obtain ⟨y,hj⟩ : ∃ y,sl[j]? = some y:=⟨sl[j]'(by omega),List.getElem?_eq_getElem (by omega)⟩
   have hj' : (sl.take i)[j]? = some y:=by rw [List.getElem?_take,if_pos hlt]; exact hj
   have hgj:=getS hj
   have e1:=wi64_s j i hlt (by omega)
   have co2:=co y.1
   have ht : ∀ p : Int × V → Bool,(sl.take (j + 1)).any p = ((sl.take j).any p || p y):=fun p => by
    rw [List.take_add_one,hj,List.any_append]
    simp
   have hun : uniF g o y = (o.union != -1 && (((opq g y.1).getD PO0).union == o.union)):=rfl
   simp only [lt_t hlt,nneg,Int.toNat_natCast,aiaddr,hgj,hgi,List.drop_zero,List.length_cons,List.length_nil,h1,h2,h10',eES,eEX,seval]
   cases a0 : (y.1 == x.1)
   ·simp only [nneg,Int.toNat_natCast,aiaddr,hgj,List.take_succ_cons,List.drop_zero,List.length_cons,List.length_nil,h1,h3,h10',m3,eES,eEX,seval]
    refine aops_call co2 rfl rfl rfl (.inl rfl) ?_
    generalize (opq g y.1).getD PO0 = q at hun
    generalize (opq g y.1).isSome = qb
    have fin : ∀ (f' : Fr) (fr' : Nat → Ob) (b : Bool),((sl.take j).any (uniF g o) || uniF g o y) = b → f' 1 = .list (sl.map V.sav) → f' 2 = .int .i64 (i : Nat) → f' 3 = .ptr 0 3 0 → f' 7 = .ptr 0 7 0 → f' 9 = .bool b → f' 10 = .int .i64 ((j + 1 : Nat) : Int) → fr' 3 = .cells g.cells → fr' 7 = .cells o.cells → (∀ s ∈ [11],(fr' s).isRow = false) → ∃ k,k < i - j ∧ SrI g o sl i x.1 k ⟨f',[fr'],[]⟩:=by
     intro f' fr' b hu b1 b2 b3 b7 b9 b10 c3 c7 c11
     exact ⟨i - (j + 1),by omega,f',fr',j + 1,rfl,rfl,by omega,by rw [ht,hq,a0]; rfl,b1,b2,b3,b7,by rw [b9,ht,hu],b10,c3,c7,c11⟩
    cases ab : (sl.take j).any (uniF g o)
    ·rw [ab] at h9 fin
     cases a1 : (o.union != -1)
     ·rw [a1,Bool.false_and] at hun
      simp only [oav,PO.cells,a1,n11,splice,List.take_zero,List.drop_succ_cons,List.drop_nil,List.append_nil,List.nil_append,List.length_cons,List.length_nil,List.all_cons,List.all_nil,AV.leaf,h7,h9,h10',m7,e1,eES,eEX,seval]
      exact fin _ _ false (by rw [hun]; rfl) (by exact h1) (by exact h2) (by exact h3) (by exact h7) (by rfl) (by rfl) (by exact m3') (by exact m7') (by simp <;> rfl)
     ·cases a2 : (q.union == o.union)
      ·rw [a1,a2,Bool.true_and] at hun
       simp only [oav,PO.cells,a1,a2,n11,splice,List.take_zero,List.drop_succ_cons,List.drop_nil,List.append_nil,List.nil_append,List.length_cons,List.length_nil,List.all_cons,List.all_nil,AV.leaf,h7,h9,h10',m7,e1,eES,eEX,seval]
       exact fin _ _ false (by rw [hun]; rfl) (by exact h1) (by exact h2) (by exact h3) (by exact h7) (by rfl) (by rfl) (by exact m3') (by exact m7') (by simp <;> rfl)
      ·rw [a1,a2,Bool.true_and] at hun
       simp only [oav,PO.cells,a1,a2,n11,splice,List.take_zero,List.drop_succ_cons,List.drop_nil,List.append_nil,List.nil_append,List.length_cons,List.length_nil,List.all_cons,List.all_nil,AV.leaf,h7,h9,h10',m7,e1,eES,eEX,seval]
       exact fin _ _ true (by rw [hun]; rfl) (by exact h1) (by exact h2) (by exact h3) (by exact h7) (by rfl) (by rfl) (by exact m3') (by exact m7') (by simp <;> rfl)
    ·rw [ab] at h9 fin
     simp only [oav,PO.cells,n11,splice,List.take_zero,List.drop_succ_cons,List.drop_nil,List.append_nil,List.nil_append,List.length_cons,List.length_nil,List.all_cons,List.all_nil,AV.leaf,h9,h10',e1,eES,eEX,seval]
     exact fin _ _ true (by simp) (by exact h1) (by exact h2) (by exact h3) (by exact h7) (by rfl) (by rfl) (by exact m3') (by exact m7') (by simp <;> rfl)
   ·have hany : (sl.take i).any (fun y => y.1 == x.1) = true:=List.any_eq_true.2 ⟨y,List.mem_of_getElem? hj',a0⟩
    simp only [hany,eES,seval]
  ·have e : j = i:=by omega
   subst e
   simp only [lt_f hlt,hq,Bool.false_eq_true,h9,eES,seval]
   cases hb : (sl.take j).any (uniF g o)
   ·rw [hb] at h9
    simp only [Bool.false_eq_true,eES,seval]
   ·rw [hb] at h9
    simp only [eES,seval]

end

def keptO (P : PL) (o : PO) (f : R) : Bool:=o.kind == 9 && o.card != 5 && f.wire == 0 && decide ((f.bits : Int) ≤ 2147483647) && !acp P.enums o.target f.bits
theorem keptF_eq (P : PL) (g : PG) (f : R) : (!keptF P g f) = ((opq g f.num).isSome && !keptO P ((opq g f.num).getD PO0) f):=by
 unfold keptF keptO
 cases opq g f.num <;> rfl
def bad1 (f : R) : Bool:=decide (f.num < 1) || decide (f.num > 65535) || decide (f.wire < 0) || decide (f.wire > 6)
def bad2 (f : R) : Bool:=decide (f.wire ≤ 2) && !(f.data == []) || decide (f.wire > 2) && !((f.bits : Int) == 0)
def bad3 (f : R) : Bool:=f.wire == 3 && decide ((f.data.length : Int) > 4096) || decide ((f.data.length : Int) > 65536)
theorem rawF_eq (P : PL) (g : PG) (f : R) : rawF P g f = if bad1 f = true then 1 else if bad2 f = true then 1 else if (!keptF P g f) = true then 1 else if bad3 f = true then 3 else 0:=rfl
def permF (P : PL) (g : PG) (f : R) : Bool:=!bad1 f && !bad2 f && keptF P g f
theorem rawF_perm (P : PL) (g : PG) (f : R) : rawF P g f = if (!permF P g f) = true then 1 else if bad3 f = true then 3 else 0:=by
 rw [rawF_eq]
 unfold permF
 cases bad1 f <;> cases bad2 f <;> cases keptF P g f <;> simp

section
variable {M : Nat} {P : PL} (hP : P.ok M)

include hP in
theorem raw_kept (o : PO) (w : R) (n7 n9 : Bool) (f : Fr) (fr : Nat → Ob) (h3 : f 3 = .ptr 0 3 0) (h5 : f 5 = .ptr 0 5 0) (h7 : f 7 = .bool n7) (h8 : f 8 = .ptr 0 8 0) (h9 : f 9 = .bool n9)
  (m3 : fr 3 = .cells [.list (P.progs.map gav),.list (P.enums.map eav)]) (m5 : fr 5 = .cells [.int .i64 w.num,.int .i64 w.wire,.int .u64 (w.bits : Nat),.str w.data]) (m8 : fr 8 = .cells o.cells) (Q : St → Prop)
  (hQ : ∀ f,f 5 = .ptr 0 5 0 → f 7 = .bool n7 → f 9 = .bool n9 → f 10 = .bool (keptO P o w) → Q ⟨f,[fr],[]⟩) : aops Tryz.prog g64_3 ⟨f,[fr],[]⟩ Q:=by
 have e0 : P.av = .agg [.list (P.progs.map gav),.list (P.enums.map eav)]:=rfl
 have ha:=y103 P hP o.target w.bits
 rw [e0] at ha
 simp only [PO.cells] at m8
 unfold keptO at hQ
 cases a1 : (o.kind == 9)
 ·rw [a1] at hQ
  simp only [Bool.false_and] at hQ
  simp only [g64_3,a1,h8,m8,eES,eEX,seval]
  exact hQ _ (by exact h5) (by exact h7) (by exact h9) (by rfl)
 cases a2 : (o.card != 5)
 ·rw [a1,a2] at hQ
  simp only [Bool.true_and,Bool.false_and] at hQ
  simp only [g64_3,a1,a2,h8,m8,eES,eEX,seval]
  exact hQ _ (by exact h5) (by exact h7) (by exact h9) (by rfl)
 cases a3 : (w.wire == 0)
 ·rw [a1,a2,a3] at hQ
  simp only [Bool.true_and,Bool.false_and] at hQ
  simp only [g64_3,a1,a2,a3,h5,h8,m5,m8,eES,eEX,seval]
  exact hQ _ (by exact h5) (by exact h7) (by exact h9) (by rfl)
 cases a4 : decide ((w.bits : Int) ≤ 2147483647)
 ·rw [a1,a2,a3,a4] at hQ
  simp only [Bool.true_and,Bool.false_and] at hQ
  simp only [g64_3,a1,a2,a3,a4,h5,h8,m5,m8,eES,eEX,seval]
  exact hQ _ (by exact h5) (by exact h7) (by exact h9) (by rfl)
 rw [a1,a2,a3,a4] at hQ
 simp only [Bool.true_and] at hQ
 simp only [g64_3,a1,a2,a3,a4,h3,h5,h8,m3,m5,m8,eES,eEX,seval]
 refine aops_call ha rfl rfl rfl (.inl rfl) ?_
 simp only [eES,seval]
 exact hQ _ (by exact h5) (by exact h7) (by exact h9) (by rfl)

include hP in
theorem v64 (g : PG) (hg : g.ok M) (w : R) : Fn1 Tryz.prog 64 [P.av,gav g,w.av] (.int .i64 (rawF P g w)):=by
 have e0 : P.av = .agg [.list (P.progs.map gav),.list (P.enums.map eav)]:=rfl
 have co:=y17 g hg.len w.num
 rw [opr_opq] at co
 simp only [gav,PG.cells] at co
 have nd : (w.data != []) = !(w.data == []):=rfl
 have nb : ((w.bits : Int) != 0) = !((w.bits : Int) == 0):=rfl
 have hgt : decide (w.wire > 2) = !decide (w.wire ≤ 2):=(by rw [Bool.eq_iff_iff]; simp only [decide_eq_true_eq,Bool.not_eq_true',decide_eq_false_iff_not]; omega)
 rw [rawF_eq,keptF_eq]
 unfold bad1 bad2 bad3
 rw [hgt]
 refine k64.fn (by simp) ?_
 simp only [r64,g64_0,g64_1,g64_2,o64,e0,gav,PG.cells,R.av,eES,eEX,seval]
 refine aops_call co rfl rfl rfl (.inl rfl) ?_
 generalize (opq g w.num).getD PO0 = q
 generalize (opq g w.num).isSome = kb
 simp only [oav,PO.cells,splice,List.take_zero,List.nil_append,List.drop_succ_cons,List.drop_nil,List.append_nil,List.length_cons,List.length_nil,List.all_cons,List.all_nil,AV.leaf,eES,eEX,seval]
 refine raw_kept hP q w (decide (w.wire ≤ 2)) kb _ _ (by rfl) (by rfl) (by rfl) (by rfl) (by rfl) (by rfl) (by rfl) (by rfl) _ (fun f h5 h7 h9 h10 => ?_)
 generalize keptO P q w = K at h10 ⊢
 simp only [g64_4,h5,eES,eEX,seval]
 cases r1 : decide (w.num < 1)
 case true => simp only [g64_5,Bool.true_or,eES,seval]
 cases r2 : decide (w.num > 65535)
 case true => simp only [r2,g64_5,Bool.true_or,Bool.false_or,h5,eES,eEX,seval]
 cases r3 : decide (w.wire < 0)
 case true => simp only [r2,r3,g64_5,Bool.true_or,Bool.false_or,h5,eES,eEX,seval]
 cases r4 : decide (w.wire > 6)
 case true => simp only [r2,r3,r4,g64_5,Bool.false_or,h5,eES,eEX,seval]
 simp only [r2,r3,r4,Bool.false_or,Bool.false_eq_true,g64_6,h5,h7,eES,eEX,seval]
 cases s1 : decide (w.wire ≤ 2)
 ·rw [s1] at h7
  cases s2 : ((w.bits : Int) == 0)
  ·simp only [s2,nb,g64_7,Bool.not_false,Bool.false_and,Bool.false_or,h5,h7,eES,eEX,seval]
  ·cases kb <;> cases K <;> simp only [s2,nb,g64_7,g64_8,Bool.not_false,Bool.not_true,Bool.false_and,Bool.and_false,Bool.false_or,Bool.false_eq_true,h5,h7,h9,h10,eES,eEX,seval]
   all_goals (cases t1 : (w.wire == 3) <;> try simp only [Bool.false_and,Bool.true_and,Bool.false_or,h5,eES,eEX,seval])
   all_goals (cases t2 : decide ((w.data.length : Int) > 4096) <;> try simp only [g64_9,Bool.false_or,Bool.true_or,h5,eES,eEX,seval])
   all_goals (cases t3 : decide ((w.data.length : Int) > 65536) <;> try simp only [g64_10,Bool.false_eq_true,eES,seval])
 ·rw [s1] at h7
  cases s2 : (w.data == [])
  ·simp only [s2,astr,g64_7,Bool.not_false,Bool.not_true,Bool.false_and,Bool.true_or,h5,eES,eEX,seval]
  ·cases kb <;> cases K <;> simp only [s2,astr,g64_7,g64_8,Bool.not_false,Bool.not_true,Bool.false_and,Bool.and_false,Bool.false_or,Bool.false_eq_true,h5,h7,h9,h10,eES,eEX,seval]
   all_goals (cases t1 : (w.wire == 3) <;> try simp only [Bool.false_and,Bool.true_and,Bool.false_or,h5,eES,eEX,seval])
   all_goals (cases t2 : decide ((w.data.length : Int) > 4096) <;> try simp only [g64_9,Bool.false_or,Bool.true_or,h5,eES,eEX,seval])
   all_goals (cases t3 : decide ((w.data.length : Int) > 65536) <;> try simp only [g64_10,Bool.false_eq_true,eES,seval])

theorem kept_open {o : PO} {x : PE} (w : R) (ho : 0 ≤ o.target ∧ o.target < (P.enums.length : Int)) (hx : P.enums[o.target.toNat]? = some x) (hopn : x.opn = true) : keptO P o w = false:=by
 unfold keptO
 cases hb : decide ((w.bits : Int) ≤ 2147483647)
 ·simp
 ·have : acp P.enums o.target w.bits = true:=by
   unfold acp
   rw [if_pos ⟨ho.1,ho.2,by have:=of_decide_eq_true hb; omega⟩,hx]
   simp [hopn]
  rw [this]
  simp

set_option maxHeartbeats 2000000 in
include hP in
theorem v43 (g : PG) (hg : g.ok M) (hu : ∀ o ∈ g.ops,UO P o) (w : R) : Fn1 Tryz.prog 43 [P.av,gav g,w.av] (.bool (permF P g w)):=by
 have e0 : P.av = .agg [.list (P.progs.map gav),.list (P.enums.map eav)]:=rfl
 have co:=y40 g hg.len w.num
 rw [opr_opq] at co
 simp only [gav,PG.cells] at co
 have nd : (w.data != []) = !(w.data == []):=rfl
 have nb : ((w.bits : Int) != 0) = !((w.bits : Int) == 0):=rfl
 have hgt : decide (w.wire > 2) = !decide (w.wire ≤ 2):=(by rw [Bool.eq_iff_iff]; simp only [decide_eq_true_eq,Bool.not_eq_true',decide_eq_false_iff_not]; omega)
 unfold permF bad1 bad2
 rw [hgt]
 refine k43.fn (by simp) ?_
 simp only [e0,gav,PG.cells,R.av,eES,eEX,seval]
 cases r1 : decide (w.num < 1)
 case true => simp only [Bool.true_or,Bool.not_true,Bool.false_and,eES,seval]
 cases r2 : decide (w.num > 65535)
 case true => simp only [r2,Bool.true_or,Bool.false_or,Bool.not_true,Bool.false_and,eES,eEX,seval]
 cases r3 : decide (w.wire < 0)
 case true => simp only [r2,r3,Bool.true_or,Bool.false_or,Bool.not_true,Bool.false_and,eES,eEX,seval]
 cases r4 : decide (w.wire > 6)
 case true => simp only [r2,r3,r4,Bool.false_or,Bool.not_true,Bool.false_and,eES,eEX,seval]
 simp only [r2,r3,r4,Bool.false_or,Bool.not_false,Bool.true_and,eES,eEX,seval]
 cases s1 : decide (w.wire ≤ 2) <;> cases s2 : ((w.bits : Int) == 0) <;> cases s3 : (w.data == [])
 all_goals (simp only [hgt,s1,s2,s3,nb,astr,Bool.not_false,Bool.not_true,Bool.true_and,Bool.and_true,Bool.and_false,Bool.false_and,Bool.false_or,Bool.or_false,eES,eEX,seval])
 all_goals (
  refine aops_call co rfl rfl rfl (.inl rfl) ?_
  unfold keptF
  cases ho : opq g w.num with
  | none =>
   simp only [Option.getD_none,Option.isSome_none,PO0,oav,PO.cells,splice,List.take_zero,List.nil_append,List.drop_succ_cons,List.drop_nil,List.append_nil,List.length_cons,List.length_nil,List.all_cons,List.all_nil,AV.leaf,eES,eEX,seval]
  | some o =>
   have hom:=(opq_mem ho).1
   have hu:=hu o hom
   have ha:=y78 P hP o.target w.bits
   rw [e0] at ha
   simp only [Option.getD_some,Option.isSome_some,oav,PO.cells,splice,List.take_zero,List.nil_append,List.drop_succ_cons,List.drop_nil,List.append_nil,List.length_cons,List.length_nil,List.all_cons,List.all_nil,AV.leaf,eES,eEX,seval]
   by_cases hk : o.kind = 9
   ·have a1 : (o.kind == 9) = true:=by simp [hk]
    obtain ⟨t0,t1⟩:=hu.enm hk
    obtain ⟨i,hi⟩:=Int.eq_ofNat_of_zero_le t0
    have hlt : i < P.enums.length:=by omega
    obtain ⟨x,hx⟩ : ∃ x,P.enums[i]? = some x:=⟨P.enums[i],List.getElem?_eq_getElem hlt⟩
    have hxa : (P.enums.map eav)[i]? = some (.agg x.cells):=by simp [hx,eav]
    simp only [PE.cells] at hxa
    have hop : x.opn = true → keptO P o w = false:=fun h => kept_open w ⟨t0,t1⟩ (by rw [hi,Int.toNat_natCast]; exact hx) h
    unfold keptO at hop
    rw [hi] at ha hop
    rw [hi]
    rw [a1,Bool.true_and] at hop
    simp only [a1,nneg,Int.toNat_natCast,aiaddr,hxa,Bool.true_and,eES,eEX,seval]
    cases ax : x.opn
    ·cases a2 : (o.card != 5)
     ·simp only [a2,Bool.not_false,Bool.false_and,eES,eEX,seval]
     cases a3 : (w.wire == 0)
     ·simp only [a2,a3,Bool.not_false,Bool.true_and,Bool.false_and,eES,eEX,seval]
     cases a4 : decide ((w.bits : Int) ≤ 2147483647)
     ·simp only [a2,a3,a4,Bool.not_false,Bool.true_and,Bool.false_and,eES,eEX,seval]
     simp only [a2,a3,a4,Bool.not_false,Bool.true_and,eES,eEX,seval]
     refine aops_call ha rfl rfl rfl (.inl rfl) ?_
     simp only [eES,seval]
    ·simp only [hop ax,Bool.not_true,eES,seval]
   ·have a1 : (o.kind == 9) = false:=by simp [hk]
    simp only [a1,Bool.false_and,eES,seval])

def SeI (v : V) (n : Int) (k : Nat) (st : St) : Prop :=
 ∃ f fr i,st = ⟨f,[fr],[]⟩ ∧ k = v.slots.length - i ∧ i ≤ v.slots.length ∧ (v.slots.take i).any (fun y => y.1 == n) = false ∧ f 1 = .int .i64 n ∧ f 2 = .ptr 0 2 0 ∧ f 5 = .int .i64 (i : Nat) ∧ fr 2 = .cells (vc v)

theorem v42 (v : V) (hn : v.slots.length ≤ maxLen) (n : Int) : Fn1 Tryz.prog 42 [v.av,.int .i64 n] (.bool (v.slots.any fun y => y.1 == n)):=by
 rw [av7]
 refine k42.fn (by simp) ?_
 simp only [eES,eEX,seval]
 refine awp_loop (SeI v n) _ ⟨_,_,0,rfl,rfl,Nat.zero_le _,by simp,(by rfl),(by rfl),(by rfl),(by rfl)⟩ ?_
 rintro _ st ⟨f,fr,i,rfl,rfl,hil,hq,h1,h2,h5,m2⟩
 have m2':=m2
 simp only [vc] at m2
 simp only [List.length_map,h2,h5,m2,eES,eEX,seval]
 by_cases hlt : i < v.slots.length
 ·obtain ⟨y,hi⟩ : ∃ y,v.slots[i]? = some y:=⟨v.slots[i],List.getElem?_eq_getElem hlt⟩
  have hg:=getS hi
  have e1:=wi64_s i _ hlt hn
  have ht : (v.slots.take (i + 1)).any (fun y => y.1 == n) = (y.1 == n):=by
   rw [List.take_add_one,hi,List.any_append,hq]
   simp
  simp only [lt_t hlt,nneg,Int.toNat_natCast,aiaddr,hg,h1,h2,h5,m2,eES,eEX,seval]
  cases a : (y.1 == n)
  ·simp only [h5,e1,eES,seval]
   exact ⟨v.slots.length - (i + 1),by omega,_,_,i + 1,rfl,rfl,by omega,by rw [ht,a],(by exact h1),(by exact h2),(by rfl),(by exact m2')⟩
  ·have hany : (v.slots.any fun y => y.1 == n) = true:=List.any_eq_true.2 ⟨y,List.mem_of_getElem? hi,a⟩
   simp only [hany,eES,seval]
 ·have hq' : (v.slots.any fun y => y.1 == n) = false:=by rw [← hq,List.take_of_length_le (by omega)]
  simp only [lt_f hlt,hq',eES,seval]

theorem v63 (y : Int × V) (o : PO) (frO : Nat → Ob) (hf : frO 12 = .cells o.cells) :
  ACalls Tryz.prog 63 [V.sav y,.ptr 2 12 0] [noObs,noObs,frO] fun v m1 => v = .bool (y.1 == o.num) ∧ m1 = [noObs,noObs,frO]:=by
 simp only [PO.cells] at hf
 rw [sav8]
 refine k63.go (by simp) ?_
 simp only [hf,eES,eEX,seval]

end

def misO (sl : List (Int × V)) (o : PO) : Bool:=o.card == 1 && !sl.any fun y => y.1 == o.num
theorem misF_eq (g : PG) (sl : List (Int × V)) : misF g sl = g.ops.any (misO sl):=rfl

theorem getR {l : List R} {i : Nat} {x : R} (h : l[i]? = some x) : (l.map R.av)[i]? = some (.agg [.int .i64 x.num,.int .i64 x.wire,.int .u64 (x.bits : Nat),.str x.data]):=by
 rw [List.getElem?_map,h,Option.map_some,R.av]
theorem getO {l : List PO} {i : Nat} {o : PO} (h : l[i]? = some o) : (l.map fun o => AV.agg o.cells)[i]? = some (.agg [.int .i64 o.num,.str o.name,.str o.alias,.int .i64 o.card,.int .i64 o.key,.int .i64 o.kind,.int .i64 o.target,.int .i64 o.union]):=by
 rw [List.getElem?_map,h,Option.map_some,PO.cells]

section
variable {M : Nat} {P : PL} (hP : P.ok M) {m : PG → V → Int} {lv : Int} (g : PG) (hg : g.ok M) (v : V) (hv : v.ok M)

def MrI (P : PL) (g : PG) (v : V) (k : Nat) (st : St) : Prop :=
 ∃ f fr i,st = ⟨f,[fr],[]⟩ ∧ k = v.raws.length - i ∧ fei (rawsF P g v.raws) v.raws.length 0 = fei (rawsF P g v.raws) (v.raws.length - i) i ∧ f 4 = .ptr 0 4 0 ∧ f 5 = .ptr 0 5 0 ∧ f 63 = .list (v.raws.map R.av) ∧ f 64 = .int .i64 (v.raws.length : Nat) ∧ f 65 = .int .i64 (i : Nat) ∧ fr 4 = .cells [.list (P.progs.map gav),.list (P.enums.map eav)] ∧ fr 5 = .cells g.cells ∧ ∀ s ∈ [14],(fr s).isRow = false

include hP hg hv in
theorem raws_loop (f : Fr) (fr : Nat → Ob) (h4 : f 4 = .ptr 0 4 0) (h5 : f 5 = .ptr 0 5 0) (h63 : f 63 = .list (v.raws.map R.av)) (h64 : f 64 = .int .i64 (v.raws.length : Nat)) (h65 : f 65 = .int .i64 0)
  (m4 : fr 4 = .cells [.list (P.progs.map gav),.list (P.enums.map eav)]) (m5 : fr 5 = .cells g.cells) (r14 : ∀ s ∈ [14],(fr s).isRow = false) (Q : Exit → St → Prop)
  (q1 : fei (rawsF P g v.raws) v.raws.length 0 ≠ 0 → ∀ f fr,f 8 = .int .i64 (fei (rawsF P g v.raws) v.raws.length 0) → Q .ret (⟨f,[fr],[]⟩ : St))
  (q2 : fei (rawsF P g v.raws) v.raws.length 0 = 0 → ∀ f fr,Q (.exit 5) (⟨f,[fr],[]⟩ : St)) : awp Tryz.prog (.loop l27_2) ⟨f,[fr],[]⟩ Q:=by
 have e0 : P.av = .agg [.list (P.progs.map gav),.list (P.enums.map eav)]:=rfl
 refine awp_loop (MrI P g v) _ ⟨f,fr,0,rfl,rfl,rfl,h4,h5,h63,h64,h65,m4,m5,r14⟩ ?_
 clear h4 h5 h63 h64 h65 m4 m5 r14
 rintro _ st ⟨f0,fr0,i,rfl,rfl,hx,h40,h50,h630,h640,h650,m40,m50,r14⟩
 refine awp_drops (a:=_) [14] r14 ?_
 intro f fr hf hm hn
 have h4 : f 4 = .ptr 0 4 0:=by rw [hf,h40] <;> rfl
 have h5 : f 5 = .ptr 0 5 0:=by rw [hf,h50] <;> rfl
 have h63 : f 63 = .list (v.raws.map R.av):=by rw [hf,h630] <;> rfl
 have h64 : f 64 = .int .i64 (v.raws.length : Nat):=by rw [hf,h640] <;> rfl
 have h65 : f 65 = .int .i64 (i : Nat):=by rw [hf,h650] <;> rfl
 have m4 : fr 4 = .cells [.list (P.progs.map gav),.list (P.enums.map eav)]:=by rw [hm 4 (by decide),m40] <;> rfl
 have m5 : fr 5 = .cells g.cells:=by rw [hm 5 (by decide),m50] <;> rfl
 have n14:=hn 14 (by decide)
 clear hf hm hn h40 h50 h630 h640 h650 m40 m50 r14
 have m5':=m5
 simp only [PG.cells] at m5
 simp only [h64,h65,eES,seval]
 by_cases hlt : i < v.raws.length
 ·obtain ⟨x,hi⟩ : ∃ x,v.raws[i]? = some x:=⟨v.raws[i],List.getElem?_eq_getElem hlt⟩
  have hgi:=getR hi
  have e1:=wi64_s i _ hlt (by have:=hv.nr; simp only [maxLen]; omega)
  have c1:=v64 hP g hg x
  rw [e0] at c1
  simp only [gav,PG.cells,R.av] at c1
  simp only [lt_t hlt,nneg,Int.toNat_natCast,aiaddr,hgi,n14,splice,List.take_succ_cons,List.take_zero,List.drop_succ_cons,List.drop_zero,List.drop_nil,List.append_nil,List.nil_append,List.length_cons,List.length_nil,h4,h5,h63,h65,m4,m5,eES,eEX,seval]
  refine aops_call c1 rfl rfl rfl (.inl rfl) ?_
  by_cases hy : rawF P g x = 0
  ·rw [fei_go hlt ((rawsF_at hi).trans hy)] at hx
   have d0 : ((0 : Int) != 0) = false:=rfl
   simp only [hy,d0,h65,e1,eES,seval]
   exact ⟨v.raws.length - (i + 1),by omega,_,_,i + 1,rfl,rfl,hx,(by exact h4),(by exact h5),(by exact h63),(by exact h64),(by rfl),(by exact m4),(by exact m5'),by simp <;> rfl⟩
  ·rw [fei_st hlt (rawsF_at hi) hy] at hx
   have d1 : (rawF P g x != 0) = true:=by simp [hy]
   simp only [d1,eES,seval]
   exact q1 (by rw [hx]; exact hy) _ _ (by rw [hx]; exact (by rfl))
 ·rw [fei_end hlt] at hx
  simp only [lt_f hlt,eES,seval]
  exact q2 hx _ _

def MoI (P : PL) (g : PG) (v : V) (k : Nat) (st : St) : Prop :=
 ∃ f fr i,st = ⟨f,[fr],[]⟩ ∧ k = g.ops.length - i ∧ i ≤ g.ops.length ∧ (g.ops.take i).any (misO v.slots) = false ∧ f 4 = .ptr 0 4 0 ∧ f 5 = .ptr 0 5 0 ∧ f 6 = .ptr 0 6 0 ∧ f 45 = .list (g.ops.map fun o => .agg o.cells) ∧ f 46 = .int .i64 (g.ops.length : Nat) ∧ f 47 = .int .i64 (i : Nat) ∧ fr 4 = .cells [.list (P.progs.map gav),.list (P.enums.map eav)] ∧ fr 5 = .cells g.cells ∧ fr 6 = .cells (vc v) ∧ ∀ s ∈ [12],(fr s).isRow = false

include hg hv in
theorem ops_loop (f : Fr) (fr : Nat → Ob) (h4 : f 4 = .ptr 0 4 0) (h5 : f 5 = .ptr 0 5 0) (h6 : f 6 = .ptr 0 6 0) (h45 : f 45 = .list (g.ops.map fun o => .agg o.cells)) (h46 : f 46 = .int .i64 (g.ops.length : Nat)) (h47 : f 47 = .int .i64 0)
  (m4 : fr 4 = .cells [.list (P.progs.map gav),.list (P.enums.map eav)]) (m5 : fr 5 = .cells g.cells) (m6 : fr 6 = .cells (vc v)) (r12 : ∀ s ∈ [12],(fr s).isRow = false) (Q : Exit → St → Prop)
  (q1 : misF g v.slots = true → ∀ f fr,f 8 = .int .i64 14 → Q .ret (⟨f,[fr],[]⟩ : St))
  (q2 : misF g v.slots = false → ∀ f fr,f 4 = .ptr 0 4 0 → f 5 = .ptr 0 5 0 → f 6 = .ptr 0 6 0 → fr 4 = .cells [.list (P.progs.map gav),.list (P.enums.map eav)] → fr 5 = .cells g.cells → fr 6 = .cells (vc v) → fr 14 = .none → Q (.exit 3) (⟨f,[fr],[]⟩ : St))
  (r14 : fr 14 = .none) : awp Tryz.prog (.loop l27_1) ⟨f,[fr],[]⟩ Q:=by
 let I : Nat → St → Prop:=fun k st => MoI P g v k st ∧ ∀ f fr,st = ⟨f,[fr],[]⟩ → fr 14 = .none
 have mk : ∀ k st,MoI P g v k st → ∀ f fr,st = ⟨f,[fr],[]⟩ → fr 14 = .none → I k st:=fun k st h f fr e n => ⟨h,fun f' fr' e' => by
  rw [e] at e'
  injection e' with _ e2 _
  injection e2 with e3 _
  rw [← e3]; exact n⟩
 refine awp_loop I _ (mk _ _ ⟨f,fr,0,rfl,rfl,Nat.zero_le _,by simp,h4,h5,h6,h45,h46,h47,m4,m5,m6,r12⟩ _ _ rfl r14) ?_
 clear h4 h5 h6 h45 h46 h47 m4 m5 m6 r12 r14
 rintro _ st ⟨⟨f0,fr0,i,rfl,rfl,hil,hq,h40,h50,h60,h450,h460,h470,m40,m50,m60,r12⟩,r14⟩
 have r14:=r14 _ _ rfl
 refine awp_drops (a:=_) [12] r12 ?_
 intro f fr hf hm hn
 have h4 : f 4 = .ptr 0 4 0:=by rw [hf,h40] <;> rfl
 have h5 : f 5 = .ptr 0 5 0:=by rw [hf,h50] <;> rfl
 have h6 : f 6 = .ptr 0 6 0:=by rw [hf,h60] <;> rfl
 have h45 : f 45 = .list (g.ops.map fun o => .agg o.cells):=by rw [hf,h450] <;> rfl
 have h46 : f 46 = .int .i64 (g.ops.length : Nat):=by rw [hf,h460] <;> rfl
 have h47 : f 47 = .int .i64 (i : Nat):=by rw [hf,h470] <;> rfl
 have m4 : fr 4 = .cells [.list (P.progs.map gav),.list (P.enums.map eav)]:=by rw [hm 4 (by decide),m40] <;> rfl
 have m5 : fr 5 = .cells g.cells:=by rw [hm 5 (by decide),m50] <;> rfl
 have m6 : fr 6 = .cells (vc v):=by rw [hm 6 (by decide),m60] <;> rfl
 have n14 : fr 14 = .none:=by rw [hm 14 (by decide),r14] <;> rfl
 have n12:=hn 12 (by decide)
 clear hf hm hn h40 h50 h60 h450 h460 h470 m40 m50 m60 r12 r14
 have m6':=m6
 simp only [vc] at m6
 simp only [h46,h47,eES,seval]
 by_cases hlt : i < g.ops.length
 ·obtain ⟨o,hi⟩ : ∃ o,g.ops[i]? = some o:=⟨g.ops[i],List.getElem?_eq_getElem hlt⟩
  have hgi:=getO hi
  have e1:=wi64_s i _ hlt hg.len
  have ht : (g.ops.take (i + 1)).any (misO v.slots) = misO v.slots o:=by
   rw [List.take_add_one,hi,List.any_append,hq]
   simp
  have hmi : misO v.slots o = (o.card == 1 && !v.slots.any fun y => y.1 == o.num):=rfl
  have fin : ∀ (f' : Fr) (fr' : Nat → Ob),misO v.slots o = false → f' 4 = .ptr 0 4 0 → f' 5 = .ptr 0 5 0 → f' 6 = .ptr 0 6 0 → f' 45 = .list (g.ops.map fun o => .agg o.cells) → f' 46 = .int .i64 (g.ops.length : Nat) → f' 47 = .int .i64 ((i + 1 : Nat) : Int) → fr' 4 = .cells [.list (P.progs.map gav),.list (P.enums.map eav)] → fr' 5 = .cells g.cells → fr' 6 = .cells (vc v) → (∀ s ∈ [12],(fr' s).isRow = false) → fr' 14 = .none → ∃ k,k < g.ops.length - i ∧ I k ⟨f',[fr'],[]⟩:=by
   intro f' fr' hu b4 b5 b6 b45 b46 b47 c4 c5 c6 c12 c14
   exact ⟨g.ops.length - (i + 1),by omega,mk _ _ ⟨f',fr',i + 1,rfl,rfl,by omega,by rw [ht,hu],b4,b5,b6,b45,b46,b47,c4,c5,c6,c12⟩ _ _ rfl c14⟩
  simp only [lt_t hlt,nneg,Int.toNat_natCast,aiaddr,hgi,n12,splice,List.take_succ_cons,List.take_zero,List.drop_succ_cons,List.drop_zero,List.drop_nil,List.append_nil,List.nil_append,List.length_cons,List.length_nil,h45,h47,eES,eEX,seval]
  cases a1 : (o.card == 1)
  ·rw [a1,Bool.false_and] at hmi
   simp only [h47,e1,eES,seval]
   exact fin _ _ hmi (by exact h4) (by exact h5) (by exact h6) (by exact h45) (by exact h46) (by rfl) (by exact m4) (by exact m5) (by exact m6') (by simp <;> rfl) (by exact n14)
  ·rw [a1,Bool.true_and] at hmi
   have hcl:=fun (fr : Nat → Ob) (h12 : fr 12 = .cells o.cells) => v62 v.slots (by have:=hv.ns; simp only [maxLen]; omega) (fun y => y.1 == o.num) 63 (.ptr 0 12 0) [fr] fun y _ => v63 y o fr h12
   simp only [PO.cells] at hcl
   simp only [h6,m6,eES,eEX,seval]
   refine aops_callF (hcl _ (by rfl)) (by simp only [List.map_cons,List.map_nil,eES,seval] <;> rfl) ?_
   cases a2 : v.slots.any (fun y => y.1 == o.num)
   ·rw [a2] at hmi
    have hany : misF g v.slots = true:=List.any_eq_true.2 ⟨o,List.mem_of_getElem? hi,by show misO v.slots o = true; rw [hmi]; rfl⟩
    simp only [eES,seval]
    exact q1 hany _ _ (by rfl)
   ·rw [a2] at hmi
    simp only [h47,e1,eES,seval]
    exact fin _ _ hmi (by exact h4) (by exact h5) (by exact h6) (by exact h45) (by exact h46) (by rfl) (by exact m4) (by exact m5) (by exact m6') (by simp <;> rfl) (by exact n14)
 ·have hq' : misF g v.slots = false:=by rw [misF_eq,← hq,List.take_of_length_le (by omega)]
  simp only [lt_f hlt,eES,seval]
  exact q2 hq' _ _ (by exact h4) (by exact h5) (by exact h6) (by exact m4) (by exact m5) (by exact m6') (by exact n14)

def MsI (m : PG → V → Int) (P : PL) (lv : Int) (g : PG) (v : V) (k : Nat) (st : St) : Prop :=
 ∃ f fr i,st = ⟨f,[fr],[]⟩ ∧ k = v.slots.length - i ∧ fei (slotF m P g v.slots) v.slots.length 0 = fei (slotF m P g v.slots) (v.slots.length - i) i ∧ f 3 = .int .i64 lv ∧ f 4 = .ptr 0 4 0 ∧ f 5 = .ptr 0 5 0 ∧ f 6 = .ptr 0 6 0 ∧ f 29 = .int .i64 (v.slots.length : Nat) ∧ f 30 = .int .i64 (i : Nat) ∧ fr 4 = .cells [.list (P.progs.map gav),.list (P.enums.map eav)] ∧ fr 5 = .cells g.cells ∧ fr 6 = .cells (vc v) ∧ fr 12 = .none ∧ fr 14 = .none

include hv in
theorem slots_loop (hsl : ∀ i,i < v.slots.length → Fn1 Tryz.prog 61 [P.av,gav g,.list (v.slots.map V.sav),.int .i64 (i : Nat),.int .i64 lv] (.int .i64 (slotF m P g v.slots i)))
  (f : Fr) (fr : Nat → Ob) (h3 : f 3 = .int .i64 lv) (h4 : f 4 = .ptr 0 4 0) (h5 : f 5 = .ptr 0 5 0) (h6 : f 6 = .ptr 0 6 0) (h29 : f 29 = .int .i64 (v.slots.length : Nat)) (h30 : f 30 = .int .i64 0)
  (m4 : fr 4 = .cells [.list (P.progs.map gav),.list (P.enums.map eav)]) (m5 : fr 5 = .cells g.cells) (m6 : fr 6 = .cells (vc v)) (n12 : fr 12 = .none) (n14 : fr 14 = .none) (Q : Exit → St → Prop)
  (q1 : fei (slotF m P g v.slots) v.slots.length 0 ≠ 0 → ∀ f fr,f 8 = .int .i64 (fei (slotF m P g v.slots) v.slots.length 0) → Q .ret (⟨f,[fr],[]⟩ : St))
  (q2 : fei (slotF m P g v.slots) v.slots.length 0 = 0 → ∀ f fr,f 4 = .ptr 0 4 0 → f 5 = .ptr 0 5 0 → f 6 = .ptr 0 6 0 → fr 4 = .cells [.list (P.progs.map gav),.list (P.enums.map eav)] → fr 5 = .cells g.cells → fr 6 = .cells (vc v) → fr 12 = .none → fr 14 = .none → Q (.exit 1) (⟨f,[fr],[]⟩ : St)) :
  awp Tryz.prog (.loop l27_0) ⟨f,[fr],[]⟩ Q:=by
 have e0 : P.av = .agg [.list (P.progs.map gav),.list (P.enums.map eav)]:=rfl
 refine awp_loop (MsI m P lv g v) _ ⟨f,fr,0,rfl,rfl,rfl,h3,h4,h5,h6,h29,h30,m4,m5,m6,n12,n14⟩ ?_
 clear h3 h4 h5 h6 h29 h30 m4 m5 m6 n12 n14
 rintro _ st ⟨f,fr,i,rfl,rfl,hx,h3,h4,h5,h6,h29,h30,m4,m5,m6,n12,n14⟩
 have m5':=m5
 have m6':=m6
 simp only [PG.cells] at m5
 simp only [vc] at m6
 simp only [h29,h30,eES,seval]
 by_cases hlt : i < v.slots.length
 ·have e1:=wi64_s i _ hlt (by have:=hv.ns; simp only [maxLen]; omega)
  have c1:=hsl i hlt
  rw [e0] at c1
  simp only [gav,PG.cells] at c1
  simp only [lt_t hlt,h3,h4,h5,h6,h30,m4,m5,m6,eES,eEX,seval]
  refine aops_call c1 rfl rfl rfl (.inl rfl) ?_
  by_cases hy : slotF m P g v.slots i = 0
  ·rw [fei_go hlt hy] at hx
   have d0 : ((0 : Int) != 0) = false:=rfl
   simp only [hy,d0,h30,e1,eES,seval]
   exact ⟨v.slots.length - (i + 1),by omega,_,_,i + 1,rfl,rfl,hx,(by exact h3),(by exact h4),(by exact h5),(by exact h6),(by exact h29),(by rfl),(by exact m4),(by exact m5'),(by exact m6'),n12,n14⟩
  ·rw [fei_st hlt rfl hy] at hx
   have d1 : (slotF m P g v.slots i != 0) = true:=by simp [hy]
   simp only [d1,eES,seval]
   exact q1 (by rw [hx]; exact hy) _ _ (by rw [hx]; exact (by rfl))
 ·rw [fei_end hlt] at hx
  simp only [lt_f hlt,eES,seval]
  exact q2 hx _ _ (by exact h4) (by exact h5) (by exact h6) (by exact m4) (by exact m5') (by exact m6') n12 n14

include hP in
theorem v27 (hU : Use P) : ∀ n : Nat,n ≤ 16 → ∀ g ∈ P.progs,∀ v : V,v.ok M → Fn1 Tryz.prog 27 [P.av,gav g,v.av,.int .i64 (17 - (n : Int))] (.int .i64 (msgF P n g v)):=by
 have e0 : P.av = .agg [.list (P.progs.map gav),.list (P.enums.map eav)]:=rfl
 intro n
 induction n with
 | zero =>
  intro _ g _ v hv
  have co:=oth_i v hv
  rw [av7] at co
  rw [av7]
  have d0 : decide ((17 : Int) - ((0 : Nat) : Int) > 16) = true:=rfl
  refine k27.fn (by simp) ?_
  simp only [e0,gav,PG.cells,msgF,eES,eEX,seval]
  cases a1 : (v.kd != 10)
  ·simp only [Bool.false_or,eES,eEX,seval]
   refine aops_call co rfl rfl rfl (.inl rfl) ?_
   cases v.oth
   ·simp only [Bool.false_eq_true,eES,seval]
   ·simp only [eES,seval]
  ·simp only [Bool.true_or,eES,seval]
 | succ n ih =>
  intro hn16 g hgm v hv
  have hg:=hP.progs g hgm
  have hu:=hU g hgm
  have hw : IntKind.i64.wrap (17 - ((n + 1 : Nat) : Int) + 1) = 17 - (n : Int):=by rw [wi64]; omega
  have hel:=fun (o : PO) (ho : o ∈ g.ops) (x : V) (hx : x.ok M) => v140 hP hw (fun g hg v hv => ih (by omega) g hg v hv) o (hu o ho) x hx
  have hfi:=fun (o : PO) (ho : o ∈ g.ops) (x : V) (hx : x.ok M) => v101 hP o (hu o ho) x hx (hel o ho)
  have hsl:=fun (i : Nat) (hi : i < v.slots.length) => v61 (P:=P) g hg v.slots (by have:=hv.ns; simp only [maxLen]; omega) i hi hv.slots hfi
  have co:=oth_i v hv
  rw [av7] at co
  rw [av7]
  have d0 : decide ((17 : Int) - ((n + 1 : Nat) : Int) > 16) = false:=decide_eq_false (by omega)
  refine k27.fn (by simp) ?_
  simp only [e0,gav,PG.cells,msgF,eES,eEX,seval]
  cases a1 : (v.kd != 10)
  ·simp only [Bool.false_or,eES,eEX,seval]
   refine aops_call co rfl rfl rfl (.inl rfl) ?_
   cases v.oth
   ·simp only [d0,Bool.false_eq_true,List.length_map,eES,eEX,seval]
    unfold bodyF
    refine slots_loop (lv:=17 - ((n + 1 : Nat) : Int)) g v hv hsl _ _ (by rfl) (by rfl) (by rfl) (by rfl) (by rfl) (by rfl) (by rfl) (by rfl) (by rfl) (by rfl) (by rfl) _ (fun hx f fr h8 => ?_) (fun hx f fr h4 h5 h6 m4 m5 m6 n12 n14 => ?_)
    ·rw [if_neg hx]
     simp only [h8,eES,seval]
    ·rw [if_pos hx]
     have m5':=m5
     simp only [PG.cells] at m5
     simp only [h5,m5,List.length_map,eES,eEX,seval]
     refine ops_loop g hg v hv _ _ (by exact h4) (by exact h5) (by exact h6) (by rfl) (by rfl) (by rfl) (by exact m4) (by exact m5') (by exact m6) (by simp only [List.mem_cons,List.not_mem_nil,or_false,forall_eq,n12] <;> rfl) _ (fun hx f fr h8 => ?_) (fun hx f fr h4 h5 h6 m4 m5 m6 n14 => ?_) (by exact n14)
     ·rw [hx]
      simp only [h8,eES,seval]
     ·rw [hx]
      have m6':=m6
      simp only [vc] at m6
      simp only [Bool.false_eq_true,h6,m6,List.length_map,eES,eEX,seval]
      refine raws_loop hP g hg v hv _ _ (by exact h4) (by exact h5) (by rfl) (by rfl) (by rfl) (by exact m4) (by exact m5) (by simp only [List.mem_cons,List.not_mem_nil,or_false,forall_eq,n14] <;> rfl) _ (fun hx f fr h8 => ?_) (fun hx f fr => ?_)
      ·simp only [h8,eES,seval]
      ·simp only [hx,eES,seval]
   ·simp only [eES,seval]
  ·simp only [Bool.true_or,eES,seval]

end
end Go.Proofs.YtgannjophilbiaaGreatDoor.Va
